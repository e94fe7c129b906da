/- Parts of the proof of ArenaStays: the logic, contracts, plain laws. -/
import Derived.Test.YtofopejmidlceaaDoorZArenaStays2
import Derived.Laws.Strings
import Derived.Laws.NewFold
import Derived.Laws.CopyRow
import Derived.Laws.Tables
import Derived.Great.BuildSlice
/-! Operations, second part: plain values. -/
namespace Go.AL
open Go.RowKit (Below)
set_option linter.unusedVariables false
set_option linter.unusedSimpArgs false
variable {P : Program} {o : Oper} {ρ : Operand → AV} {σ : ASt} {R : AV → ASt → Prop}
theorem opq_move {x : Operand} (ho : o.op = .move x ∨ o.op = .assign x) (hr : R (ρ x) σ) : OpQ P o ρ σ R :=
  opq_val (ρ x) hr fun G e w he hw => ⟨e x, by rcases ho with ho | ho <;> simp [execOp, ho], he x⟩
/-- Does one hold where the other does? (Kept shut, with rules of its own.) -/
def impB (c b : Bool) : Bool := !c || b
@[simp] theorem impB_self (c : Bool) : impB c c = true := by cases c <;> rfl
@[simp] theorem impB_true (b : Bool) : impB true b = b := rfl
@[simp] theorem impB_false (b : Bool) : impB false b = true := rfl
@[simp] theorem impB_to (c : Bool) : impB c true = true := by cases c <;> rfl
@[simp] theorem impB_and1 (a b : Bool) : impB (a && b) a = true := by cases a <;> cases b <;> rfl
@[simp] theorem impB_and2 (a b : Bool) : impB (a && b) b = true := by cases a <;> cases b <;> rfl
@[simp] theorem impB_and3 (a b c : Bool) : impB (a && b && c) a = true := by cases a <;> cases b <;> cases c <;> rfl
@[simp] theorem impB_and4 (a b c : Bool) : impB (a && b && c) b = true := by cases a <;> cases b <;> cases c <;> rfl
@[simp] theorem impB_imp (t c b : Bool) : impB t (impB c b) = impB (c && t) b := by cases t <;> cases c <;> cases b <;> rfl
/-- One of two. -/
def bpick (t a b : Bool) : Bool := if t = true then a else b
@[simp] theorem bpick_true (a b : Bool) : bpick true a b = a := rfl
@[simp] theorem bpick_false (a b : Bool) : bpick false a b = b := rfl
@[simp] theorem bpick_and (t a : Bool) : bpick t a false = (t && a) := by cases t <;> rfl
@[simp] theorem bpick_or (t b : Bool) : bpick t true b = (t || b) := by cases t <;> rfl
/-- A value that is known if so. -/
def sopt (b : Bool) (v : AV) : AV := cond b v (.opt b v)
def strip (c : Bool) : AV → AV
  | .opt b v => sopt (impB c b) v
  | v => v
@[simp] theorem strip_opt (c b : Bool) (v : AV) : strip c (.opt b v) = sopt (impB c b) v := rfl
@[simp] theorem strip_p (c : Bool) (x : Value) : strip c (.p x) = .p x := rfl
@[simp] theorem strip_agg (c : Bool) (x : List AV) : strip c (.agg x) = .agg x := rfl
@[simp] theorem strip_tup (c : Bool) (x : List AV) : strip c (.tup x) = .tup x := rfl
@[simp] theorem strip_ptr (c : Bool) (i o : Nat) : strip c (.ptr i o) = .ptr i o := rfl
@[simp] theorem strip_vsl (c : Bool) (x : List AV) : strip c (.vsl x) = .vsl x := rfl
@[simp] theorem strip_vel (c : Bool) (x : List AV) (i o : Nat) : strip c (.vel x i o) = .vel x i o := rfl
@[simp] theorem strip_hsl (c : Bool) (i o n : Nat) : strip c (.hsl i o n) = .hsl i o n := rfl
@[simp] theorem strip_hel (c : Bool) (i o n : Nat) : strip c (.hel i o n) = .hel i o n := rfl
@[simp] theorem strip_map (c : Bool) (m : Nat) : strip c (.map m) = .map m := rfl
@[simp] theorem strip_fn (c : Bool) (f : Fn) (x y : List AV) : strip c (.fn f x y) = .fn f x y := rfl
@[simp] theorem strip_ifc (c : Bool) (t : TypeId) (v : AV) : strip c (.ifc t v) = .ifc t v := rfl
@[simp] theorem strip_any (c : Bool) : strip c .any = .any := rfl
@[simp] theorem sopt_true (v : AV) : sopt true v = v := rfl
@[simp] theorem sopt_false (v : AV) : sopt false v = .opt false v := rfl
@[simp] theorem strip_sopt_p (t b : Bool) (x : Value) : strip t (sopt b (.p x)) = sopt (impB t b) (.p x) := by cases b <;> cases t <;> rfl
@[simp] theorem strip_sopt_agg (t b : Bool) (x : List AV) : strip t (sopt b (.agg x)) = sopt (impB t b) (.agg x) := by cases b <;> cases t <;> rfl
@[simp] theorem strip_sopt_tup (t b : Bool) (x : List AV) : strip t (sopt b (.tup x)) = sopt (impB t b) (.tup x) := by cases b <;> cases t <;> rfl
@[simp] theorem strip_sopt_vsl (t b : Bool) (x : List AV) : strip t (sopt b (.vsl x)) = sopt (impB t b) (.vsl x) := by cases b <;> cases t <;> rfl
@[simp] theorem strip_sopt_vel (t b : Bool) (x : List AV) (i o : Nat) : strip t (sopt b (.vel x i o)) = sopt (impB t b) (.vel x i o) := by cases b <;> cases t <;> rfl
@[simp] theorem strip_sopt_ptr (t b : Bool) (i o : Nat) : strip t (sopt b (.ptr i o)) = sopt (impB t b) (.ptr i o) := by cases b <;> cases t <;> rfl
@[simp] theorem strip_sopt_fn (t b : Bool) (f : Fn) (x y : List AV) : strip t (sopt b (.fn f x y)) = sopt (impB t b) (.fn f x y) := by cases b <;> cases t <;> rfl
theorem strip_rep {c : Bool} (hc : c = true) {x : AV} {G w u} (hx : Rep G w x u) : Rep G w (strip c x) u := by
  by_cases h : ∃ b v, x = .opt b v
  · obtain ⟨b, v, rfl⟩ := h
    subst hc
    simp only [strip, impB_true]
    cases b with
    | true =>
      cases hx with
      | opt _ _ _ h _ => exact h rfl
    | false => exact hx
  · have : strip c x = x := by cases x <;> first | rfl | exact absurd ⟨_, _, rfl⟩ h
    rw [this]; exact hx
def apick2 (t : Bool) : AV → AV → AV
  | .p (.bool a), .p (.bool b) => .p (.bool (bpick t a b))
  | x, y => if t = true then x else y
def apick (t : Bool) (x y : AV) : AV := apick2 t (strip t x) (strip (!t) y)
theorem apick_rep {t : Bool} {x y : AV} {G w u v} (hx : Rep G w x u) (hy : Rep G w y v) : Rep G w (apick t x y) (if t then u else v) := by
  unfold apick
  cases t with
  | true =>
    have h := strip_rep (c := true) rfl hx
    generalize strip true x = a at h
    generalize strip (!true) y = b
    unfold apick2
    split
    · cases h; exact .p _
    · exact h
  | false =>
    have h := strip_rep (c := !false) rfl hy
    generalize strip false x = a
    generalize strip (!false) y = b at h
    unfold apick2
    split
    · cases h; exact .p _
    · exact h
theorem opq_pick {c a b : Operand} (ho : o.op = .pick c a b) {t : Bool} (hc : ρ c = .p (.bool t)) (hr : R (apick t (ρ a) (ρ b)) σ) : OpQ P o ρ σ R := by
  refine opq_val _ hr fun G e w he hw => ⟨if t then e a else e b, ?_, apick_rep (he a) (he b)⟩
  have h := he c
  rw [hc] at h
  generalize ha : e c = v at h
  cases h
  simp [execOp, ho, ha, asBool]
theorem opq_extract {x : Operand} {i : Nat} (ho : o.op = .extract x i) {cs : List AV} (hx : ρ x = .tup cs) {r : AV} (hi : cs[i]? = some r) (hr : R r σ) : OpQ P o ρ σ R := by
  refine opq_val _ hr fun G e w he hw => ?_
  have h := he x
  rw [hx] at h
  generalize ha : e x = v at h
  cases h with
  | tup _ vs hs hc =>
    have hlt : i < vs.size := by rw [← hs]; exact (List.getElem?_eq_some_iff.1 hi).1
    exact ⟨vs[i], by simp [execOp, ho, ha, Instr.extract, hlt], hc i r _ hi (Array.getElem?_eq_getElem hlt)⟩
theorem opq_makeInterface {x : Operand} {t : TypeId} (ho : o.op = .makeInterface t x) (hi : isIface P t = false) (hr : R (.ifc t (ρ x)) σ) : OpQ P o ρ σ R := by
  refine opq_val _ hr fun G e w he hw => ⟨.iface t (e x), ?_, .ifc t _ _ (he x)⟩
  unfold isIface at hi
  cases hd : P.underlying t with
  | none => rw [hd] at hi; cases hi
  | some d =>
    rw [hd] at hi
    have hI : (Instr.makeInterface t (e x)).run P w = .ok (.iface t (e x)) w := by
      simp only [Instr.makeInterface, Sem.run_bind, run_underlying' hd, Result.andThen_ok]
      cases d <;> first | rfl | cases hi
    simp [execOp, ho, hI]
def anilCheck : AV → Bool
  | .ptr _ _ | .vel _ _ _ | .hel _ _ _ | .ifc _ _ => true
  | .fn (.func _) _ _ | .fn (.yield _) _ _ | .fn (.via _ _ _ _) _ _ => true
  | .p (.func (.func _) _ _) => true
  | .p (.pointer (some _)) => true
  | _ => false
theorem opq_nilCheck {x : Operand} (ho : o.op = .nilCheck x) (hx : anilCheck (ρ x) = true) (hr : R (ρ x) σ) : OpQ P o ρ σ R := by
  refine opq_val _ hr fun G e w he hw => ⟨e x, ?_, he x⟩
  have h := he x
  generalize ρ x = c at h hx
  generalize ha : e x = v at h
  cases h with
  | p =>
    cases v with
    | pointer a => cases a with
      | none => cases hx
      | some a => simp [execOp, ho, ha]
    | func f aa bs =>
      cases f with
      | func f => simp [execOp, ho, ha]
      | _ => cases hx
    | _ => cases hx
  | fn f aa bs us vs h1 h2 h3 h4 =>
    cases f with
    | func f => simp [execOp, ho, ha]
    | yield f => simp [execOp, ho, ha]
    | via _ _ _ _ => simp [execOp, ho, ha]
    | _ => cases hx
  | ptr => simp [execOp, ho, ha]
  | vel => simp [execOp, ho, ha]
  | hel => simp [execOp, ho, ha]
  | ifc => simp [execOp, ho, ha]
  | _ => cases hx
/-! ### numbers and texts -/
def aint (op : BinOp) (k : IntKind) (a b : Int) : Option Value :=
  match op with
  | .add => some (.int k (k.wrap (a + b)))
  | .sub => some (.int k (k.wrap (a - b)))
  | .mul => some (.int k (k.wrap (a * b)))
  | .quo => if b = 0 then none else some (.int k (k.wrap (a.tdiv b)))
  | .rem => if b = 0 then none else some (.int k (a.tmod b))
  | .and => some (.int k (k.wrap (BitVec.ofInt k.bits a &&& BitVec.ofInt k.bits b).toNat))
  | .or => some (.int k (k.wrap (BitVec.ofInt k.bits a ||| BitVec.ofInt k.bits b).toNat))
  | .xor => some (.int k (k.wrap (BitVec.ofInt k.bits a ^^^ BitVec.ofInt k.bits b).toNat))
  | .andNot => some (.int k (k.wrap (BitVec.ofInt k.bits a &&& ~~~BitVec.ofInt k.bits b).toNat))
  | .eql => some (.bool (decide (a = b)))
  | .neq => some (.bool (!decide (a = b)))
  | .lss => some (.bool (decide (a < b)))
  | .leq => some (.bool (decide (a ≤ b)))
  | .gtr => some (.bool (decide (b < a)))
  | .geq => some (.bool (decide (b ≤ a)))
  | .shl | .shr => none
def ashiftN (op : BinOp) (k : IntKind) (a b : Int) : Option Value :=
  if b < 0 then none else
  match op with
  | .shl => some (.int k (k.wrap (a * 2 ^ (min b.toNat k.bits))))
  | .shr => some (.int k (a.fdiv (2 ^ (min b.toNat k.bits))))
  | _ => none
def astr (op : BinOp) (a b : ByteArray) : Option Value :=
  match op with
  | .add => if a.size + b.size ≤ 9223372036854775807 then some (.string (a ++ b)) else none
  | .eql => some (.bool (decide (a = b)))
  | .neq => some (.bool (!decide (a = b)))
  | .lss => some (.bool (Op.bytesLess a.data.toList b.data.toList))
  | .leq => some (.bool (Op.bytesLess a.data.toList b.data.toList || decide (a = b)))
  | .gtr => some (.bool (!(Op.bytesLess a.data.toList b.data.toList || decide (a = b))))
  | .geq => some (.bool (!Op.bytesLess a.data.toList b.data.toList))
  | _ => none
theorem beq_toList (a b : ByteArray) : (a.toList == b.toList) = decide (a = b) := by
  rw [ByteArray.toList_eq, ByteArray.toList_eq]
  by_cases h : a = b
  · subst h; simp
  · simp only [h, decide_false]
    rw [beq_eq_false_iff_ne]
    intro e
    exact h (by cases a; cases b; simp_all [Array.toList_inj])
/-- What kind of type it is, for what is held against nil. -/
def tkind (P : Program) (t : TypeId) : Nat :=
  match P.underlying t with
  | some .bool => 1
  | some (.pointer _) => 2
  | some (.interface _) => 3
  | some (.slice _) => 4
  | some (.map _ _) => 5
  | some (.func _ _ _) => 6
  | _ => 0
/-- Is it nil? -/
def aisNil (k : Nat) : AV → Option Bool
  | .p (.pointer none) => if k = 2 then some true else none
  | .p (.pointer (some _)) | .ptr _ _ | .vel _ _ _ | .hel _ _ _ => if k = 2 then some false else none
  | .p .nilIface => if k = 3 then some true else none
  | .ifc _ _ | .p (.iface _ _) => if k = 3 then some false else none
  | .p (.slice none _ _) => if k = 4 then some true else none
  | .p (.slice (some _) _ _) => if k = 4 then some false else none
  | .vsl xs => if k = 4 then (if xs.isEmpty then none else some false) else none
  | .hsl _ _ n => if k = 4 then (if n = 0 then none else some false) else none
  | .p (.map none) => if k = 5 then some true else none
  | .map _ => if k = 5 then some false else none
  | .p .nilFunc => if k = 6 then some true else none
  | .fn _ _ _ | .p (.func _ _ _) => if k = 6 then some false else none
  | _ => none
def isNilC (k : Nat) : AV → Bool
  | .p (.pointer none) => k = 2
  | .p .nilIface => k = 3
  | .p (.slice none 0 0) => k = 4
  | .p (.map none) => k = 5
  | .p .nilFunc => k = 6
  | _ => false
def abin (P : Program) (op : BinOp) (t : TypeId) (x y : AV) : Option Value :=
  match x, y with
  | .p (.int k a), .p (.int k' b) =>
    match op with
    | .shl | .shr => ashiftN op k a b
    | _ => if k = k' then aint op k a b else none
  | .p (.string a), .p (.string b) => astr op a b
  | .p (.bool a), .p (.bool b) => if tkind P t = 1 then (match op with | .eql => some (.bool (a == b)) | .neq => some (.bool (a != b)) | _ => none) else none
  | x, y =>
    if isNilC (tkind P t) y = true then
      match op with
      | .eql => (aisNil (tkind P t) x).map .bool
      | .neq => (aisNil (tkind P t) x).map fun b => .bool !b
      | _ => none
    else none
theorem run_eqGuard {op : BinOp} {t : TypeId} {x y : Operand} {a b : Value} (h1 : ∀ cs ds, a = .agg cs → b = .agg ds → False) (h2 : a = .nilIface → b = .nilIface → (∃ v, x = .const v) ∨ ∃ v, y = .const v) (w : World) :
    (eqGuard op t x y a b).run P w = .ok () w := by
  unfold eqGuard
  cases op <;> first
    | rfl
    | (cases a <;> cases b <;> first
        | rfl
        | exact (h1 _ _ rfl rfl).elim
        | (rcases h2 rfl rfl with ⟨v, rfl⟩ | ⟨v, rfl⟩ <;> simp))
theorem run_binOp_int {op : BinOp} {k : IntKind} {a b : Int} {t : TypeId} {v : Value} (h : aint op k a b = some v) (w : World) : (binOp op t (.int k a) (.int k b)).run P w = .ok v w := by
  have hk : ∀ s, (if k ≠ k then (stuck "BinOp: operands of different kinds" : Sem Value) else s) = s := fun s => if_neg (by simp)
  cases op <;> simp only [aint] at h
  case quo =>
    split at h
    · cases h
    · rename_i h0
      obtain rfl := Option.some.inj h
      simp only [binOp, hk, Op.intDiv, if_neg h0]
      rfl
  case rem =>
    split at h
    · cases h
    · rename_i h0
      obtain rfl := Option.some.inj h
      simp only [binOp, hk, Op.intDiv, if_neg h0]
      rfl
  case shl => cases h
  case shr => cases h
  case eql => obtain rfl := Option.some.inj h; simp only [binOp, hk, Op.intCmp]; rfl
  case neq => obtain rfl := Option.some.inj h; simp only [binOp, hk, Op.intCmp]; rfl
  all_goals (obtain rfl := Option.some.inj h; simp only [binOp, hk]; rfl)
theorem run_binOp_shift {op : BinOp} {k k' : IntKind} {a b : Int} {t : TypeId} {v : Value} (hop : op = .shl ∨ op = .shr) (h : ashiftN op k a b = some v) (w : World) : (binOp op t (.int k a) (.int k' b)).run P w = .ok v w := by
  unfold ashiftN at h
  split at h
  · cases h
  · rename_i h0
    rcases hop with rfl | rfl <;> (simp only [Option.some.injEq] at h; subst h; simp [binOp, Op.shift, h0])
theorem run_binOp_str {op : BinOp} {a b : ByteArray} {t : TypeId} {v : Value} (h : astr op a b = some v) (w : World) : (binOp op t (.string a) (.string b)).run P w = .ok v w := by
  by_cases hop : op = .add
  · subst hop
    simp only [astr] at h
    split at h
    · rename_i h0
      obtain rfl := Option.some.inj h
      have : ¬ ((a.size + b.size : Nat) : Int) > IntKind.i64.max := by
        have : IntKind.i64.max = 9223372036854775807 := by decide
        omega
      simp only [binOp, Op.stringOp, if_neg this]
      rfl
    · cases h
  cases op <;> simp only [astr, Option.some.injEq, reduceCtorEq] at h <;> first
    | exact absurd rfl hop
    | (subst h; simp [binOp, Op.stringOp, beq_toList, ByteArray.toList_eq]; done)
    | (subst h
       have e := beq_toList a b
       rw [ByteArray.toList_eq, ByteArray.toList_eq] at e
       simp [binOp, Op.stringOp, ByteArray.toList_eq, e, bne]
       done)
theorem tkind_spec {t : TypeId} {k : Nat} (h : tkind P t = k) (hk : k ≠ 0) : ∃ d, P.underlying t = some d ∧ ((k = 1 ∧ d = .bool) ∨ (k = 2 ∧ ∃ e, d = .pointer e) ∨ (k = 3 ∧ ∃ e, d = .interface e) ∨ (k = 4 ∧ ∃ e, d = .slice e) ∨ (k = 5 ∧ ∃ e f, d = .map e f) ∨ (k = 6 ∧ ∃ a b c, d = .func a b c)) := by
  unfold tkind at h
  split at h <;> rename_i hd
  · exact ⟨_, hd, by simp [← h]⟩
  · exact ⟨_, hd, by simp [← h]⟩
  · exact ⟨_, hd, by simp [← h]⟩
  · exact ⟨_, hd, by simp [← h]⟩
  · exact ⟨_, hd, by simp [← h]⟩
  · exact ⟨_, hd, by simp [← h]⟩
  · exact absurd h.symm hk
theorem run_equal_bool {t : TypeId} (h : tkind P t = 1) (a b : Bool) (w : World) : (Op.equal t (.bool a) (.bool b)).run P w = .ok (a == b) w := by
  obtain ⟨d, hd, hk⟩ := tkind_spec h (by simp)
  have : d = .bool := by simpa using hk
  subst this
  have key : ∀ n, (Op.equalIn (n + 1) t (.bool a) (.bool b)).run P w = .ok (a == b) w := fun n => by simp [Op.equalIn, run_underlying' hd]
  exact key 9999
/-- What it means to be nil, of a kind. -/
def NilAs : Nat → Value → Bool → Prop
  | 2, .pointer a, b => a.isNone = b
  | 3, .nilIface, b => b = true
  | 3, .iface _ _, b => b = false
  | 4, .slice a _ _, b => a.isNone = b
  | 5, .map a, b => a.isNone = b
  | 6, .nilFunc, b => b = true
  | 6, .func _ _ _, b => b = false
  | _, _, _ => False
theorem ite_some {c : Prop} [Decidable c] {b b' : Bool} (h : (if c then some b else none) = some b') : c ∧ b = b' := by
  split at h
  · rename_i hc; exact ⟨hc, Option.some.inj h⟩
  · cases h
theorem aisNil_spec {k : Nat} {x : AV} {b : Bool} (hx : aisNil k x = some b) {G w u} (hu : Rep G w x u) : NilAs k u b := by
  cases hu with
  | p =>
    cases u with
    | pointer a => cases a <;> (obtain ⟨rfl, rfl⟩ := ite_some hx; rfl)
    | nilIface => obtain ⟨rfl, rfl⟩ := ite_some hx; rfl
    | iface t z => obtain ⟨rfl, rfl⟩ := ite_some hx; rfl
    | slice a n c => cases a <;> (obtain ⟨rfl, rfl⟩ := ite_some hx; rfl)
    | map a => cases a with
      | none => obtain ⟨rfl, rfl⟩ := ite_some hx; rfl
      | some a => cases hx
    | nilFunc => obtain ⟨rfl, rfl⟩ := ite_some hx; rfl
    | func _ _ _ => obtain ⟨rfl, rfl⟩ := ite_some hx; rfl
    | _ => cases hx
  | ptr => obtain ⟨rfl, rfl⟩ := ite_some hx; rfl
  | vel => obtain ⟨rfl, rfl⟩ := ite_some hx; rfl
  | hel => obtain ⟨rfl, rfl⟩ := ite_some hx; rfl
  | ifc => obtain ⟨rfl, rfl⟩ := ite_some hx; rfl
  | map => obtain ⟨rfl, rfl⟩ := ite_some hx; rfl
  | fn => obtain ⟨rfl, rfl⟩ := ite_some hx; rfl
  | vnil => simp [aisNil] at hx
  | vsl xs => simp [aisNil] at hx; obtain ⟨rfl, _, rfl⟩ := hx; rfl
  | hsl b off len => simp [aisNil] at hx; obtain ⟨rfl, _, rfl⟩ := hx; rfl
  | hend => simp [aisNil] at hx
  | hnil => simp [aisNil] at hx
  | _ => cases hx
theorem isNilC_spec {k : Nat} {y : AV} (hy : isNilC k y = true) {G w v} (hv : Rep G w y v) : (k = 2 ∧ v = .pointer none) ∨ (k = 3 ∧ v = .nilIface) ∨ (k = 4 ∧ v = .slice none 0 0) ∨ (k = 5 ∧ v = .map none) ∨ (k = 6 ∧ v = .nilFunc) := by
  cases hv with
  | p =>
    cases v with
    | pointer a => cases a with
      | none => have := of_decide_eq_true hy; simp [this]
      | some a => cases hy
    | nilIface => have := of_decide_eq_true hy; simp [this]
    | slice a n c =>
      unfold isNilC at hy
      split at hy <;> simp_all
    | map a => cases a with
      | none => have := of_decide_eq_true hy; simp [this]
      | some a => cases hy
    | nilFunc => have := of_decide_eq_true hy; simp [this]
    | _ => cases hy
  | _ => cases hy
theorem run_equal_nil {t : TypeId} {x y : AV} {b : Bool} (hy : isNilC (tkind P t) y = true) (hx : aisNil (tkind P t) x = some b) {G w u v} (hu : Rep G w x u) (hv : Rep G w y v) (n : Nat) : (Op.equalIn (n + 1) t u v).run P w = .ok b w := by
  have hu' := aisNil_spec hx hu
  have hv' := isNilC_spec hy hv
  obtain ⟨d, hd, hd2⟩ := tkind_spec (t := t) (P := P) rfl (by rcases hv' with ⟨h, _⟩ | ⟨h, _⟩ | ⟨h, _⟩ | ⟨h, _⟩ | ⟨h, _⟩ <;> omega)
  generalize tkind P t = k at *
  rcases hv' with ⟨rfl, rfl⟩ | ⟨rfl, rfl⟩ | ⟨rfl, rfl⟩ | ⟨rfl, rfl⟩ | ⟨rfl, rfl⟩
  · obtain ⟨e, rfl⟩ : ∃ e, d = .pointer e := by simpa using hd2
    cases u with
    | pointer a => cases a <;> (simp only [NilAs] at hu'; subst hu'; simp only [Op.equalIn, Sem.run_bind, run_underlying' hd, Result.andThen_ok]; rfl)
    | _ => exact hu'.elim
  · obtain ⟨e, rfl⟩ : ∃ e, d = .interface e := by simpa using hd2
    cases u with
    | nilIface => simp only [NilAs] at hu'; subst hu'; simp only [Op.equalIn, Sem.run_bind, run_underlying' hd, Result.andThen_ok]; rfl
    | iface _ _ => simp only [NilAs] at hu'; subst hu'; simp only [Op.equalIn, Sem.run_bind, run_underlying' hd, Result.andThen_ok]; rfl
    | _ => exact hu'.elim
  · obtain ⟨e, rfl⟩ : ∃ e, d = .slice e := by simpa using hd2
    cases u with
    | slice a _ _ => cases a <;> (simp only [NilAs] at hu'; subst hu'; simp only [Op.equalIn, Sem.run_bind, run_underlying' hd, Result.andThen_ok]; rfl)
    | _ => exact hu'.elim
  · obtain ⟨e, f, rfl⟩ : ∃ e f, d = .map e f := by simpa using hd2
    cases u with
    | map a => cases a <;> (simp only [NilAs] at hu'; subst hu'; simp only [Op.equalIn, Sem.run_bind, run_underlying' hd, Result.andThen_ok]; rfl)
    | _ => exact hu'.elim
  · obtain ⟨e, f, g, rfl⟩ : ∃ e f g, d = .func e f g := by simpa using hd2
    cases u with
    | nilFunc => simp only [NilAs] at hu'; subst hu'; simp only [Op.equalIn, Sem.run_bind, run_underlying' hd, Result.andThen_ok]; rfl
    | func _ _ _ => simp only [NilAs] at hu'; subst hu'; simp only [Op.equalIn, Sem.run_bind, run_underlying' hd, Result.andThen_ok]; rfl
    | _ => exact hu'.elim
def isConstO : Operand → Bool
  | .const _ => true
  | _ => false
theorem opq_binOp {op : BinOp} {t t2 : TypeId} {x y : Operand} (ho : o.op = .binOp op t x y t2) {v : Value} (h : abin P op t (ρ x) (ρ y) = some v) (hc : tkind P t = 3 → isConstO y = true) (hr : R (.p v) σ) : OpQ P o ρ σ R := by
  refine opq_v (s := fun e => do eqGuard op t x y (e x) (e y); binOp op t (e x) (e y)) (fun e => by simp only [execOp, ho]) (.p v) hr fun G e w he hw => ⟨v, ?_, .p v⟩
  have hx := he x
  have hy := he y
  generalize ρ x = cx at h hx
  generalize ρ y = cy at h hy
  generalize e x = vx at hx
  generalize e y = vy at hy
  simp only [Sem.run_bind]
  unfold abin at h
  split at h
  · cases hx; cases hy
    rw [run_eqGuard (by intros; contradiction) (by intros; contradiction)]
    simp only [Result.andThen_ok]
    split at h
    · exact run_binOp_shift (.inl rfl) h w
    · exact run_binOp_shift (.inr rfl) h w
    · split at h
      · rename_i hk
        subst hk
        exact run_binOp_int h w
      · cases h
  · cases hx; cases hy
    rw [run_eqGuard (by intros; contradiction) (by intros; contradiction)]
    exact run_binOp_str h w
  · cases hx; cases hy
    rw [run_eqGuard (by intros; contradiction) (by intros; contradiction)]
    simp only [Result.andThen_ok]
    split at h
    · rename_i ht
      split at h
      · obtain rfl := Option.some.inj h
        simp [binOp, run_equal_bool ht]
      · obtain rfl := Option.some.inj h
        simp [binOp, run_equal_bool ht, bne]
      · cases h
    · cases h
  · rename_i hni hns hnb
    split at h
    · rename_i hyn
      have hg : (eqGuard op t x y vx vy).run P w = .ok () w := by
        refine run_eqGuard (fun cs ds e1 e2 => ?_) (fun e1 e2 => ?_) w
        · subst e2
          cases hy with
          | p => cases hyn
          | agg => cases hyn
          | any => cases hyn
          | opt => cases hyn
        · subst e1 e2
          have : tkind P t = 3 := by
            cases hy with
            | p => simpa [isNilC] using hyn
            | any => cases hyn
            | opt => cases hyn
          have hcy := hc this
          cases y with
          | const v => exact .inr ⟨_, rfl⟩
          | _ => cases hcy
      rw [hg]
      simp only [Result.andThen_ok]
      have hsplit : ∀ b, aisNil (tkind P t) cx = some b → (Op.equal t vx vy).run P w = .ok b w := fun b hb => run_equal_nil hyn hb hx hy 9999
      have hbin : ∀ (q : BinOp), (q = .eql ∨ q = .neq) → (binOp q t vx vy) = (if q = .eql then (do pure (.bool (← Op.equal t vx vy))) else (do pure (.bool (!(← Op.equal t vx vy))))) := by
        intro q hq
        cases hy with
        | any => cases hyn
        | opt => cases hyn
        | p =>
          have hy2 : (∃ a, vy = .pointer a) ∨ vy = .nilIface ∨ (∃ a b c, vy = .slice a b c) ∨ (∃ a, vy = .map a) ∨ vy = .nilFunc := by
            cases vy <;> first | cases hyn | simp
          rcases hq with rfl | rfl <;> rcases hy2 with ⟨a, rfl⟩ | rfl | ⟨a, b, c, rfl⟩ | ⟨a, rfl⟩ | rfl <;> cases vx <;> rfl
        | _ => cases hyn
      split at h
      · obtain ⟨b, hb, rfl⟩ := Option.map_eq_some_iff.1 h
        rw [hbin .eql (.inl rfl)]
        simp [hsplit b hb]
      · obtain ⟨b, hb, rfl⟩ := Option.map_eq_some_iff.1 h
        rw [hbin .neq (.inr rfl)]
        simp [hsplit b hb]
      · cases h
    · cases h
end Go.AL
/-! Operations, third part: lengths, indexes, cuts, boxes, stores, structs. -/
namespace Go.AL
open Go.RowKit (Below)
set_option linter.unusedVariables false
set_option linter.unusedSimpArgs false
variable {P : Program} {o : Oper} {ρ : Operand → AV} {σ : ASt} {R : AV → ASt → Prop}
theorem execOp_builtin (e : Operand → Value) {b : Builtin} {args : Array Operand} {ts : Array TypeId} (ho : o.op = .call { callee := .builtin b, args := args, argTypes := ts }) :
    execOp e o = builtin b ts o.type (args.map fun | .const _ => true | _ => false) (args.map e) := by
  simp only [execOp, ho, resolve]
  rfl
/-! ### len, min, max -/
def isIt : List (AV × AV) → Bool
  | [(.vsl [.agg [], .agg [.any]], _)] => true
  | _ => false
def alen (P : Program) (σ : ASt) (t : TypeId) : AV → Option Int
  | .p (.string s) => if isString P t = true then some s.size else none
  | .vsl xs => if isSlice P t = true then some xs.length else none
  | .hsl _ _ n => if isSlice P t = true then some n else none
  | .p (.slice _ n _) => if isSlice P t = true then some n else none
  | .map m => if isMapT P t = true then (σ.mp m).bind fun es => if isIt es = true then none else some (es.length : Int) else none
  | .p (.map none) => if isMapT P t = true then some 0 else none
  | _ => none
theorem isSlice_spec {t : TypeId} (h : isSlice P t = true) : ∃ e, P.underlying t = some (.slice e) := by
  unfold isSlice at h; split at h
  · exact ⟨_, by assumption⟩
  · cases h
theorem isString_spec {t : TypeId} (h : isString P t = true) : P.underlying t = some .string := by
  unfold isString at h; split at h
  · assumption
  · cases h
theorem isMapT_spec {t : TypeId} (h : isMapT P t = true) : ∃ k e, P.underlying t = some (.map k e) := by
  unfold isMapT at h; split at h
  · exact ⟨_, _, by assumption⟩
  · cases h
theorem ite_some' {α : Type} {c : Prop} [Decidable c] {b : Option α} {b' : α} (h : (if c then b else none) = some b') : c ∧ b = some b' := by
  split at h
  · rename_i hc; exact ⟨hc, h⟩
  · cases h
theorem run_getObj_map {w : World} {r : Nat} {es : Array MapEntry} {c : Nat} (h : w.heap[r]? = some (.map es c)) : (getObj r).run P w = .ok (.map es c) w := by
  simp [getObj, Sem.run, h]
theorem run_len_of {t ty : TypeId} {x : AV} {n : Int} (h : alen P σ t x = some n) {G w v} (hw : SimW G σ w) (hx : Rep G w x v) : (Builtin.len_ #[t] ty #[v]).run P w = .ok (.int .i64 n) w := by
  cases hx with
  | p =>
    cases v with
    | string s =>
      obtain ⟨ht, hn⟩ := ite_some' h
      obtain rfl := Option.some.inj hn
      simp [Builtin.len_, run_underlying' (isString_spec ht), goInt]
    | slice a l c =>
      obtain ⟨ht, hn⟩ := ite_some' h
      obtain rfl := Option.some.inj hn
      obtain ⟨e, he⟩ := isSlice_spec ht
      simp [Builtin.len_, run_underlying' he, goInt]
    | map r =>
      cases r with
      | some r => cases h
      | none =>
        obtain ⟨ht, hn⟩ := ite_some' h
        obtain rfl := Option.some.inj hn
        obtain ⟨k, e, he⟩ := isMapT_spec ht
        simp [Builtin.len_, run_underlying' he, goInt]
    | _ => cases h
  | vnil a cap =>
    obtain ⟨ht, hn⟩ := ite_some' h
    obtain rfl := Option.some.inj hn
    obtain ⟨e, he⟩ := isSlice_spec ht
    simp [Builtin.len_, run_underlying' he, goInt]
  | vsl xs =>
    obtain ⟨ht, hn⟩ := ite_some' h
    obtain rfl := Option.some.inj hn
    obtain ⟨e, he⟩ := isSlice_spec ht
    simp [Builtin.len_, run_underlying' he, goInt]
  | hsl =>
    obtain ⟨ht, hn⟩ := ite_some' h
    obtain rfl := Option.some.inj hn
    obtain ⟨e, he⟩ := isSlice_spec ht
    simp [Builtin.len_, run_underlying' he, goInt]
  | hend =>
    obtain ⟨ht, hn⟩ := ite_some' h
    obtain rfl := Option.some.inj hn
    obtain ⟨e, he⟩ := isSlice_spec ht
    simp [Builtin.len_, run_underlying' he, goInt]
  | hnil =>
    obtain ⟨ht, hn⟩ := ite_some' h
    obtain rfl := Option.some.inj hn
    obtain ⟨e, he⟩ := isSlice_spec ht
    simp [Builtin.len_, run_underlying' he, goInt]
  | map m μ g =>
    obtain ⟨ht, hn⟩ := ite_some' h
    obtain ⟨es, hm, hn⟩ := Option.bind_eq_some_iff.1 hn
    obtain ⟨hit, rfl⟩ : isIt es = false ∧ (es.length : Int) = n := by
      split at hn
      · cases hn
      · rename_i h; exact ⟨by simpa using h, Option.some.inj hn⟩
    obtain ⟨k, e, he⟩ := isMapT_spec ht
    obtain ⟨μ', ents, clock, h1, h2, h3, _⟩ : ∃ μ ents clock, G.mp m = some μ ∧ w.heap[μ]? = some (.map ents clock) ∧ ents.size = es.length ∧ True := by
      rcases hw.mp m es hm with ⟨μ, ents, clock, h1, h2, h3, _⟩ | ⟨μ, ob, ofr, _, _, _, rfl⟩
      · exact ⟨μ, ents, clock, h1, h2, h3, trivial⟩
      · cases hit
    obtain rfl := Option.some.inj (g.symm.trans h1)
    simp [Builtin.len_, run_underlying' he, goInt, run_getObj_map h2, h3]
  | _ => cases h
theorem opq_len {t : TypeId} {x : Operand} (ho : o.op = .call { callee := .builtin .len, args := #[x], argTypes := #[t] }) {n : Int} (h : alen P σ t (ρ x) = some n) (hr : R (.p (.int .i64 n)) σ) : OpQ P o ρ σ R := by
  refine opq_v (s := fun e => Builtin.len_ #[t] o.type #[e x]) (fun e => by rw [execOp_builtin e ho]; simp [builtin]) _ hr fun G e w he hw => ⟨_, run_len_of h hw (he x), .p _⟩
def amm (mx : Bool) : AV → AV → Option Value
  | .p (.int k a), .p (.int _ b) => some (.int k (if mx = true then (if b > a then b else a) else (if b < a then b else a)))
  | _, _ => none
theorem opq_mm {ts : Array TypeId} {x y : Operand} {mx : Bool} (ho : o.op = .call { callee := .builtin (if mx = true then .max else .min), args := #[x, y], argTypes := ts }) {v : Value} (h : amm mx (ρ x) (ρ y) = some v) (hr : R (.p v) σ) : OpQ P o ρ σ R := by
  refine opq_val (.p v) hr fun G e w he hw => ⟨v, ?_, .p v⟩
  rw [execOp_builtin e ho]
  have hx := he x
  have hy := he y
  generalize ρ x = cx at h hx
  generalize ρ y = cy at h hy
  simp only [Array.map, List.map_toArray]
  unfold amm at h
  split at h
  · generalize hvx : e x = vx at hx
    generalize hvy : e y = vy at hy
    cases hx; cases hy
    obtain rfl := Option.some.inj h
    cases mx
    · simp [builtin, Builtin.min_, Builtin.min2, hvx, hvy]
    · simp [builtin, Builtin.max_, Builtin.max2, hvx, hvy]
  · cases h
/-! ### one operand -/
def aun (op : UnOp) : AV → Option Value
  | .p (.int k n) => match op with
    | .neg => some (.int k (k.wrap (0 - n)))
    | _ => none
  | .p (.bool b) => match op with
    | .not => some (.bool !b)
    | _ => none
  | _ => none
theorem opq_unOp {op : UnOp} {t : TypeId} {x : Operand} (ho : o.op = .unOp op t x) {v : Value} (h : aun op (ρ x) = some v) (hr : R (.p v) σ) : OpQ P o ρ σ R := by
  refine opq_v (s := fun e => Op.unary op (e x)) (fun e => by simp only [execOp, ho]) (.p v) hr fun G e w he hw => ⟨v, ?_, .p v⟩
  have hx := he x
  generalize ρ x = cx at h hx
  generalize e x = vx at hx
  unfold aun at h
  split at h
  · cases hx
    split at h
    · obtain rfl := Option.some.inj h; rfl
    · cases h
  · cases hx
    split at h
    · obtain rfl := Option.some.inj h; rfl
    · cases h
  · cases h
def aconv (P : Program) (src dst : TypeId) : AV → Option Value
  | .p (.int _ n) => match P.underlying src, P.underlying dst with
    | some _, some (.int k) => some (.int k (k.wrap n))
    | _, _ => none
  | .p (.string s) => match P.underlying src, P.underlying dst with
    | some .string, some .string => some (.string s)
    | _, _ => none
  | _ => none
theorem opq_convert {src dst : TypeId} {x : Operand} (ho : o.op = .convert src dst x) {v : Value} (h : aconv P src dst (ρ x) = some v) (hr : R (.p v) σ) : OpQ P o ρ σ R := by
  refine opq_v (s := fun e => convert src dst (e x)) (fun e => by simp only [execOp, ho]) (.p v) hr fun G e w he hw => ⟨v, ?_, .p v⟩
  have hx := he x
  generalize ρ x = cx at h hx
  generalize e x = vx at hx
  unfold aconv at h
  split at h
  · cases hx
    split at h
    · rename_i d k h1 h2
      obtain rfl := Option.some.inj h
      simp only [convert, Sem.run_bind, run_underlying' h1, run_underlying' h2, Result.andThen_ok]
      cases d <;> rfl
    · cases h
  · cases hx
    split at h
    · rename_i h1 h2
      obtain rfl := Option.some.inj h
      simp only [convert, Sem.run_bind, run_underlying' h1, run_underlying' h2, Result.andThen_ok]
      rfl
    · cases h
  · cases h
/-! ### indexes -/
def aindexS (P : Program) (t : TypeId) : AV → AV → Option Value
  | .p (.string s), .p (.int _ i) => if isString P t = true then (if 0 ≤ i then (s.data.toList[i.toNat]?).map fun b => .int .u8 b.toNat else none) else none
  | _, _ => none
theorem opq_indexS {t : TypeId} {x i : Operand} (ho : o.op = .index t x i) {v : Value} (h : aindexS P t (ρ x) (ρ i) = some v) (hr : R (.p v) σ) : OpQ P o ρ σ R := by
  refine opq_v (s := fun e => Instr.index t (e x) (e i)) (fun e => by simp only [execOp, ho]) (.p v) hr fun G e w he hw => ⟨v, ?_, .p v⟩
  have hx := he x
  have hi := he i
  generalize ρ x = cx at h hx
  generalize e x = vx at hx
  generalize ρ i = ci at h hi
  generalize e i = vi at hi
  unfold aindexS at h
  split at h
  · rename_i s k n
    cases hx; cases hi
    obtain ⟨ht, h⟩ := ite_some' h
    obtain ⟨h0, h⟩ := ite_some' h
    obtain ⟨b, hb, rfl⟩ := Option.map_eq_some_iff.1 h
    have hb' : s[n.toNat]? = some b := by
      have h1 := (List.getElem?_eq_some_iff.1 hb)
      obtain ⟨hlt, he⟩ := h1
      have hlt' : n.toNat < s.size := by simpa using hlt
      rw [getElem?_pos s n.toNat hlt']
      exact congrArg some he
    simp only [Instr.index, asIntOf, Sem.run_bind, Sem.run_pure, Result.andThen_ok, run_underlying' (isString_spec ht), if_pos h0, hb']
  · cases h
def aindexI (P : Program) (σ : ASt) (t : TypeId) (x : AV) (k : Nat) : Option AV :=
  match x with
  | .vsl xs => (telem P t).bind fun q => (xs[k]?).bind fun y => if y.cells.length = q.1 then some (.vel xs k 0) else none
  | .hsl b off n => (telem P t).bind fun q => if k < n then (σ.sl b).bind fun xs => (xs[off + k]?).bind fun y => if y.cells.length = q.1 then some (.hel b (off + k) 0) else none else none
  | x => (tarr P t).bind fun q => if k < q.1 then ashift (k * q.2.1) x else none
def aindexAddr (P : Program) (σ : ASt) (t : TypeId) (x : AV) : AV → Option AV
  | .p (.int _ i) => if 0 ≤ i then aindexI P σ t x i.toNat else none
  | _ => none
theorem telem_spec {t n g by_} (h : telem P t = some (n, g, by_)) : ∃ e i, P.underlying t = some (.slice e) ∧ P.info? e = some i ∧ tsize P e = some (n, g) ∧ i.bytes = by_ := by
  unfold telem at h
  split at h
  · rename_i e he
    split at h
    · rename_i i n' g' hi hn
      simp only [Option.some.injEq, Prod.mk.injEq] at h
      obtain ⟨rfl, rfl, rfl⟩ := h
      exact ⟨e, i, he, hi, hn, rfl⟩
    · cases h
  · cases h
theorem tarr_spec {t l n g} (h : tarr P t = some (l, n, g)) : ∃ e, P.underlying t = some (.array l e) ∧ tsize P e = some (n, g) := by
  unfold tarr at h
  split at h
  · rename_i l' e he
    split at h
    · rename_i n' g' hn
      simp only [Option.some.injEq, Prod.mk.injEq] at h
      obtain ⟨rfl, rfl, rfl⟩ := h
      exact ⟨e, he, hn⟩
    · cases h
  · cases h
theorem aindexI_spec {t : TypeId} {x r : AV} {n : Int} (h : aindexI P σ t x n.toNat = some r) (h0 : 0 ≤ n) {G w v k} (hw : SimW G σ w) (hx : Rep G w x v) : ∃ u, (Instr.indexAt t v (.int k n)).run P w = .ok u w ∧ Rep G w r u := by
  unfold aindexI at h
  split at h
  · rename_i xs
    obtain ⟨⟨m, g, by_⟩, hq, h⟩ := Option.bind_eq_some_iff.1 h
    obtain ⟨y, hy, h⟩ := Option.bind_eq_some_iff.1 h
    obtain ⟨hl, h⟩ := ite_some' h
    obtain rfl := Option.some.inj h
    obtain ⟨e', i', h1, h2, h3, _⟩ := telem_spec hq
    have hlt := (List.getElem?_eq_some_iff.1 hy).1
    cases hx with
    | vnil => simp at hlt
    | vsl _ β o s cap val hcap hs hc hrr =>
      have hs' : s = m := (hs _ _ hy).symm.trans hl
      subst hs'
      refine ⟨.pointer (some ⟨β, o + n.toNat * s, none⟩), ?_, .vel xs n.toNat 0 β o s val hs hc hrr⟩
      have hc2 : 0 ≤ n ∧ n < (xs.length : Int) := ⟨h0, by omega⟩
      simp [Instr.indexAt, asIntOf, run_underlying' h1, hc2, run_sizeOf' h3, addr_add]
  · rename_i b off len
    obtain ⟨⟨m, g, by_⟩, hq, h⟩ := Option.bind_eq_some_iff.1 h
    obtain ⟨hlt, h⟩ := ite_some' h
    obtain ⟨xs, hxs, h⟩ := Option.bind_eq_some_iff.1 h
    obtain ⟨y, hy, h⟩ := Option.bind_eq_some_iff.1 h
    obtain ⟨hl, h⟩ := ite_some' h
    obtain rfl := Option.some.inj h
    obtain ⟨e', i', h1, h2, h3, _⟩ := telem_spec hq
    cases hx with
    | hsl _ _ _ β o s cap g hle =>
      rcases hw.sl b xs hxs with ⟨g1, _⟩ | ⟨β', o', s', cap', arr, el, g1, g2, g3, g4, g5, g6⟩
      · rw [g] at g1; cases g1
      · obtain ⟨rfl, rfl, rfl, rfl⟩ : β = β' ∧ o = o' ∧ s = s' ∧ cap = cap' := by rw [g] at g1; simpa using g1
        have hs' : s = m := (g5 _ _ hy).symm.trans hl
        subst hs'
        refine ⟨.pointer (some ⟨β, o + off * s + n.toNat * s, none⟩), ?_, ?_⟩
        · have hc2 : 0 ≤ n ∧ n < (len : Int) := ⟨h0, by omega⟩
          simp [Instr.indexAt, asIntOf, run_underlying' h1, hc2, run_sizeOf' h3, addr_add]
        · have : o + off * s + n.toNat * s = o + (off + n.toNat) * s + 0 := by rw [Nat.add_mul]; omega
          rw [this]
          exact .hel b (off + n.toNat) 0 β o s cap g
    | hend => omega
    | hnil => omega
  · obtain ⟨⟨l, m, g⟩, hq, h⟩ := Option.bind_eq_some_iff.1 h
    obtain ⟨hlt, h⟩ := ite_some' h
    obtain ⟨e', h1, h3⟩ := tarr_spec hq
    obtain ⟨β, o, rfl, hrep⟩ := ashift_spec h hx
    refine ⟨_, ?_, hrep⟩
    have hc2 : 0 ≤ n ∧ n < (l : Int) := ⟨h0, by have : n.toNat < l := hlt; omega⟩
    simp [Instr.indexAt, asIntOf, run_underlying' h1, Instr.sureAddr, hc2, run_sizeOf' h3, addr_add]
theorem opq_indexAddr {t : TypeId} {x i : Operand} (ho : o.op = .indexAddr t x i) {r : AV} (h : aindexAddr P σ t (ρ x) (ρ i) = some r) (hr : R r σ) : OpQ P o ρ σ R := by
  refine opq_v (s := fun e => Instr.indexAt t (e x) (e i)) (fun e => by simp only [execOp, ho]) r hr fun G e w he hw => ?_
  have hx := he x
  have hi := he i
  generalize ρ x = cx at h hx
  generalize e x = vx at hx
  generalize ρ i = ci at h hi
  generalize e i = vi at hi
  unfold aindexAddr at h
  split at h
  · cases hi
    obtain ⟨h0, h⟩ := ite_some' h
    exact aindexI_spec h h0 hw hx
  · cases h
end Go.AL
/-! Operations, fourth part: boxes, stores, structs. -/
namespace Go.AL
open Go.RowKit (Below)
set_option linter.unusedVariables false
set_option linter.unusedSimpArgs false
variable {P : Program} {o : Oper} {ρ : Operand → AV} {σ : ASt} {R : AV → ASt → Prop}
/-! ### one cell's values -/
def AV.one : AV → Bool
  | .p x => x.oneCell'
  | .agg _ | .tup _ | .any | .opt _ _ => false
  | _ => true
def AV.okv : AV → Bool
  | .agg cs => cs.all AV.one
  | v => v.one
theorem rep_one {G w c v} (h : AV.one c = true) (hr : Rep G w c v) : v.oneCell' = true := by
  cases hr <;> first | exact h | rfl | cases h
theorem rep_cells {G w x v} (hx : AV.okv x = true) (hr : Rep G w x v) : v.cells.size = x.cells.length ∧ (∀ (j : Nat) c u, x.cells[j]? = some c → v.cells[j]? = some u → Rep G w c u) ∧ (∀ u ∈ v.cells.toList, u.oneCell' = true) := by
  by_cases ha : ∃ cs, x = .agg cs
  · obtain ⟨cs, rfl⟩ := ha
    cases hr with
    | agg _ vs hs h =>
      refine ⟨hs.symm, fun j c u hc hu => h j c u hc hu, fun u hu => ?_⟩
      obtain ⟨j, hj, rfl⟩ := List.getElem_of_mem hu
      have hj' : j < cs.length := by rw [hs]; simpa [Value.cells] using hj
      have h1 := h j _ _ (List.getElem?_eq_getElem hj') (by rw [← Array.getElem?_toList]; exact List.getElem?_eq_getElem hj)
      exact rep_one (List.all_eq_true.1 hx _ (List.getElem_mem hj')) h1
  · have h1 : x.one = true := by cases x <;> first | exact hx | exact absurd ⟨_, rfl⟩ ha
    have hc : x.cells = [x] := by cases x <;> first | rfl | exact absurd ⟨_, rfl⟩ ha
    have hv := rep_one h1 hr
    have hvc : v.cells = #[v] := by cases v <;> first | rfl | cases hv
    rw [hc, hvc]
    refine ⟨rfl, fun j c u h2 h3 => ?_, fun u hu => ?_⟩
    · cases j with
      | zero =>
        obtain rfl := Option.some.inj h2
        have h3 : some v = some u := h3
        obtain rfl := Option.some.inj h3
        exact hr
      | succ j => simp at h2
    · simp at hu; subst hu; exact hv
/-! ### setting cells -/
def setCells : List AV → Nat → List AV → List AV
  | cs, _, [] => cs
  | cs, off, v :: vs => setCells (cs.set off v) (off + 1) vs
@[simp] theorem setCells_length : ∀ (cs : List AV) (off : Nat) (vs : List AV), (setCells cs off vs).length = cs.length
  | _, _, [] => rfl
  | cs, off, v :: vs => by rw [setCells, setCells_length]; simp
theorem setCells_get : ∀ (vs cs : List AV) (off k : Nat), off + vs.length ≤ cs.length → (setCells cs off vs)[k]? = if off ≤ k ∧ k < off + vs.length then vs[k - off]? else cs[k]?
  | [], cs, off, k, _ => by simp [setCells]; omega
  | v :: vs, cs, off, k, h => by
    simp only [List.length_cons] at h
    rw [setCells, setCells_get vs _ _ k (by simp; omega)]
    by_cases h1 : off + 1 ≤ k ∧ k < off + 1 + vs.length
    · rw [if_pos h1, if_pos (by simp; omega)]
      rw [show k - off = (k - (off + 1)) + 1 by omega, List.getElem?_cons_succ]
    · rw [if_neg h1]
      by_cases h2 : k = off
      · subst h2
        rw [if_pos (by simp), List.getElem?_set_self (by omega)]
        simp
      · rw [if_neg (by simp; omega), List.getElem?_set_ne (by omega)]
/-! ### new variables -/
theorem run_newVar (v : Value) (t : TypeId) (w : World) : (newVar t v).run P w = .ok ⟨w.heap.size, 0, none⟩ (w.alloc (.cells v.cells t)) := rfl
/-- A variable that nobody writes: its value goes with its address. -/
theorem new_ro {G σ w x v} (hw : SimW G σ w) (hx : AV.okv x = true) (hr : Rep G w x v) (t : TypeId) :
    ∃ G', Le G w G' (w.alloc (.cells v.cells t)) ∧ SimW G' σ (w.alloc (.cells v.cells t)) ∧ Rep G' (w.alloc (.cells v.cells t)) (.vel [x] 0 0) (.pointer (some ⟨w.heap.size, 0, none⟩)) := by
  have hb := below_alloc' w (.cells v.cells t)
  have hl := Le.addSt hw hb (fun β _ => β = w.heap.size) fun β o e => Nat.le_of_eq e.symm
  obtain ⟨h1, h2, _⟩ := rep_cells hx hr
  refine ⟨_, hl, hw.addSt hb _ (fun β o e => by subst e; exact ⟨Nat.le_refl _, by simp⟩), ?_⟩
  have key := Rep.vel (G := G.addSt fun β _ => β = w.heap.size) (w := w.alloc (.cells v.cells t)) [x] 0 0 w.heap.size 0 x.cells.length (fun _ j => v.cells.getD j undef)
    (fun i y hy => by cases i with | zero => simp at hy; rw [hy] | succ i => simp at hy)
    (fun i j c hc => by
      cases i with
      | succ i => simp [rowCell] at hc
      | zero =>
        have hc : x.cells[j]? = some c := by simpa [rowCell] using hc
        have hj : j < v.cells.size := by rw [h1]; exact (List.getElem?_eq_some_iff.1 hc).1
        refine ⟨.inr rfl, ?_⟩
        rw [cell_of_heap (heap_alloc_new w _)]
        simp [hj])
    (fun i j c hc => by
      cases i with
      | succ i => simp [rowCell] at hc
      | zero =>
        have hc : x.cells[j]? = some c := by simpa [rowCell] using hc
        have hj : j < v.cells.size := by rw [h1]; exact (List.getElem?_eq_some_iff.1 hc).1
        have := h2 j c _ hc (Array.getElem?_eq_getElem hj)
        simp only [Array.getD, hj, dif_pos]
        exact this.mono hl)
  simpa using key
theorem new_mut {G σ w x v} (hw : SimW G σ w) (hx : AV.okv x = true) (hr : Rep G w x v) (t : TypeId) :
    ∃ G', Le G w G' (w.alloc (.cells v.cells t)) ∧ SimW G' (σ.addBx x.cells) (w.alloc (.cells v.cells t)) ∧ Rep G' (w.alloc (.cells v.cells t)) (.ptr σ.next 0) (.pointer (some ⟨w.heap.size, 0, none⟩)) := by
  have hb := below_alloc' w (.cells v.cells t)
  obtain ⟨h1, h2, _⟩ := rep_cells hx hr
  exact ⟨_, Le.addBx hw hb w.heap.size, hw.addBx hb (Nat.le_refl _) (heap_alloc_new w _) h1 h2, .ptr _ _ _ (upd_same _ _ _)⟩
theorem opq_box_ro {t : TypeId} {x : Operand} (ho : o.op = .box t x) (hx : AV.okv (ρ x) = true) (hr : R (.vel [ρ x] 0 0) σ) : OpQ P o ρ σ R := by
  intro G e w he hw
  obtain ⟨G', h1, h2, h3⟩ := new_ro hw hx (he x) t
  simp only [execOp, ho, Instr.box, Sem.run_bind, run_newVar, Result.andThen_ok, Sem.run_pure]
  exact ⟨_, G', σ, h1, h2, h3, hr⟩
theorem opq_box_mut {t : TypeId} {x : Operand} (ho : o.op = .box t x) (hx : AV.okv (ρ x) = true) (hr : R (.ptr σ.next 0) (σ.addBx (ρ x).cells)) : OpQ P o ρ σ R := by
  intro G e w he hw
  obtain ⟨G', h1, h2, h3⟩ := new_mut hw hx (he x) t
  simp only [execOp, ho, Instr.box, Sem.run_bind, run_newVar, Result.andThen_ok, Sem.run_pure]
  exact ⟨_, G', _, h1, h2, h3, hr⟩
theorem tzero_spec {t : TypeId} {z : AV} (h : tzero P t = some z) : ∃ i v, P.info? t = some i ∧ i.zero = some v ∧ z = ofV v := by
  unfold tzero at h
  obtain ⟨v, hv, rfl⟩ := Option.map_eq_some_iff.1 h
  obtain ⟨i, hi, hz⟩ := Option.bind_eq_some_iff.1 hv
  exact ⟨i, v, hi, hz, rfl⟩
theorem run_zeroValue' {t : TypeId} {i : TypeInfo} {v : Value} (h : P.info? t = some i) (hz : i.zero = some v) (w : World) : (zeroValue t).run P w = .ok v w := by
  simp [zeroValue, run_typeInfo' h, hz]
theorem opq_alloc_ro {t : TypeId} (ho : o.op = .alloc t) {z : AV} (hz : tzero P t = some z) (hx : AV.okv z = true) (hr : R (.vel [z] 0 0) σ) : OpQ P o ρ σ R := by
  intro G e w he hw
  obtain ⟨i, v, hi, hv, rfl⟩ := tzero_spec hz
  obtain ⟨G', h1, h2, h3⟩ := new_ro hw hx (rep_ofV G w v) t
  simp only [execOp, ho, Instr.alloc, Sem.run_bind, run_zeroValue' hi hv, run_newVar, Result.andThen_ok, Sem.run_pure]
  exact ⟨_, G', σ, h1, h2, h3, hr⟩
theorem opq_alloc_mut {t : TypeId} (ho : o.op = .alloc t) {z : AV} (hz : tzero P t = some z) (hx : AV.okv z = true) (hr : R (.ptr σ.next 0) (σ.addBx z.cells)) : OpQ P o ρ σ R := by
  intro G e w he hw
  obtain ⟨i, v, hi, hv, rfl⟩ := tzero_spec hz
  obtain ⟨G', h1, h2, h3⟩ := new_mut hw hx (rep_ofV G w v) t
  simp only [execOp, ho, Instr.alloc, Sem.run_bind, run_zeroValue' hi hv, run_newVar, Result.andThen_ok, Sem.run_pure]
  exact ⟨_, G', _, h1, h2, h3, hr⟩
/-! ### stores -/
theorem touch_setRow (w : World) (g : Nat) (cs : Array Value) : Touch w (w.setRow g cs) g :=
  ⟨rfl, rfl, rfl, by simp [World.setRow], fun k hk => by simp only [World.setRow, Array.getElem?_modify]; rw [if_neg (fun e => hk e.symm)]⟩
theorem setRow_new {w : World} {g : Nat} {arr : Array Value} {el : TypeId} {fz : Nat × Nat} (h : w.heap[g]? = some (.cells arr el fz)) (cs : Array Value) : (w.setRow g cs).heap[g]? = some (.cells cs el fz) := by
  simp only [World.setRow, Array.getElem?_modify, if_true, h, Option.map_some]
theorem run_storeVar_of {t : TypeId} {n : Nat} {g : Bool} (ht : tsize P t = some (n, g)) {w : World} {β off : Nat} {arr : Array Value} {el : TypeId} {v : Value} (hg : w.heap[β]? = some (.cells arr el (0, 0)))
    (hn : v.cells.size = n) (hle : off + n ≤ arr.size) (h1 : ∀ u ∈ v.cells.toList, u.oneCell' = true) :
    (storeVar t ⟨β, off, none⟩ v).run P w = .ok () (w.setRow β (arr.toList.take off ++ v.cells.toList ++ arr.toList.drop (off + n)).toArray) := by
  have := run_storeCells_at (P := P) β off el v.cells.toList 0 arr w hg (by simp; omega) h1
  simp only [storeVar, Sem.run_bind, run_sizeOf' ht, Result.andThen_ok, hn, ne_eq, not_true, if_false, this]
  simp [hn]
theorem splice_get {α : Type} (arr : List α) (off n : Nat) (vs : List α) (hn : vs.length = n) (hle : off + n ≤ arr.length) (k : Nat) :
    (arr.take off ++ vs ++ arr.drop (off + n))[k]? = if off ≤ k ∧ k < off + n then vs[k - off]? else arr[k]? := by
  by_cases h1 : k < off
  · rw [if_neg (by omega), List.append_assoc, List.getElem?_append_left (by simp; omega), List.getElem?_take, if_pos h1]
  · by_cases h2 : k < off + n
    · rw [if_pos (by omega), List.append_assoc, List.getElem?_append_right (by simp; omega), List.getElem?_append_left (by simp; omega)]
      congr 1
      simp; omega
    · rw [if_neg (by omega), List.getElem?_append_right (by simp; omega), List.getElem?_drop]
      congr 1
      simp; omega
/-- What a store makes of memory. -/
def astoreC (cs : List AV) (off n : Nat) (x : AV) : Option (List AV) := if x.cells.length = n ∧ off + n ≤ cs.length ∧ x.okv = true then some (setCells cs off x.cells) else none
def putCells : AV → List AV → AV
  | .agg _, cs => .agg cs
  | x, [c] => c
  | x, _ => x
def astore (P : Program) (σ : ASt) (t : TypeId) (a x : AV) : Option ASt :=
  (tsize P t).bind fun q =>
  match a with
  | .ptr b off => (σ.bx b).bind fun cs => (astoreC cs off q.1 x).map fun cs' => { σ with bx := upd σ.bx b (some cs') }
  | .hel b i off => (σ.sl b).bind fun xs => (xs[i]?).bind fun y => (astoreC y.cells off q.1 x).bind fun cs' => if y.okv = true then some { σ with sl := upd σ.sl b (some (xs.set i (putCells y cs'))) } else none
  | _ => none
theorem astoreC_spec {cs cs' : List AV} {off n : Nat} {x : AV} (h : astoreC cs off n x = some cs') : x.cells.length = n ∧ off + n ≤ cs.length ∧ x.okv = true ∧ cs' = setCells cs off x.cells := by
  unfold astoreC at h
  split at h
  · rename_i hc
    exact ⟨hc.1, hc.2.1, hc.2.2, (Option.some.inj h).symm⟩
  · cases h
theorem putCells_cells {y : AV} {cs' : List AV} (hl : cs'.length = y.cells.length) (hc : ∀ c ∈ cs', c.one = true) : (putCells y cs').cells = cs' := by
  cases y with
  | agg cs => rfl
  | _ =>
    simp only [AV.cells, List.length_cons, List.length_nil, Nat.zero_add, List.length_eq_one_iff] at hl
    obtain ⟨c, rfl⟩ := hl
    have hc := hc c (by simp)
    cases c <;> first | rfl | cases hc
theorem okv_one {x : AV} (h : x.okv = true) : ∀ c ∈ x.cells, c.one = true := by
  intro c hc
  cases x with
  | agg cs => exact List.all_eq_true.1 h c hc
  | _ => simp only [AV.cells, List.mem_singleton] at hc; subst hc; exact h
theorem putCells_set {y x : AV} {off : Nat} (hy : y.okv = true) (hx : x.okv = true) (hle : off + x.cells.length ≤ y.cells.length) : (putCells y (setCells y.cells off x.cells)).cells = setCells y.cells off x.cells := by
  refine putCells_cells (by simp) fun c hc => ?_
  obtain ⟨k, hk, rfl⟩ := List.getElem_of_mem hc
  have h1 := setCells_get x.cells y.cells off k hle
  rw [List.getElem?_eq_getElem hk] at h1
  split at h1
  · exact okv_one hx _ (List.mem_of_getElem? h1.symm)
  · exact okv_one hy _ (List.mem_of_getElem? h1.symm)
theorem opq_store {t : TypeId} {x y : Operand} (ho : o.op = .store t x y) {σ' : ASt} (h : astore P σ t (ρ x) (ρ y) = some σ') (hr : R (.p undef) σ') : OpQ P o ρ σ R := by
  intro G e w he hw
  have hx := he x
  have hy := he y
  generalize ρ x = cx at h hx
  generalize hvx : e x = vx at hx
  generalize ρ y = cy at h hy
  generalize hvy : e y = vy at hy
  obtain ⟨⟨n, g⟩, hn, h⟩ := Option.bind_eq_some_iff.1 h
  have run : ∀ w', (Instr.storeAt t vx vy).run P w = .ok () w' → (execOp e o).run P w = .ok .skip w' := fun w' h => by
    simp [execOp, ho, hvx, hvy, h]
  cases hx with
  | ptr b off β gb =>
    obtain ⟨cs, hb, h⟩ := Option.bind_eq_some_iff.1 h
    obtain ⟨cs', hcs, rfl⟩ := Option.map_eq_some_iff.1 h
    obtain ⟨s1, s2, s3, rfl⟩ := astoreC_spec hcs
    obtain ⟨c1, c2, c3⟩ := rep_cells s3 hy
    obtain ⟨β', arr, el, h1, h2, h3, h4⟩ := hw.bx b cs hb
    obtain rfl := Option.some.inj (gb.symm.trans h1)
    have hcn : vy.cells.size = n := c1.trans s1
    have hst := run_storeVar_of hn h2 hcn (by rw [h3]; exact s2) c3
    have hst2 : (Instr.storeAt t (.pointer (some ⟨β, off, none⟩)) vy).run P w = .ok () (w.setRow β (arr.toList.take off ++ vy.cells.toList ++ arr.toList.drop (off + n)).toArray) := by
      simp only [Instr.storeAt, Instr.sureAddr, Sem.run_bind, Sem.run_pure, Result.andThen_ok, hst]
    rw [run _ hst2]
    have ht := touch_setRow w β (arr.toList.take off ++ vy.cells.toList ++ arr.toList.drop (off + n)).toArray
    refine ⟨.p undef, G, _, Le.touch hw (.bx b β cs hb gb) ht, hw.touch_bx hb gb ht (setRow_new h2 _) (by simp; omega) (fun i c u hc hu => ?_), .p _, hr⟩
    rw [setCells_get _ _ _ _ (by omega)] at hc
    have hu' : (arr.toList.take off ++ vy.cells.toList ++ arr.toList.drop (off + n))[i]? = some u := by simpa using hu
    rw [splice_get _ _ _ _ (by simpa using hcn) (by simpa [h3] using s2)] at hu'
    rw [s1] at hc
    split at hc
    · rename_i hi
      rw [if_pos hi] at hu'
      exact c2 (i - off) c u hc (by simpa using hu')
    · rename_i hi
      rw [if_neg hi] at hu'
      exact h4 i c u hc (by simpa using hu')
  | hel b i off β o' s cap gb =>
    obtain ⟨xs, hb, h⟩ := Option.bind_eq_some_iff.1 h
    obtain ⟨y', hy', h⟩ := Option.bind_eq_some_iff.1 h
    obtain ⟨cs', hcs, h⟩ := Option.bind_eq_some_iff.1 h
    obtain ⟨s1, s2, s3, rfl⟩ := astoreC_spec hcs
    obtain ⟨p2, h⟩ := ite_some' h
    have p1 : (putCells y' (setCells y'.cells off cy.cells)).cells = setCells y'.cells off cy.cells := putCells_set p2 s3 (by rw [s1]; exact s2)
    obtain rfl := Option.some.inj h
    obtain ⟨c1, c2, c3⟩ := rep_cells s3 hy
    rcases hw.sl b xs hb with ⟨g1, _⟩ | ⟨β', o'', s', cap', arr, el, g1, g2, g3, g4, g5, g6⟩
    · rw [gb] at g1; cases g1
    · obtain ⟨rfl, rfl, rfl, rfl⟩ : β = β' ∧ o' = o'' ∧ s = s' ∧ cap = cap' := by rw [gb] at g1; simpa using g1
      have hcn : vy.cells.size = n := c1.trans s1
      have hi := (List.getElem?_eq_some_iff.1 hy').1
      have hys : y'.cells.length = s := g5 i y' hy'
      have hrow : o' + i * s + s ≤ arr.size := by
        have : (i + 1) * s ≤ cap * s := Nat.mul_le_mul_right _ (by omega)
        rw [Nat.add_mul] at this; omega
      have hst := run_storeVar_of hn g2 (off := o' + i * s + off) hcn (by omega) c3
      have hst2 : (Instr.storeAt t (.pointer (some ⟨β, o' + i * s + off, none⟩)) vy).run P w = .ok () (w.setRow β (arr.toList.take (o' + i * s + off) ++ vy.cells.toList ++ arr.toList.drop (o' + i * s + off + n)).toArray) := by
        simp only [Instr.storeAt, Instr.sureAddr, Sem.run_bind, Sem.run_pure, Result.andThen_ok, hst]
      rw [run _ hst2]
      have ht := touch_setRow w β (arr.toList.take (o' + i * s + off) ++ vy.cells.toList ++ arr.toList.drop (o' + i * s + off + n)).toArray
      refine ⟨.p undef, G, _, Le.touch hw (.sl b β _ xs hb gb) ht, hw.touch_sl hb gb ht (fun hl => .inr ⟨β, o', s, cap, _, el, gb, setRow_new g2 _, by simpa using g3, ?_, ?_, ?_⟩), .p _, hr⟩
      · simp; omega
      · intro k z hz
        rw [List.getElem?_set] at hz
        split at hz
        · obtain rfl := Option.some.inj hz
          rw [p1]; simp [hys]
        · exact g5 k z hz
      · intro k j c u hc hu
        have hu' : (arr.toList.take (o' + i * s + off) ++ vy.cells.toList ++ arr.toList.drop (o' + i * s + off + n))[o' + k * s + j]? = some u := by simpa using hu
        rw [splice_get _ _ _ _ (by simpa using hcn) (by simp; omega)] at hu'
        unfold rowCell at hc
        rw [List.getElem?_set] at hc
        by_cases hki : i = k
        · subst hki
          rw [if_pos rfl, if_pos hi] at hc
          have hc : (putCells y' (setCells y'.cells off cy.cells)).cells[j]? = some c := hc
          rw [p1, setCells_get _ _ _ _ (by omega), s1] at hc
          split at hc
          · rename_i hj
            rw [if_pos (by omega)] at hu'
            have e : o' + i * s + j - (o' + i * s + off) = j - off := by omega
            rw [e] at hu'
            exact (c2 (j - off) c u hc (by simpa using hu')).mono hl
          · rename_i hj
            rw [if_neg (by omega)] at hu'
            exact (g6 i j c u (by simp [rowCell, hy', hc]) (by simpa using hu')).mono hl
        · rw [if_neg hki] at hc
          have hj : j < s := by
            cases hz : xs[k]? with
            | none => rw [hz] at hc; cases hc
            | some z =>
              rw [hz] at hc
              have hc : z.cells[j]? = some c := hc
              rw [← g5 k z hz]; exact (List.getElem?_eq_some_iff.1 hc).1
          have hne : ¬ (o' + i * s + off ≤ o' + k * s + j ∧ o' + k * s + j < o' + i * s + off + n) := by
            rcases Nat.lt_or_ge k i with hlt | hge
            · have : (k + 1) * s ≤ i * s := Nat.mul_le_mul_right _ hlt
              rw [Nat.add_mul] at this; omega
            · have : (i + 1) * s ≤ k * s := Nat.mul_le_mul_right _ (by omega)
              rw [Nat.add_mul] at this; omega
          rw [if_neg hne] at hu'
          exact (g6 k j c u hc (by simpa using hu')).mono hl
  | _ => cases h
end Go.AL
