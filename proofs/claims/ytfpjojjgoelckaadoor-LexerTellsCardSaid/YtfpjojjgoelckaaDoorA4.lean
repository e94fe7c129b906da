import Derived.Test.YtfpjojjgoelckaaDoorA3
import Derived.Laws.Strings
import Derived.Laws.NewFold
/-! Operations, second part: plain values. -/
namespace Go.AL
open Go.RowKit (Below)
set_option linter.unusedVariables false
set_option linter.unusedSimpArgs false

variable {P : Program} {o : Oper} {ρ : Operand → AV} {σ : ASt} {R : AV → ASt → Prop}

theorem opq_move {x : Operand} (ho : o.op = .move x ∨ o.op = .assign x) (hr : R (ρ x) σ) : OpQ P o ρ σ R :=
  opq_val (ρ x) hr fun G e w he hw => ⟨e x, by rcases ho with ho | ho <;> simp [execOp, ho], he x⟩

/-- Does one hold where the other does? (Kept shut, with rules of its own.) -/
def impB (c b : Bool) : Bool := !c || b
@[simp] theorem impB_self (c : Bool) : impB c c = true := by cases c <;> rfl
@[simp] theorem impB_true (b : Bool) : impB true b = b := rfl
@[simp] theorem impB_false (b : Bool) : impB false b = true := rfl
@[simp] theorem impB_to (c : Bool) : impB c true = true := by cases c <;> rfl
@[simp] theorem impB_and1 (a b : Bool) : impB (a && b) a = true := by cases a <;> cases b <;> rfl
@[simp] theorem impB_and2 (a b : Bool) : impB (a && b) b = true := by cases a <;> cases b <;> rfl
@[simp] theorem impB_and3 (a b c : Bool) : impB (a && b && c) a = true := by cases a <;> cases b <;> cases c <;> rfl
@[simp] theorem impB_and4 (a b c : Bool) : impB (a && b && c) b = true := by cases a <;> cases b <;> cases c <;> rfl
@[simp] theorem impB_imp (t c b : Bool) : impB t (impB c b) = impB (c && t) b := by cases t <;> cases c <;> cases b <;> rfl
/-- One of two. -/
def bpick (t a b : Bool) : Bool := if t = true then a else b
@[simp] theorem bpick_true (a b : Bool) : bpick true a b = a := rfl
@[simp] theorem bpick_false (a b : Bool) : bpick false a b = b := rfl
@[simp] theorem bpick_and (t a : Bool) : bpick t a false = (t && a) := by cases t <;> rfl
@[simp] theorem bpick_or (t b : Bool) : bpick t true b = (t || b) := by cases t <;> rfl
/-- A value that is known if so. -/
def sopt (b : Bool) (v : AV) : AV := cond b v (.opt b v)
def strip (c : Bool) : AV → AV
  | .opt b v => sopt (impB c b) v
  | v => v
@[simp] theorem strip_opt (c b : Bool) (v : AV) : strip c (.opt b v) = sopt (impB c b) v := rfl
@[simp] theorem strip_p (c : Bool) (x : Value) : strip c (.p x) = .p x := rfl
@[simp] theorem strip_agg (c : Bool) (x : List AV) : strip c (.agg x) = .agg x := rfl
@[simp] theorem strip_tup (c : Bool) (x : List AV) : strip c (.tup x) = .tup x := rfl
@[simp] theorem strip_ptr (c : Bool) (i o : Nat) : strip c (.ptr i o) = .ptr i o := rfl
@[simp] theorem strip_vsl (c : Bool) (x : List AV) : strip c (.vsl x) = .vsl x := rfl
@[simp] theorem strip_vel (c : Bool) (x : List AV) (i o : Nat) : strip c (.vel x i o) = .vel x i o := rfl
@[simp] theorem strip_hsl (c : Bool) (i o n : Nat) : strip c (.hsl i o n) = .hsl i o n := rfl
@[simp] theorem strip_hel (c : Bool) (i o n : Nat) : strip c (.hel i o n) = .hel i o n := rfl
@[simp] theorem strip_map (c : Bool) (m : Nat) : strip c (.map m) = .map m := rfl
@[simp] theorem strip_fn (c : Bool) (f : Fn) (x y : List AV) : strip c (.fn f x y) = .fn f x y := rfl
@[simp] theorem strip_ifc (c : Bool) (t : TypeId) (v : AV) : strip c (.ifc t v) = .ifc t v := rfl
@[simp] theorem strip_any (c : Bool) : strip c .any = .any := rfl
@[simp] theorem sopt_true (v : AV) : sopt true v = v := rfl
@[simp] theorem sopt_false (v : AV) : sopt false v = .opt false v := rfl
@[simp] theorem strip_sopt_p (t b : Bool) (x : Value) : strip t (sopt b (.p x)) = sopt (impB t b) (.p x) := by cases b <;> cases t <;> rfl
@[simp] theorem strip_sopt_agg (t b : Bool) (x : List AV) : strip t (sopt b (.agg x)) = sopt (impB t b) (.agg x) := by cases b <;> cases t <;> rfl
@[simp] theorem strip_sopt_tup (t b : Bool) (x : List AV) : strip t (sopt b (.tup x)) = sopt (impB t b) (.tup x) := by cases b <;> cases t <;> rfl
@[simp] theorem strip_sopt_vsl (t b : Bool) (x : List AV) : strip t (sopt b (.vsl x)) = sopt (impB t b) (.vsl x) := by cases b <;> cases t <;> rfl
@[simp] theorem strip_sopt_vel (t b : Bool) (x : List AV) (i o : Nat) : strip t (sopt b (.vel x i o)) = sopt (impB t b) (.vel x i o) := by cases b <;> cases t <;> rfl
@[simp] theorem strip_sopt_ptr (t b : Bool) (i o : Nat) : strip t (sopt b (.ptr i o)) = sopt (impB t b) (.ptr i o) := by cases b <;> cases t <;> rfl
@[simp] theorem strip_sopt_fn (t b : Bool) (f : Fn) (x y : List AV) : strip t (sopt b (.fn f x y)) = sopt (impB t b) (.fn f x y) := by cases b <;> cases t <;> rfl
theorem strip_rep {c : Bool} (hc : c = true) {x : AV} {G w u} (hx : Rep G w x u) : Rep G w (strip c x) u := by
  by_cases h : ∃ b v, x = .opt b v
  · obtain ⟨b, v, rfl⟩ := h
    subst hc
    simp only [strip, impB_true]
    cases b with
    | true =>
      cases hx with
      | opt _ _ _ h _ => exact h rfl
    | false => exact hx
  · have : strip c x = x := by cases x <;> first | rfl | exact absurd ⟨_, _, rfl⟩ h
    rw [this]; exact hx
def apick2 (t : Bool) : AV → AV → AV
  | .p (.bool a), .p (.bool b) => .p (.bool (bpick t a b))
  | x, y => if t = true then x else y
def apick (t : Bool) (x y : AV) : AV := apick2 t (strip t x) (strip (!t) y)
theorem apick_rep {t : Bool} {x y : AV} {G w u v} (hx : Rep G w x u) (hy : Rep G w y v) : Rep G w (apick t x y) (if t then u else v) := by
  unfold apick
  cases t with
  | true =>
    have h := strip_rep (c := true) rfl hx
    generalize strip true x = a at h
    generalize strip (!true) y = b
    unfold apick2
    split
    · cases h; exact .p _
    · exact h
  | false =>
    have h := strip_rep (c := !false) rfl hy
    generalize strip false x = a
    generalize strip (!false) y = b at h
    unfold apick2
    split
    · cases h; exact .p _
    · exact h
theorem opq_pick {c a b : Operand} (ho : o.op = .pick c a b) {t : Bool} (hc : ρ c = .p (.bool t)) (hr : R (apick t (ρ a) (ρ b)) σ) : OpQ P o ρ σ R := by
  refine opq_val _ hr fun G e w he hw => ⟨if t then e a else e b, ?_, apick_rep (he a) (he b)⟩
  have h := he c
  rw [hc] at h
  generalize ha : e c = v at h
  cases h
  simp [execOp, ho, ha, asBool]

theorem opq_extract {x : Operand} {i : Nat} (ho : o.op = .extract x i) {cs : List AV} (hx : ρ x = .tup cs) {r : AV} (hi : cs[i]? = some r) (hr : R r σ) : OpQ P o ρ σ R := by
  refine opq_val _ hr fun G e w he hw => ?_
  have h := he x
  rw [hx] at h
  generalize ha : e x = v at h
  cases h with
  | tup _ vs hs hc =>
    have hlt : i < vs.size := by rw [← hs]; exact (List.getElem?_eq_some_iff.1 hi).1
    exact ⟨vs[i], by simp [execOp, ho, ha, Instr.extract, hlt], hc i r _ hi (Array.getElem?_eq_getElem hlt)⟩

theorem opq_makeInterface {x : Operand} {t : TypeId} (ho : o.op = .makeInterface t x) (hi : isIface P t = false) (hr : R (.ifc t (ρ x)) σ) : OpQ P o ρ σ R := by
  refine opq_val _ hr fun G e w he hw => ⟨.iface t (e x), ?_, .ifc t _ _ (he x)⟩
  unfold isIface at hi
  cases hd : P.underlying t with
  | none => rw [hd] at hi; cases hi
  | some d =>
    rw [hd] at hi
    have hI : (Instr.makeInterface t (e x)).run P w = .ok (.iface t (e x)) w := by
      simp only [Instr.makeInterface, Sem.run_bind, run_underlying' hd, Result.andThen_ok]
      cases d <;> first | rfl | cases hi
    simp [execOp, ho, hI]

def anilCheck : AV → Bool
  | .ptr _ _ | .vel _ _ _ | .hel _ _ _ | .ifc _ _ => true
  | .fn (.func _) _ _ | .fn (.yield _) _ _ | .fn (.via _ _ _ _) _ _ => true
  | .p (.func (.func _) _ _) => true
  | .p (.pointer (some _)) => true
  | _ => false
theorem opq_nilCheck {x : Operand} (ho : o.op = .nilCheck x) (hx : anilCheck (ρ x) = true) (hr : R (ρ x) σ) : OpQ P o ρ σ R := by
  refine opq_val _ hr fun G e w he hw => ⟨e x, ?_, he x⟩
  have h := he x
  generalize ρ x = c at h hx
  generalize ha : e x = v at h
  cases h with
  | p =>
    cases v with
    | pointer a => cases a with
      | none => cases hx
      | some a => simp [execOp, ho, ha]
    | func f aa bs =>
      cases f with
      | func f => simp [execOp, ho, ha]
      | _ => cases hx
    | _ => cases hx
  | fn f aa bs us vs h1 h2 h3 h4 =>
    cases f with
    | func f => simp [execOp, ho, ha]
    | yield f => simp [execOp, ho, ha]
    | via _ _ _ _ => simp [execOp, ho, ha]
    | _ => cases hx
  | ptr => simp [execOp, ho, ha]
  | vel => simp [execOp, ho, ha]
  | hel => simp [execOp, ho, ha]
  | ifc => simp [execOp, ho, ha]
  | _ => cases hx

/-! ### numbers and texts -/
def aint (op : BinOp) (k : IntKind) (a b : Int) : Option Value :=
  match op with
  | .add => some (.int k (k.wrap (a + b)))
  | .sub => some (.int k (k.wrap (a - b)))
  | .mul => some (.int k (k.wrap (a * b)))
  | .quo => if b = 0 then none else some (.int k (k.wrap (a.tdiv b)))
  | .rem => if b = 0 then none else some (.int k (a.tmod b))
  | .and => some (.int k (k.wrap (BitVec.ofInt k.bits a &&& BitVec.ofInt k.bits b).toNat))
  | .or => some (.int k (k.wrap (BitVec.ofInt k.bits a ||| BitVec.ofInt k.bits b).toNat))
  | .xor => some (.int k (k.wrap (BitVec.ofInt k.bits a ^^^ BitVec.ofInt k.bits b).toNat))
  | .andNot => some (.int k (k.wrap (BitVec.ofInt k.bits a &&& ~~~BitVec.ofInt k.bits b).toNat))
  | .eql => some (.bool (decide (a = b)))
  | .neq => some (.bool (!decide (a = b)))
  | .lss => some (.bool (decide (a < b)))
  | .leq => some (.bool (decide (a ≤ b)))
  | .gtr => some (.bool (decide (b < a)))
  | .geq => some (.bool (decide (b ≤ a)))
  | .shl | .shr => none
def ashiftN (op : BinOp) (k : IntKind) (a b : Int) : Option Value :=
  if b < 0 then none else
  match op with
  | .shl => some (.int k (k.wrap (a * 2 ^ (min b.toNat k.bits))))
  | .shr => some (.int k (a.fdiv (2 ^ (min b.toNat k.bits))))
  | _ => none
def astr (op : BinOp) (a b : ByteArray) : Option Value :=
  match op with
  | .add => if a.size + b.size ≤ 9223372036854775807 then some (.string (a ++ b)) else none
  | .eql => some (.bool (decide (a = b)))
  | .neq => some (.bool (!decide (a = b)))
  | .lss => some (.bool (Op.bytesLess a.data.toList b.data.toList))
  | .leq => some (.bool (Op.bytesLess a.data.toList b.data.toList || decide (a = b)))
  | .gtr => some (.bool (!(Op.bytesLess a.data.toList b.data.toList || decide (a = b))))
  | .geq => some (.bool (!Op.bytesLess a.data.toList b.data.toList))
  | _ => none
theorem beq_toList (a b : ByteArray) : (a.toList == b.toList) = decide (a = b) := by
  rw [ByteArray.toList_eq, ByteArray.toList_eq]
  by_cases h : a = b
  · subst h; simp
  · simp only [h, decide_false]
    rw [beq_eq_false_iff_ne]
    intro e
    exact h (by cases a; cases b; simp_all [Array.toList_inj])

/-- What kind of type it is, for what is held against nil. -/
def tkind (P : Program) (t : TypeId) : Nat :=
  match P.underlying t with
  | some .bool => 1
  | some (.pointer _) => 2
  | some (.interface _) => 3
  | some (.slice _) => 4
  | some (.map _ _) => 5
  | some (.func _ _ _) => 6
  | _ => 0
/-- Is it nil? -/
def aisNil (k : Nat) : AV → Option Bool
  | .p (.pointer none) => if k = 2 then some true else none
  | .p (.pointer (some _)) | .ptr _ _ | .vel _ _ _ | .hel _ _ _ => if k = 2 then some false else none
  | .p .nilIface => if k = 3 then some true else none
  | .ifc _ _ | .p (.iface _ _) => if k = 3 then some false else none
  | .p (.slice none _ _) => if k = 4 then some true else none
  | .p (.slice (some _) _ _) => if k = 4 then some false else none
  | .vsl xs => if k = 4 then (if xs.isEmpty then none else some false) else none
  | .hsl _ _ n => if k = 4 then (if n = 0 then none else some false) else none
  | .p (.map none) => if k = 5 then some true else none
  | .map _ => if k = 5 then some false else none
  | .p .nilFunc => if k = 6 then some true else none
  | .fn _ _ _ | .p (.func _ _ _) => if k = 6 then some false else none
  | _ => none
def isNilC (k : Nat) : AV → Bool
  | .p (.pointer none) => k = 2
  | .p .nilIface => k = 3
  | .p (.slice none 0 0) => k = 4
  | .p (.map none) => k = 5
  | .p .nilFunc => k = 6
  | _ => false
def abin (P : Program) (op : BinOp) (t : TypeId) (x y : AV) : Option Value :=
  match x, y with
  | .p (.int k a), .p (.int k' b) =>
    match op with
    | .shl | .shr => ashiftN op k a b
    | _ => if k = k' then aint op k a b else none
  | .p (.string a), .p (.string b) => astr op a b
  | .p (.bool a), .p (.bool b) => if tkind P t = 1 then (match op with | .eql => some (.bool (a == b)) | .neq => some (.bool (a != b)) | _ => none) else none
  | x, y =>
    if isNilC (tkind P t) y = true then
      match op with
      | .eql => (aisNil (tkind P t) x).map .bool
      | .neq => (aisNil (tkind P t) x).map fun b => .bool !b
      | _ => none
    else none

theorem run_eqGuard {op : BinOp} {t : TypeId} {x y : Operand} {a b : Value} (h1 : ∀ cs ds, a = .agg cs → b = .agg ds → False) (h2 : a = .nilIface → b = .nilIface → (∃ v, x = .const v) ∨ ∃ v, y = .const v) (w : World) :
    (eqGuard op t x y a b).run P w = .ok () w := by
  unfold eqGuard
  cases op <;> first
    | rfl
    | (cases a <;> cases b <;> first
        | rfl
        | exact (h1 _ _ rfl rfl).elim
        | (rcases h2 rfl rfl with ⟨v, rfl⟩ | ⟨v, rfl⟩ <;> simp))

theorem run_binOp_int {op : BinOp} {k : IntKind} {a b : Int} {t : TypeId} {v : Value} (h : aint op k a b = some v) (w : World) : (binOp op t (.int k a) (.int k b)).run P w = .ok v w := by
  have hk : ∀ s, (if k ≠ k then (stuck "BinOp: operands of different kinds" : Sem Value) else s) = s := fun s => if_neg (by simp)
  cases op <;> simp only [aint] at h
  case quo =>
    split at h
    · cases h
    · rename_i h0
      obtain rfl := Option.some.inj h
      simp only [binOp, hk, Op.intDiv, if_neg h0]
      rfl
  case rem =>
    split at h
    · cases h
    · rename_i h0
      obtain rfl := Option.some.inj h
      simp only [binOp, hk, Op.intDiv, if_neg h0]
      rfl
  case shl => cases h
  case shr => cases h
  case eql => obtain rfl := Option.some.inj h; simp only [binOp, hk, Op.intCmp]; rfl
  case neq => obtain rfl := Option.some.inj h; simp only [binOp, hk, Op.intCmp]; rfl
  all_goals (obtain rfl := Option.some.inj h; simp only [binOp, hk]; rfl)
theorem run_binOp_shift {op : BinOp} {k k' : IntKind} {a b : Int} {t : TypeId} {v : Value} (hop : op = .shl ∨ op = .shr) (h : ashiftN op k a b = some v) (w : World) : (binOp op t (.int k a) (.int k' b)).run P w = .ok v w := by
  unfold ashiftN at h
  split at h
  · cases h
  · rename_i h0
    rcases hop with rfl | rfl <;> (simp only [Option.some.injEq] at h; subst h; simp [binOp, Op.shift, h0])
theorem run_binOp_str {op : BinOp} {a b : ByteArray} {t : TypeId} {v : Value} (h : astr op a b = some v) (w : World) : (binOp op t (.string a) (.string b)).run P w = .ok v w := by
  by_cases hop : op = .add
  · subst hop
    simp only [astr] at h
    split at h
    · rename_i h0
      obtain rfl := Option.some.inj h
      have : ¬ ((a.size + b.size : Nat) : Int) > IntKind.i64.max := by
        have : IntKind.i64.max = 9223372036854775807 := by decide
        omega
      simp only [binOp, Op.stringOp, if_neg this]
      rfl
    · cases h
  cases op <;> simp only [astr, Option.some.injEq, reduceCtorEq] at h <;> first
    | exact absurd rfl hop
    | (subst h; simp [binOp, Op.stringOp, beq_toList, ByteArray.toList_eq]; done)
    | (subst h
       have e := beq_toList a b
       rw [ByteArray.toList_eq, ByteArray.toList_eq] at e
       simp [binOp, Op.stringOp, ByteArray.toList_eq, e, bne]
       done)

theorem tkind_spec {t : TypeId} {k : Nat} (h : tkind P t = k) (hk : k ≠ 0) : ∃ d, P.underlying t = some d ∧ ((k = 1 ∧ d = .bool) ∨ (k = 2 ∧ ∃ e, d = .pointer e) ∨ (k = 3 ∧ ∃ e, d = .interface e) ∨ (k = 4 ∧ ∃ e, d = .slice e) ∨ (k = 5 ∧ ∃ e f, d = .map e f) ∨ (k = 6 ∧ ∃ a b c, d = .func a b c)) := by
  unfold tkind at h
  split at h <;> rename_i hd
  · exact ⟨_, hd, by simp [← h]⟩
  · exact ⟨_, hd, by simp [← h]⟩
  · exact ⟨_, hd, by simp [← h]⟩
  · exact ⟨_, hd, by simp [← h]⟩
  · exact ⟨_, hd, by simp [← h]⟩
  · exact ⟨_, hd, by simp [← h]⟩
  · exact absurd h.symm hk
theorem equal_step (t : TypeId) (x y : Value) : Op.equal t x y = Op.equalIn (9999 + 1) t x y := rfl
theorem run_equal_bool {t : TypeId} (h : tkind P t = 1) (a b : Bool) (w : World) : (Op.equal t (.bool a) (.bool b)).run P w = .ok (a == b) w := by
  obtain ⟨d, hd, hk⟩ := tkind_spec h (by simp)
  have : d = .bool := by simpa using hk
  subst this
  have key : ∀ n, (Op.equalIn (n + 1) t (.bool a) (.bool b)).run P w = .ok (a == b) w := fun n => by simp [Op.equalIn, run_underlying' hd]
  exact key 9999
/-- What it means to be nil, of a kind. -/
def NilAs : Nat → Value → Bool → Prop
  | 2, .pointer a, b => a.isNone = b
  | 3, .nilIface, b => b = true
  | 3, .iface _ _, b => b = false
  | 4, .slice a _ _, b => a.isNone = b
  | 5, .map a, b => a.isNone = b
  | 6, .nilFunc, b => b = true
  | 6, .func _ _ _, b => b = false
  | _, _, _ => False
theorem ite_some {c : Prop} [Decidable c] {b b' : Bool} (h : (if c then some b else none) = some b') : c ∧ b = b' := by
  split at h
  · rename_i hc; exact ⟨hc, Option.some.inj h⟩
  · cases h
theorem aisNil_spec {k : Nat} {x : AV} {b : Bool} (hx : aisNil k x = some b) {G w u} (hu : Rep G w x u) : NilAs k u b := by
  cases hu with
  | p =>
    cases u with
    | pointer a => cases a <;> (obtain ⟨rfl, rfl⟩ := ite_some hx; rfl)
    | nilIface => obtain ⟨rfl, rfl⟩ := ite_some hx; rfl
    | iface t z => obtain ⟨rfl, rfl⟩ := ite_some hx; rfl
    | slice a n c => cases a <;> (obtain ⟨rfl, rfl⟩ := ite_some hx; rfl)
    | map a => cases a with
      | none => obtain ⟨rfl, rfl⟩ := ite_some hx; rfl
      | some a => cases hx
    | nilFunc => obtain ⟨rfl, rfl⟩ := ite_some hx; rfl
    | func _ _ _ => obtain ⟨rfl, rfl⟩ := ite_some hx; rfl
    | _ => cases hx
  | ptr => obtain ⟨rfl, rfl⟩ := ite_some hx; rfl
  | vel => obtain ⟨rfl, rfl⟩ := ite_some hx; rfl
  | hel => obtain ⟨rfl, rfl⟩ := ite_some hx; rfl
  | ifc => obtain ⟨rfl, rfl⟩ := ite_some hx; rfl
  | map => obtain ⟨rfl, rfl⟩ := ite_some hx; rfl
  | fn => obtain ⟨rfl, rfl⟩ := ite_some hx; rfl
  | vnil => simp [aisNil] at hx
  | vsl xs => simp [aisNil] at hx; obtain ⟨rfl, _, rfl⟩ := hx; rfl
  | hsl b off len => simp [aisNil] at hx; obtain ⟨rfl, _, rfl⟩ := hx; rfl
  | hend => simp [aisNil] at hx
  | hnil => simp [aisNil] at hx
  | _ => cases hx
theorem isNilC_spec {k : Nat} {y : AV} (hy : isNilC k y = true) {G w v} (hv : Rep G w y v) : (k = 2 ∧ v = .pointer none) ∨ (k = 3 ∧ v = .nilIface) ∨ (k = 4 ∧ v = .slice none 0 0) ∨ (k = 5 ∧ v = .map none) ∨ (k = 6 ∧ v = .nilFunc) := by
  cases hv with
  | p =>
    cases v with
    | pointer a => cases a with
      | none => have := of_decide_eq_true hy; simp [this]
      | some a => cases hy
    | nilIface => have := of_decide_eq_true hy; simp [this]
    | slice a n c =>
      unfold isNilC at hy
      split at hy <;> simp_all
    | map a => cases a with
      | none => have := of_decide_eq_true hy; simp [this]
      | some a => cases hy
    | nilFunc => have := of_decide_eq_true hy; simp [this]
    | _ => cases hy
  | _ => cases hy
theorem run_equal_nil {t : TypeId} {x y : AV} {b : Bool} (hy : isNilC (tkind P t) y = true) (hx : aisNil (tkind P t) x = some b) {G w u v} (hu : Rep G w x u) (hv : Rep G w y v) (n : Nat) : (Op.equalIn (n + 1) t u v).run P w = .ok b w := by
  have hu' := aisNil_spec hx hu
  have hv' := isNilC_spec hy hv
  obtain ⟨d, hd, hd2⟩ := tkind_spec (t := t) (P := P) rfl (by rcases hv' with ⟨h, _⟩ | ⟨h, _⟩ | ⟨h, _⟩ | ⟨h, _⟩ | ⟨h, _⟩ <;> omega)
  generalize tkind P t = k at *
  rcases hv' with ⟨rfl, rfl⟩ | ⟨rfl, rfl⟩ | ⟨rfl, rfl⟩ | ⟨rfl, rfl⟩ | ⟨rfl, rfl⟩
  · obtain ⟨e, rfl⟩ : ∃ e, d = .pointer e := by simpa using hd2
    cases u with
    | pointer a => cases a <;> (simp only [NilAs] at hu'; subst hu'; simp only [Op.equalIn, Sem.run_bind, run_underlying' hd, Result.andThen_ok]; rfl)
    | _ => exact hu'.elim
  · obtain ⟨e, rfl⟩ : ∃ e, d = .interface e := by simpa using hd2
    cases u with
    | nilIface => simp only [NilAs] at hu'; subst hu'; simp only [Op.equalIn, Sem.run_bind, run_underlying' hd, Result.andThen_ok]; rfl
    | iface _ _ => simp only [NilAs] at hu'; subst hu'; simp only [Op.equalIn, Sem.run_bind, run_underlying' hd, Result.andThen_ok]; rfl
    | _ => exact hu'.elim
  · obtain ⟨e, rfl⟩ : ∃ e, d = .slice e := by simpa using hd2
    cases u with
    | slice a _ _ => cases a <;> (simp only [NilAs] at hu'; subst hu'; simp only [Op.equalIn, Sem.run_bind, run_underlying' hd, Result.andThen_ok]; rfl)
    | _ => exact hu'.elim
  · obtain ⟨e, f, rfl⟩ : ∃ e f, d = .map e f := by simpa using hd2
    cases u with
    | map a => cases a <;> (simp only [NilAs] at hu'; subst hu'; simp only [Op.equalIn, Sem.run_bind, run_underlying' hd, Result.andThen_ok]; rfl)
    | _ => exact hu'.elim
  · obtain ⟨e, f, g, rfl⟩ : ∃ e f g, d = .func e f g := by simpa using hd2
    cases u with
    | nilFunc => simp only [NilAs] at hu'; subst hu'; simp only [Op.equalIn, Sem.run_bind, run_underlying' hd, Result.andThen_ok]; rfl
    | func _ _ _ => simp only [NilAs] at hu'; subst hu'; simp only [Op.equalIn, Sem.run_bind, run_underlying' hd, Result.andThen_ok]; rfl
    | _ => exact hu'.elim
def isConstO : Operand → Bool
  | .const _ => true
  | _ => false
theorem opq_binOp {op : BinOp} {t t2 : TypeId} {x y : Operand} (ho : o.op = .binOp op t x y t2) {v : Value} (h : abin P op t (ρ x) (ρ y) = some v) (hc : tkind P t = 3 → isConstO y = true) (hr : R (.p v) σ) : OpQ P o ρ σ R := by
  refine opq_v (s := fun e => do eqGuard op t x y (e x) (e y); binOp op t (e x) (e y)) (fun e => by simp only [execOp, ho]) (.p v) hr fun G e w he hw => ⟨v, ?_, .p v⟩
  have hx := he x
  have hy := he y
  generalize ρ x = cx at h hx
  generalize ρ y = cy at h hy
  generalize e x = vx at hx
  generalize e y = vy at hy
  simp only [Sem.run_bind]
  unfold abin at h
  split at h
  · cases hx; cases hy
    rw [run_eqGuard (by intros; contradiction) (by intros; contradiction)]
    simp only [Result.andThen_ok]
    split at h
    · exact run_binOp_shift (.inl rfl) h w
    · exact run_binOp_shift (.inr rfl) h w
    · split at h
      · rename_i hk
        subst hk
        exact run_binOp_int h w
      · cases h
  · cases hx; cases hy
    rw [run_eqGuard (by intros; contradiction) (by intros; contradiction)]
    exact run_binOp_str h w
  · cases hx; cases hy
    rw [run_eqGuard (by intros; contradiction) (by intros; contradiction)]
    simp only [Result.andThen_ok]
    split at h
    · rename_i ht
      split at h
      · obtain rfl := Option.some.inj h
        simp [binOp, run_equal_bool ht]
      · obtain rfl := Option.some.inj h
        simp [binOp, run_equal_bool ht, bne]
      · cases h
    · cases h
  · rename_i hni hns hnb
    split at h
    · rename_i hyn
      have hg : (eqGuard op t x y vx vy).run P w = .ok () w := by
        refine run_eqGuard (fun cs ds e1 e2 => ?_) (fun e1 e2 => ?_) w
        · subst e2
          cases hy with
          | p => cases hyn
          | agg => cases hyn
          | any => cases hyn
          | opt => cases hyn
        · subst e1 e2
          have : tkind P t = 3 := by
            cases hy with
            | p => simpa [isNilC] using hyn
            | any => cases hyn
            | opt => cases hyn
          have hcy := hc this
          cases y with
          | const v => exact .inr ⟨_, rfl⟩
          | _ => cases hcy
      rw [hg]
      simp only [Result.andThen_ok]
      have hsplit : ∀ b, aisNil (tkind P t) cx = some b → (Op.equal t vx vy).run P w = .ok b w := fun b hb => run_equal_nil hyn hb hx hy 9999
      have hbin : ∀ (q : BinOp), (q = .eql ∨ q = .neq) → (binOp q t vx vy) = (if q = .eql then (do pure (.bool (← Op.equal t vx vy))) else (do pure (.bool (!(← Op.equal t vx vy))))) := by
        intro q hq
        cases hy with
        | any => cases hyn
        | opt => cases hyn
        | p =>
          have hy2 : (∃ a, vy = .pointer a) ∨ vy = .nilIface ∨ (∃ a b c, vy = .slice a b c) ∨ (∃ a, vy = .map a) ∨ vy = .nilFunc := by
            cases vy <;> first | cases hyn | simp
          rcases hq with rfl | rfl <;> rcases hy2 with ⟨a, rfl⟩ | rfl | ⟨a, b, c, rfl⟩ | ⟨a, rfl⟩ | rfl <;> cases vx <;> rfl
        | _ => cases hyn
      split at h
      · obtain ⟨b, hb, rfl⟩ := Option.map_eq_some_iff.1 h
        rw [hbin .eql (.inl rfl)]
        simp [hsplit b hb]
      · obtain ⟨b, hb, rfl⟩ := Option.map_eq_some_iff.1 h
        rw [hbin .neq (.inr rfl)]
        simp [hsplit b hb]
      · cases h
    · cases h
end Go.AL
