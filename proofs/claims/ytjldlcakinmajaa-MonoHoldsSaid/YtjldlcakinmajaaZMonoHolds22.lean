/- Parts of the proof of MonoHolds: the logic, contracts, plain laws. -/
import Derived.Test.YtjldlcakinmajaaZMonoHolds21
import Derived.Test.YtjldlcakinmajaaZMonoHolds20
import Derived.Test.YtjldlcakinmajaaZMonoHolds12
/-! Contracts: a place's way; a constant. -/
namespace Go.AL
open Go.Proofs
set_option linter.unusedSimpArgs false
set_option linter.unusedVariables false
def kn (p : Int × Int × Int) : AV := .agg [vi p.1, vi p.2.1, vi p.2.2]
def kns (l : List (Int × Int × Int)) : List AV := l.map kn
@[simp] theorem cl_kns (l : List (Int × Int × Int)) : (∀ c ∈ kns l, Cl c) = True := eq_true fun c hc => by
  obtain ⟨p, _, rfl⟩ := List.mem_map.1 hc
  exact .agg _ (by simp)
theorem kns_len (l : List (Int × Int × Int)) : (kns l).length = l.length := List.length_map _
theorem kns_get {l : List (Int × Int × Int)} {i : Nat} {a b w : Int} (h : l[i]? = some (a, b, w)) : (kns l)[i]? = some (.agg [vi a, vi b, vi w]) := by rw [kns, List.getElem?_map, h]; rfl
/-- A place's way: the first one that is known. -/
def atK : List (Int × Int × Int) → Int → Int → Int
  | [], _, _ => 0
  | (a, b, w) :: l, x, y => if a = x ∧ b = y then cleanW w else atK l x y
theorem cleanW_in (w : Int) : 0 ≤ cleanW w ∧ cleanW w ≤ 3 := by unfold cleanW; split <;> omega
theorem atK_in (x y : Int) : ∀ l, 0 ≤ atK l x y ∧ atK l x y ≤ 3
  | [] => by simp [atK]
  | (a, b, w) :: l => by
    rw [atK]
    split
    · exact cleanW_in w
    · exact atK_in x y l
/-! ### constants -/
mutual
def conT : Tree → Option Int
  | .mk k n _ _ _ _ _ ks => if k = 0 then some n else if k = 3 then (conK ks).map (fun m => -m) else none
def conK : List Tree → Option Int
  | [] => none
  | t :: _ => conT t
end
def numZ (t : Tree) : Int := (conT t).getD 0
def numB (t : Tree) : Bool := (conT t).isSome
theorem may_num {n a b c d : Int} {w : ByteArray} {ks : List Tree} (h : mayB (.mk 0 n a b c d w ks) = true) : 0 ≤ n := by
  have h1 := ((own_iff _ _ _ _ _ _ _ _).1 ((may_own _ _ _ _ _ _ _ _).1 h).1).2
  exact h1.2
theorem may_neg {n a b c d : Int} {w : ByteArray} {ks : List Tree} (h : mayB (.mk 3 n a b c d w ks) = true) : ∃ u, ks = [u] ∧ mayB u = true := by
  have h0 := (may_own _ _ _ _ _ _ _ _).1 h
  have h1 := ((own_iff _ _ _ _ _ _ _ _).1 h0.1).2
  obtain ⟨u, rfl⟩ := List.length_eq_one_iff.1 (show ks.length = 1 from h1)
  exact ⟨u, rfl, (h0.2 u (by simp)).2⟩
theorem may_op {n a b c d : Int} {w : ByteArray} {ks : List Tree} (h : mayB (.mk 4 n a b c d w ks) = true) : ∃ u v, ks = [u, v] ∧ mayB u = true ∧ mayB v = true := by
  have h0 := (may_own _ _ _ _ _ _ _ _).1 h
  have h1 := ((own_iff _ _ _ _ _ _ _ _).1 h0.1).2
  obtain ⟨u, v, rfl⟩ : ∃ u v, ks = [u, v] := by
    have h2 : ks.length = 2 := h1.1
    match ks, h2 with
    | [u, v], _ => exact ⟨u, v, rfl⟩
  exact ⟨u, v, rfl, (h0.2 u (by simp)).2, (h0.2 v (by simp)).2⟩
theorem num_bd : ∀ t : Tree, t.In → mayB t = true → -9223372036854775807 ≤ numZ t ∧ numZ t ≤ 9223372036854775807 := by
  refine Tree.byKids fun k n a b c d w ks ih => ?_
  intro hin hm
  rw [Tree.In, ins_all] at hin
  obtain ⟨_, hn, _, _, _, _, _, _, hks⟩ := hin
  unfold numZ
  rw [conT]
  by_cases h0 : k = 0
  · subst h0
    have := may_num hm
    unfold In64 at hn
    simp
    omega
  by_cases h3 : k = 3
  · subst h3
    obtain ⟨u, rfl, hu⟩ := may_neg hm
    have := ih u (by simp) (hks u (by simp)) hu
    unfold numZ at this
    simp only [conK]
    generalize conT u = o at *
    cases o with
    | none => simp
    | some m => simp at this ⊢; omega
  · simp [h0, h3]
def ConP (F : FuncId) (r : Tree → AV) (t : Tree) : Prop := t.In → mayB t = true → APure Try.prog F [t.av] (r t)
set_option maxHeartbeats 8000000 in
set_option maxRecDepth 100000 in
theorem con_ok : ∀ t, ConP 81 (fun t => .tup [vi (numZ t), vb (numB t)]) t := by
  refine Tree.byKids fun k n a b c d w ks ih => ?_
  intro hin hm
  have hin0 := hin
  rw [Tree.In, ins_all] at hin
  obtain ⟨_, hn, _, _, _, _, _, _, hks⟩ := hin
  unfold numZ numB
  simp only [conT]
  by_cases h0 : k = 0
  · subst h0
    rw [Tree.av]
    refine apure_in Try.func81 Try.ntmps81 rfl ?_
    repeat' first | refine aw_N [] trivial trivial ?_ | refine aw_cond rfl (fun h => ?_) (fun h => ?_)
    all_goals first | (simp [tupOf]; done) | trace_state
  by_cases h3 : k = 3
  · subst h3
    obtain ⟨u, rfl, hu⟩ := may_neg hm
    have hr : APure Try.prog 81 [u.av] (.tup [vi (numZ u), vb (numB u)]) := ih u (by simp) (hks u (by simp)) hu
    have hb := num_bd u (hks u (by simp)) hu
    have wn : IntKind.i64.wrap (-numZ u) = -numZ u := wrap_id (by omega) (by omega)
    have e1 : ((conT u).map (fun m => -m)).getD 0 = -numZ u := by unfold numZ; cases conT u <;> simp
    have e2 : ((conT u).map (fun m => -m)).isSome = numB u := by unfold numB; cases conT u <;> simp
    simp only [conK, if_neg h0, if_true, e1, e2]
    generalize numZ u = nz at *
    generalize numB u = nb at *
    obtain ⟨tk, tn, ta, tb, tc, td, tw, tks⟩ := u
    rw [Tree.av] at hr
    simp only [Tree.av, avs]
    refine apure_in Try.func81 Try.ntmps81 rfl ?_
    repeat' first | refine aw_N [] @wn (And.intro @hr trivial) ?_ | refine aw_cond rfl (fun h => ?_) (fun h => ?_)
    all_goals first | (simp [tupOf]; done) | trace_state
  · simp only [if_neg h0, if_neg h3, Option.getD, Option.isSome]
    rw [Tree.av]
    refine apure_in Try.func81 Try.ntmps81 rfl ?_
    repeat' first | refine aw_N [] (And.intro @h0 @h3) trivial ?_ | refine aw_cond rfl (fun h => ?_) (fun h => ?_)
    all_goals first | (simp [tupOf]; done) | trace_state
end Go.AL
/-! Contracts: gridironref08.way, Of. -/
namespace Go.AL
open Go.Proofs
set_option linter.unusedSimpArgs false
set_option linter.unusedVariables false
def stW (a b : Int) : Int := if a = 0 ∧ b = 0 then 0 else 3
def byW (a n : Int) : Int := if n < 0 then flipW a else a
/-- An Op's way. -/
def opW (w : ByteArray) (a b : Int) (p : Bool) (m : Int) (q : Bool) (n : Int) : Int :=
  if w = ⟨#[43]⟩ then twoW a b
  else if w = ⟨#[45]⟩ ∨ w = ⟨#[62]⟩ ∨ w = ⟨#[62, 61]⟩ then twoW a (flipW b)
  else if w = ⟨#[60]⟩ ∨ w = ⟨#[60, 61]⟩ then twoW b (flipW a)
  else if w = ⟨#[42]⟩ then (if q = true then byW a n else if p = true then byW b m else stW a b)
  else if w = ⟨#[47]⟩ then (if q = true ∧ n ≠ 0 then byW a n else stW a b)
  else stW a b
mutual
def wayT (f : Int → Int → Int) : Tree → Int
  | .mk k n a b c d w ks =>
    if k = 1 then f a b
    else if k = 6 then joinW ((gridL a b c d).map fun p => f p.1 p.2)
    else if k = 3 then flipW ((wayTs f ks).headD 0)
    else if k = 4 then opW w ((wayTs f ks).headD 0) ((wayTs f ks).tail.headD 0) (numB (ks.headD badT)) (numZ (ks.headD badT)) (numB (ks.tail.headD badT)) (numZ (ks.tail.headD badT))
    else if k = 5 then (if w = bCOUNT then 0 else if w = bIF ∧ (wayTs f ks).headD 0 ≠ 0 then 3 else joinW (wayTs f ks))
    else 0
def wayTs (f : Int → Int → Int) : List Tree → List Int
  | [] => []
  | t :: ts => wayT f t :: wayTs f ts
end
theorem wayTs_map (f : Int → Int → Int) : ∀ l, wayTs f l = l.map (wayT f)
  | [] => rfl
  | t :: ts => by rw [wayTs, wayTs_map f ts]; rfl
/-! ### in range -/
def InW (w : Int) : Prop := 0 ≤ w ∧ w ≤ 3
instance (w : Int) : Decidable (InW w) := by unfold InW; infer_instance
theorem twoW_in (a b : Int) : InW (twoW a b) := by unfold twoW InW; repeat' split <;> omega
theorem flipW_in (a : Int) : InW (flipW a) := by unfold flipW cleanW InW; repeat' split <;> omega
theorem joinW_in : ∀ l : List Int, InW (joinW l) := by
  intro l
  have : ∀ (l : List Int) (a : Int), InW a → InW (l.foldl twoW a) := by
    intro l
    induction l with
    | nil => intro a h; exact h
    | cons b l ih => intro a _; exact ih _ (twoW_in _ _)
  exact this l 0 (by decide)
theorem byW_in {a : Int} (n : Int) (h : InW a) : InW (byW a n) := by unfold byW; split <;> first | exact flipW_in _ | exact h
theorem stW_in (a b : Int) : InW (stW a b) := by unfold stW; split <;> decide
theorem opW_in {w : ByteArray} {a b : Int} {p : Bool} {m : Int} {q : Bool} {n : Int} (ha : InW a) (hb : InW b) : InW (opW w a b p m q n) := by
  unfold opW
  repeat' split
  all_goals first | exact twoW_in _ _ | exact byW_in _ ha | exact byW_in _ hb | exact stW_in _ _
theorem wayT_in {f : Int → Int → Int} (hf : ∀ x y, InW (f x y)) : ∀ t, InW (wayT f t) := by
  refine Tree.byKids fun k n a b c d w ks ih => ?_
  have h0 : ∀ l : List Tree, (∀ t ∈ l, InW (wayT f t)) → InW ((wayTs f l).headD 0) := by
    intro l h
    cases l with
    | nil => exact (by decide : InW 0)
    | cons t ts => exact h t (by simp)
  have h1 := h0 ks ih
  have h2 : InW ((wayTs f ks).tail.headD 0) := by
    have : (wayTs f ks).tail = wayTs f ks.tail := by cases ks <;> simp [wayTs]
    rw [this]; exact h0 _ fun t ht => ih t (List.mem_of_mem_tail ht)
  rw [wayT]
  repeat' split
  all_goals first | exact hf _ _ | exact joinW_in _ | exact flipW_in _ | exact opW_in h1 h2 | decide
theorem joinW2 {a b : Int} (ha : InW a) : joinW [a, b] = twoW a b := by
  unfold InW at ha
  have h1 : a = 0 ∨ a = 1 ∨ a = 2 ∨ a = 3 := by omega
  rcases h1 with rfl | rfl | rfl | rfl <;> rfl
theorem joinW1 {a : Int} (ha : InW a) : joinW [a] = a := by
  unfold InW at ha
  have h1 : a = 0 ∨ a = 1 ∨ a = 2 ∨ a = 3 := by omega
  rcases h1 with rfl | rfl | rfl | rfl <;> rfl
theorem st_join {a b : Int} (ha : InW a) (hb : InW b) : (if joinW [a, b] = 0 then (0 : Int) else 3) = stW a b := by
  rw [joinW2 ha]
  unfold InW at ha hb
  have h1 : a = 0 ∨ a = 1 ∨ a = 2 ∨ a = 3 := by omega
  have h2 : b = 0 ∨ b = 1 ∨ b = 2 ∨ b = 3 := by omega
  rcases h1 with rfl | rfl | rfl | rfl <;> rcases h2 with rfl | rfl | rfl | rfl <;> decide
/-! ### the document's -/
end Go.AL
/-! Contracts: gridironref08.way, Of. -/
namespace Go.AL
open Go.Proofs
set_option linter.unusedSimpArgs false
set_option linter.unusedVariables false
theorem may_call {n a b c d : Int} {w : ByteArray} {ks : List Tree} (h : mayB (.mk 5 n a b c d w ks) = true) : 0 < ks.length ∧ ∀ u ∈ ks, mayB u = true := by
  have h0 := (may_own _ _ _ _ _ _ _ _).1 h
  have h1 := ((own_iff _ _ _ _ _ _ _ _).1 h0.1).2
  refine ⟨?_, fun u hu => (h0.2 u hu).2⟩
  have h2 : (5 : Int) = 5 ∧ (if w = bIF then ks.length = 3 else isFn w = true ∧ 0 < ks.length) := h1
  have h2 := h2.2
  split at h2 <;> omega
@[simp] theorem cl_pl1 (l : List (Int × Int)) : (∀ c ∈ l.map pl, Cl c) = True := eq_true fun c hc => by
  obtain ⟨p, _, rfl⟩ := List.mem_map.1 hc
  exact .agg _ (by simp)
@[simp] theorem cl_pl2 (l : List (Int × Int)) : (∀ (c : AV) (x y : Int), (x, y) ∈ l → pl (x, y) = c → Cl c) = True := eq_true fun c x y _ h => by
  rw [← h]; exact .agg _ (by simp)
theorem may_read {n a b c d : Int} {w : ByteArray} {ks : List Tree} (h : mayB (.mk 1 n a b c d w ks) = true) : rightP a b = true ∧ a = c ∧ b = d := by
  have h0 := (may_own _ _ _ _ _ _ _ _).1 h
  exact (((own_iff _ _ _ _ _ _ _ _).1 h0.1).2).2
end Go.AL
/-! What a tree comes to goes the way that is told of it. -/
namespace Go.AL
open Go.Proofs
set_option linter.unusedSimpArgs false
set_option linter.unusedVariables false
/-- From n to m it goes so. -/
def Rel (w n m : Int) : Prop := (w = 0 ∨ w = 1 → n ≤ m) ∧ (w = 0 ∨ w = 2 → m ≤ n)
theorem Rel.refl (w n : Int) : Rel w n n := ⟨fun _ => Int.le_refl _, fun _ => Int.le_refl _⟩
theorem Rel.of3 (n m : Int) : Rel 3 n m := ⟨fun h => by omega, fun h => by omega⟩
def ImpW (a b : Int) : Prop := ∀ n m, Rel a n m → Rel b n m
theorem ImpW.trans {a b c : Int} (h : ImpW a b) (g : ImpW b c) : ImpW a c := fun n m x => g n m (h n m x)
theorem imp_l {a b : Int} (ha : InW a) (hb : InW b) : ImpW a (twoW a b) := by
  intro n m h
  unfold InW at ha hb
  unfold Rel at *
  unfold twoW
  repeat' split
  all_goals omega
theorem imp_r {a b : Int} (ha : InW a) (hb : InW b) : ImpW b (twoW a b) := by
  intro n m h
  unfold InW at ha hb
  unfold Rel at *
  unfold twoW
  repeat' split
  all_goals omega
theorem imp_fold : ∀ (l : List Int) (a : Int), InW a → (∀ w ∈ l, InW w) → ImpW a (l.foldl twoW a) ∧ ∀ w ∈ l, ImpW w (l.foldl twoW a)
  | [], a, _, _ => ⟨fun _ _ h => h, fun w h => by cases h⟩
  | b :: l, a, ha, hl => by
    have hb := hl b List.mem_cons_self
    have ih := imp_fold l (twoW a b) (twoW_in a b) fun w h => hl w (List.mem_cons_of_mem _ h)
    refine ⟨(imp_l ha hb).trans ih.1, fun w h => ?_⟩
    rcases List.mem_cons.1 h with rfl | h
    · exact (imp_r ha hb).trans ih.1
    · exact ih.2 w h
theorem imp_join {l : List Int} (hl : ∀ w ∈ l, InW w) {w : Int} (h : w ∈ l) : ImpW w (joinW l) := (imp_fold l 0 (by decide) hl).2 w h
theorem flip_rel {w n m : Int} (hw : InW w) (h : Rel w n m) : Rel (flipW w) (-n) (-m) := by
  unfold InW at hw
  unfold Rel at *
  unfold flipW cleanW
  repeat' split
  all_goals omega
theorem add_rel {w a a' b b' : Int} (h : Rel w a a') (g : Rel w b b') : Rel w (a + b) (a' + b') := by unfold Rel at *; omega
theorem min_rel {w a a' b b' : Int} (h : Rel w a a') (g : Rel w b b') : Rel w (min a b) (min a' b') := by unfold Rel at *; omega
theorem max_rel {w a a' b b' : Int} (h : Rel w a a') (g : Rel w b b') : Rel w (max a b) (max a' b') := by unfold Rel at *; omega
/-- Of two lists of values, each is related to its like. -/
def Rels (w : Int) : List (Int × Int) → List (Int × Int) → Prop
  | [], [] => True
  | v :: l, u :: m => (v.2 = 0 → u.2 = 0 → Rel w v.1 u.1) ∧ Rels w l m
  | _, _ => False
theorem Rels.imp {w w' : Int} (i : ImpW w w') : ∀ {l m : List (Int × Int)}, Rels w l m → Rels w' l m
  | [], [], _ => trivial
  | _ :: _, _ :: _, h => ⟨fun a b => i _ _ (h.1 a b), Rels.imp i h.2⟩
  | [], _ :: _, h => h.elim
  | _ :: _, [], h => h.elim
theorem Rels.append {w : Int} : ∀ {l m l' m' : List (Int × Int)}, Rels w l m → Rels w l' m' → Rels w (l ++ l') (m ++ m')
  | [], [], _, _, _, h => h
  | _ :: _, _ :: _, _, _, h, g => ⟨h.1, Rels.append h.2 g⟩
  | [], _ :: _, _, _, h, _ => h.elim
  | _ :: _, [], _, _, h, _ => h.elim
theorem Rels.len {w : Int} : ∀ {l m : List (Int × Int)}, Rels w l m → l.length = m.length
  | [], [], _ => rfl
  | _ :: _, _ :: _, h => by rw [List.length_cons, List.length_cons, Rels.len h.2]
  | [], _ :: _, h => h.elim
  | _ :: _, [], h => h.elim
theorem add_fine {s v : Int × Int} (h : (addS s v).2 = 0) : s.2 = 0 ∧ v.2 = 0 ∧ (addS s v).1 = s.1 + v.1 := by
  unfold addS at *
  simp only at *
  unfold doF at h
  rw [if_neg (by decide)] at h
  by_cases hs : s.2 = 0
  · rw [if_neg (by simp [hs])] at h
    by_cases hv : v.2 = 0
    · rw [if_neg (by simp [hv])] at h
      refine ⟨hs, hv, ?_⟩
      unfold doN
      rw [if_neg (by simp [hs, hv])]
      unfold fltK at h
      unfold numK
      rw [if_pos rfl] at h ⊢
      cases hi : inI (s.1 + v.1) with
      | true => rfl
      | false => rw [hi] at h; cases h
    · rw [if_pos hv] at h; exact absurd h hv
  · rw [if_pos hs] at h; exact absurd h hs
theorem sum_rels {w : Int} : ∀ {l m : List (Int × Int)}, Rels w l m → ∀ s s' : Int × Int, (s.2 = 0 → s'.2 = 0 → Rel w s.1 s'.1) → (l.foldl addS s).2 = 0 → (m.foldl addS s').2 = 0 → Rel w (l.foldl addS s).1 (m.foldl addS s').1
  | [], [], _, s, s', h, h1, h2 => h h1 h2
  | v :: l, u :: m, hr, s, s', h, h1, h2 => by
    refine sum_rels hr.2 (addS s v) (addS s' u) (fun a b => ?_) h1 h2
    have e1 := add_fine a
    have e2 := add_fine b
    rw [e1.2.2, e2.2.2]
    exact add_rel (h e1.1 e2.1) (hr.1 e1.2.1 e2.2.1)
  | [], _ :: _, hr, _, _, _, _, _ => hr.elim
  | _ :: _, [], hr, _, _, _, _, _ => hr.elim
def Fine (l : List (Int × Int)) : Prop := ∀ v ∈ l, v.2 = 0
theorem best_fine {ah : Int → Int → Bool} {l : List (Int × Int)} (h : (bestV ah l).2 = 0) : Fine l ∧ bestV ah l = bstF ah l := by
  unfold bestV at *
  split at h
  · rename_i v hv
    have := List.find?_some hv
    simp only [isFault, Bool.not_eq_true', decide_eq_false_iff_not] at this
    exact absurd h this
  · rename_i hn
    exact ⟨fun v hv => by simpa [isFault] using List.find?_eq_none.1 hn v hv, rfl⟩
theorem bst_rels {ah : Int → Int → Bool} {pk : Int → Int → Int} (hp : ∀ o v : Int × Int, (bstS ah o v).1 = pk o.1 v.1) {w : Int} (hr : ∀ a a' b b', Rel w a a' → Rel w b b' → Rel w (pk a b) (pk a' b')) :
    ∀ {l m : List (Int × Int)}, Rels w l m → Fine l → Fine m → ∀ o o' : Int × Int, Rel w o.1 o'.1 → Rel w (l.foldl (bstS ah) o).1 (m.foldl (bstS ah) o').1
  | [], [], _, _, _, o, o', h => h
  | v :: l, u :: m, hx, hl, hm, o, o', h => by
    refine bst_rels hp hr hx.2 (fun y hy => hl y (List.mem_cons_of_mem _ hy)) (fun y hy => hm y (List.mem_cons_of_mem _ hy)) (bstS ah o v) (bstS ah o' u) ?_
    rw [hp, hp]
    exact hr _ _ _ _ h (hx.1 (hl v List.mem_cons_self) (hm u List.mem_cons_self))
  | [], _ :: _, hx, _, _, _, _, _ => hx.elim
  | _ :: _, [], hx, _, _, _, _, _ => hx.elim
theorem best_rels {ah : Int → Int → Bool} {pk : Int → Int → Int} (hp : ∀ o v : Int × Int, (bstS ah o v).1 = pk o.1 v.1) {w : Int} (hr : ∀ a a' b b', Rel w a a' → Rel w b b' → Rel w (pk a b) (pk a' b'))
    {l m : List (Int × Int)} (h : Rels w l m) (h1 : (bestV ah l).2 = 0) (h2 : (bestV ah m).2 = 0) : Rel w (bestV ah l).1 (bestV ah m).1 := by
  obtain ⟨f1, e1⟩ := best_fine h1
  obtain ⟨f2, e2⟩ := best_fine h2
  rw [e1, e2]
  match l, m, h with
  | [], [], _ => exact Rel.refl _ _
  | v :: l, u :: m, h => exact bst_rels hp hr h.2 (fun y hy => f1 y (List.mem_cons_of_mem _ hy)) (fun y hy => f2 y (List.mem_cons_of_mem _ hy)) v u (h.1 (f1 v List.mem_cons_self) (f2 u List.mem_cons_self))
theorem pk_min (o v : Int × Int) : (bstS (fun a b => decide (a < b)) o v).1 = min o.1 v.1 := by
  unfold bstS
  simp only [decide_eq_true_eq]
  split <;> omega
theorem pk_max (o v : Int × Int) : (bstS (fun a b => decide (b < a)) o v).1 = max o.1 v.1 := by
  unfold bstS
  simp only [decide_eq_true_eq]
  split <;> omega
/-! ### ops -/
theorem do_fine {k : Nat} {a fa b fb : Int} (hk : k ≠ 10) (h : doF k a fa b fb = 0) : fa = 0 ∧ fb = 0 ∧ fltK k a b = 0 ∧ doN k a fa b fb = numK k a b := by
  unfold doF at h
  rw [if_neg hk] at h
  by_cases ha : fa = 0
  · rw [if_neg (by simp [ha])] at h
    by_cases hb : fb = 0
    · rw [if_neg (by simp [hb])] at h
      refine ⟨ha, hb, h, ?_⟩
      unfold doN
      rw [if_neg (by simp [hk, ha, hb])]
    · rw [if_pos hb] at h; exact absurd h hb
  · rw [if_pos ha] at h; exact absurd h ha
theorem zf {b : Bool} (h : z (!b) 1 = 0) : b = true := by cases b <;> simp [z] at h ⊢
theorem mul_rel {w a a' m : Int} (hw : InW w) (h : Rel w a a') : Rel (byW w m) (a * m) (a' * m) := by
  unfold byW
  split
  · rename_i hm
    have g := flip_rel hw h
    have e1 : a * m = (-a) * (-m) := by rw [Int.neg_mul_neg]
    have e2 : a' * m = (-a') * (-m) := by rw [Int.neg_mul_neg]
    rw [e1, e2]
    exact ⟨fun x => Int.mul_le_mul_of_nonneg_right (g.1 x) (by omega), fun x => Int.mul_le_mul_of_nonneg_right (g.2 x) (by omega)⟩
  · exact ⟨fun x => Int.mul_le_mul_of_nonneg_right (h.1 x) (by omega), fun x => Int.mul_le_mul_of_nonneg_right (h.2 x) (by omega)⟩
theorem div_rel {w a a' m : Int} (hw : InW w) (h : Rel w a a') (h0 : m ≠ 0) : Rel (byW w m) (a.tdiv m) (a'.tdiv m) := by
  unfold byW
  split
  · rename_i hm
    have g := flip_rel hw h
    have e1 : a.tdiv m = (-a).tdiv (-m) := by rw [Int.neg_tdiv_neg]
    have e2 : a'.tdiv m = (-a').tdiv (-m) := by rw [Int.neg_tdiv_neg]
    rw [e1, e2]
    exact ⟨fun x => Int.tdiv_le_tdiv (by omega) (g.1 x), fun x => Int.tdiv_le_tdiv (by omega) (g.2 x)⟩
  · exact ⟨fun x => Int.tdiv_le_tdiv (by omega) (h.1 x), fun x => Int.tdiv_le_tdiv (by omega) (h.2 x)⟩
theorem same_rel {wa wb a a' b b' : Int} (ha : Rel wa a a') (hb : Rel wb b b') (k : Nat) : Rel (stW wa wb) (numK k a b) (numK k a' b') := by
  unfold stW
  split
  · rename_i h
    have e1 : a = a' := by unfold Rel at ha; omega
    have e2 : b = b' := by unfold Rel at hb; omega
    rw [e1, e2]; exact Rel.refl _ _
  · exact Rel.of3 _ _
theorem sub_rel {wa wb a a' b b' : Int} (hwa : InW wa) (hwb : InW wb) (ha : Rel wa a a') (hb : Rel wb b b') : Rel (twoW wa (flipW wb)) (a - b) (a' - b') := by
  rw [Int.sub_eq_add_neg, Int.sub_eq_add_neg]
  exact add_rel (imp_l hwa (flipW_in _) _ _ ha) (imp_r hwa (flipW_in _) _ _ (flip_rel hwb hb))
theorem step_rel {w d d' : Int} (h : Rel w d d') : Rel w (z (decide (0 < d)) 1) (z (decide (0 < d')) 1) := by
  unfold Rel at *
  unfold z
  simp only [decide_eq_true_eq]
  repeat' split
  all_goals omega
theorem step_rel' {w d d' : Int} (h : Rel w d d') : Rel w (z (decide (0 ≤ d)) 1) (z (decide (0 ≤ d')) 1) := by
  unfold Rel at *
  unfold z
  simp only [decide_eq_true_eq]
  repeat' split
  all_goals omega
theorem op_rel {w : ByteArray} {wa wb a a' b b' : Int} {p q : Bool} {m n : Int} (hwa : InW wa) (hwb : InW wb) (ha : Rel wa a a') (hb : Rel wb b b') (hp : p = true → a = m ∧ a' = m) (hq : q = true → b = n ∧ b' = n)
    (h1 : fltK (doK w) a b = 0) (h2 : fltK (doK w) a' b' = 0) : Rel (opW w wa wb p m q n) (numK (doK w) a b) (numK (doK w) a' b') := by
  unfold opW
  by_cases w0 : w = ⟨#[43]⟩
  · rw [if_pos w0]
    rw [w0, show doK ⟨#[43]⟩ = 0 by decide] at h1 h2 ⊢
    rw [show numK 0 a b = a + b from by unfold numK; rw [if_pos rfl, zf h1]; rfl, show numK 0 a' b' = a' + b' from by unfold numK; rw [if_pos rfl, zf h2]; rfl]
    exact add_rel (imp_l hwa hwb _ _ ha) (imp_r hwa hwb _ _ hb)
  rw [if_neg w0]
  by_cases w1 : w = ⟨#[45]⟩ ∨ w = ⟨#[62]⟩ ∨ w = ⟨#[62, 61]⟩
  · rw [if_pos w1]
    have hd := sub_rel hwa hwb ha hb
    rcases w1 with w1 | w1 | w1
    · rw [w1, show doK ⟨#[45]⟩ = 1 by decide] at h1 h2 ⊢
      rw [show numK 1 a b = a - b from by unfold numK; rw [if_neg (by decide), if_pos rfl, zf h1]; rfl, show numK 1 a' b' = a' - b' from by unfold numK; rw [if_neg (by decide), if_pos rfl, zf h2]; rfl]
      exact hd
    · rw [w1, show doK ⟨#[62]⟩ = 9 by decide]
      have e : ∀ x y : Int, numK 9 x y = z (decide (0 < x - y)) 1 := fun x y => by
        show z (decide (y < x)) 1 = _
        rw [show decide (y < x) = decide (0 < x - y) from decide_eq_decide.2 (by omega)]
      rw [e, e]
      exact step_rel hd
    · rw [w1, show doK ⟨#[62, 61]⟩ = 8 by decide]
      have e : ∀ x y : Int, numK 8 x y = z (decide (0 ≤ x - y)) 1 := fun x y => by
        show z (decide (y ≤ x)) 1 = _
        rw [show decide (y ≤ x) = decide (0 ≤ x - y) from decide_eq_decide.2 (by omega)]
      rw [e, e]
      exact step_rel' hd
  rw [if_neg w1]
  by_cases w2 : w = ⟨#[60]⟩ ∨ w = ⟨#[60, 61]⟩
  · rw [if_pos w2]
    have hd := sub_rel hwb hwa hb ha
    rcases w2 with w2 | w2
    · rw [w2, show doK ⟨#[60]⟩ = 4 by decide]
      have e : ∀ x y : Int, numK 4 x y = z (decide (0 < y - x)) 1 := fun x y => by
        show z (decide (x < y)) 1 = _
        rw [show decide (x < y) = decide (0 < y - x) from decide_eq_decide.2 (by omega)]
      rw [e, e]
      exact step_rel hd
    · rw [w2, show doK ⟨#[60, 61]⟩ = 5 by decide]
      have e : ∀ x y : Int, numK 5 x y = z (decide (0 ≤ y - x)) 1 := fun x y => by
        show z (decide (x ≤ y)) 1 = _
        rw [show decide (x ≤ y) = decide (0 ≤ y - x) from decide_eq_decide.2 (by omega)]
      rw [e, e]
      exact step_rel' hd
  rw [if_neg w2]
  by_cases w3 : w = ⟨#[42]⟩
  · rw [if_pos w3]
    rw [w3, show doK ⟨#[42]⟩ = 2 by decide] at h1 h2 ⊢
    have e1 : numK 2 a b = a * b := by unfold numK; rw [if_neg (by decide), if_neg (by decide), if_pos rfl, zf h1]; rfl
    have e2 : numK 2 a' b' = a' * b' := by unfold numK; rw [if_neg (by decide), if_neg (by decide), if_pos rfl, zf h2]; rfl
    by_cases hq1 : q = true
    · rw [if_pos hq1, e1, e2, (hq hq1).1, (hq hq1).2]
      exact mul_rel hwa ha
    rw [if_neg hq1]
    by_cases hp1 : p = true
    · rw [if_pos hp1, e1, e2, (hp hp1).1, (hp hp1).2, Int.mul_comm m b, Int.mul_comm m b']
      exact mul_rel hwb hb
    rw [if_neg hp1]
    exact same_rel ha hb 2
  rw [if_neg w3]
  by_cases w4 : w = ⟨#[47]⟩
  · rw [if_pos w4]
    rw [w4, show doK ⟨#[47]⟩ = 3 by decide] at h1 h2 ⊢
    by_cases hq1 : q = true ∧ n ≠ 0
    · rw [if_pos hq1, (hq hq1.1).1, (hq hq1.1).2]
      rw [(hq hq1.1).1] at h1
      rw [(hq hq1.1).2] at h2
      have e : ∀ x : Int, fltK 3 x n = 0 → numK 3 x n = x.tdiv n := fun x hx => by
        unfold fltK at hx
        unfold numK
        rw [if_neg (by decide), if_neg (by decide), if_neg (by decide), if_pos rfl, if_neg hq1.2] at hx ⊢
        rw [zf hx]; rfl
      rw [e a h1, e a' h2]
      exact div_rel hwa ha hq1.2
    · rw [if_neg hq1]; exact same_rel ha hb 3
  rw [if_neg w4]
  exact same_rel ha hb _
/-! ### trees -/
theorem con_val {f : Int → Int → Option (Int × Int)} : ∀ t, mayB t = true → ∀ m, conT t = some m → (evT f t).2 = 0 → (evT f t).1 = m := by
  refine Tree.byKids fun k n a b c d w ks ih => ?_
  intro hm m hc h
  rw [conT] at hc
  rw [evT] at h ⊢
  by_cases h0 : k = 0
  · rw [if_pos h0] at hc ⊢
    exact Option.some.inj hc
  rw [if_neg h0] at hc h ⊢
  by_cases h3 : k = 3
  · subst h3
    rw [if_pos rfl] at hc
    rw [if_neg (by decide), if_pos rfl] at h ⊢
    obtain ⟨u, rfl, hu⟩ := may_neg hm
    simp only [conK] at hc
    obtain ⟨m', hm', rfl⟩ := Option.map_eq_some_iff.1 hc
    simp only [evTs, List.headD] at h ⊢
    unfold negFv at h
    unfold negN
    by_cases hf : (evT f u).2 = 0
    · rw [if_pos hf] at h ⊢
      rw [zf h, z_true, ih u (by simp) hu m' hm' hf]
    · rw [if_neg hf] at h; exact absurd h hf
  · rw [if_neg h3] at hc; cases hc
/-- Two sheets, whose places go these ways. -/
def Goes (wy : Int → Int → Int) (f g : Int → Int → Option (Int × Int)) : Prop :=
  ∀ x y, InW (wy x y) ∧ match f x y, g x y with
    | none, none => True
    | some v, some u => v.2 = 0 → u.2 = 0 → Rel (wy x y) v.1 u.1
    | _, _ => False
theorem span_rels {wy : Int → Int → Int} {f g : Int → Int → Option (Int × Int)} (H : Goes wy f g) (w : Int) : ∀ L : List (Int × Int), (∀ p ∈ L, ImpW (wy p.1 p.2) w) → Rels w (L.filterMap fun p => f p.1 p.2) (L.filterMap fun p => g p.1 p.2)
  | [], _ => trivial
  | p :: L, h => by
    have ih := span_rels H w L fun q hq => h q (List.mem_cons_of_mem _ hq)
    have hp := (H p.1 p.2).2
    have hi := h p List.mem_cons_self
    rw [List.filterMap_cons, List.filterMap_cons]
    cases hf : f p.1 p.2 with
    | none =>
      cases hg : g p.1 p.2 with
      | none => exact ih
      | some u => rw [hf, hg] at hp; exact hp.elim
    | some v =>
      cases hg : g p.1 p.2 with
      | none => rw [hf, hg] at hp; exact hp.elim
      | some u =>
        rw [hf, hg] at hp
        exact ⟨fun a b => hi _ _ (hp a b), ih⟩
theorem way_rel {wy : Int → Int → Int} {f g : Int → Int → Option (Int × Int)} (H : Goes wy f g) : ∀ t, mayB t = true → (evT f t).2 = 0 → (evT g t).2 = 0 → Rel (wayT wy t) (evT f t).1 (evT g t).1 := by
  have hin : ∀ t, InW (wayT wy t) := fun t => wayT_in (fun x y => (H x y).1) t
  refine Tree.byKids fun k n a b c d w ks ih => ?_
  intro hm h1 h2
  have ihk : ∀ u ∈ ks, (evT f u).2 = 0 → (evT g u).2 = 0 → Rel (wayT wy u) (evT f u).1 (evT g u).1 := fun u hu => ih u hu (may_kids hm u hu)
  have hits : Rels (joinW (wayTs wy ks)) (itS f ks) (itS g ks) := by
    have hj : ∀ u ∈ ks, ImpW (wayT wy u) (joinW (wayTs wy ks)) := fun u hu => by
      rw [wayTs_map]
      exact imp_join (fun w hw => by obtain ⟨u, _, rfl⟩ := List.mem_map.1 hw; exact hin u) (List.mem_map_of_mem hu)
    generalize joinW (wayTs wy ks) = W at *
    have : ∀ l : List Tree, (∀ u ∈ l, u ∈ ks) → Rels W (itS f l) (itS g l) := by
      intro l
      induction l with
      | nil => intro _; exact trivial
      | cons u l ihl =>
        intro hl
        have hu := hl u List.mem_cons_self
        have e : ∀ f : Int → Int → Option (Int × Int), itS f (u :: l) = itT f u ++ itS f l := fun f => rfl
        rw [e, e]
        refine Rels.append ?_ (ihl fun x hx => hl x (List.mem_cons_of_mem _ hx))
        refine Rels.imp (hj u hu) ?_
        have hku := ihk u hu
        unfold itT
        by_cases h6 : u.kind = 6
        · rw [if_pos h6, if_pos h6]
          refine span_rels H _ _ fun p hp => ?_
          obtain ⟨uk, un, ua, ub, uc, ud, uw, us⟩ := u
          simp only [Tree.kind] at h6
          subst h6
          rw [wayT, if_neg (by decide), if_pos rfl]
          exact imp_join (fun w hw => by obtain ⟨q, _, rfl⟩ := List.mem_map.1 hw; exact (H q.1 q.2).1) (List.mem_map.2 ⟨p, hp, rfl⟩)
        · rw [if_neg h6, if_neg h6]
          exact ⟨hku, trivial⟩
    exact this ks fun u h => h
  rw [evT] at h1 h2
  rw [evT, evT, wayT]
  by_cases k0 : k = 0
  · rw [if_pos k0, if_pos k0]; exact Rel.refl _ _
  rw [if_neg k0] at h1 h2
  rw [if_neg k0, if_neg k0]
  by_cases k1 : k = 1
  · rw [if_pos k1] at h1 h2
    rw [if_pos k1, if_pos k1, if_pos k1]
    have hp := (H a b).2
    cases hf : f a b with
    | none =>
      cases hg : g a b with
      | none => exact Rel.refl _ _
      | some u => rw [hf, hg] at hp; exact hp.elim
    | some v =>
      cases hg : g a b with
      | none => rw [hf, hg] at hp; exact hp.elim
      | some u =>
        rw [hf, hg] at hp
        rw [hf] at h1
        rw [hg] at h2
        exact hp h1 h2
  rw [if_neg k1] at h1 h2
  rw [if_neg k1, if_neg k1, if_neg k1]
  by_cases k3 : k = 3
  · subst k3
    obtain ⟨u, rfl, hu⟩ := may_neg hm
    rw [if_pos rfl] at h1 h2
    rw [if_pos rfl, if_pos rfl, if_neg (by decide), if_pos rfl]
    simp only [evTs, wayTs, List.headD] at *
    have hr := ihk u (by simp)
    have key : ∀ v : Int × Int, negFv v.1 v.2 = 0 → v.2 = 0 ∧ negN v.1 v.2 = -v.1 := fun v hv => by
      unfold negFv at hv
      unfold negN
      by_cases e : v.2 = 0
      · rw [if_pos e] at hv ⊢
        exact ⟨e, by rw [zf hv, z_true]⟩
      · rw [if_neg e] at hv; exact absurd hv e
    obtain ⟨f1, e1⟩ := key _ h1
    obtain ⟨f2, e2⟩ := key _ h2
    rw [e1, e2]
    exact flip_rel (hin u) (hr f1 f2)
  rw [if_neg k3] at h1 h2
  rw [if_neg k3, if_neg k3]
  by_cases k4 : k = 4
  · subst k4
    have hl : 0 < lvl w := (((own_iff _ _ _ _ _ _ _ _).1 ((may_own _ _ _ _ _ _ _ _).1 hm).1).2 : ks.length = 2 ∧ 0 < lvl w).2
    obtain ⟨u, v, rfl, hu, hv⟩ := may_op hm
    rw [if_pos rfl] at h1 h2
    rw [if_pos rfl, if_pos rfl, if_neg (by decide), if_neg (by decide), if_pos rfl]
    simp only [evTs, wayTs, List.headD, List.tail] at *
    obtain ⟨a1, b1, c1, d1⟩ := do_fine (lvl_do hl) h1
    obtain ⟨a2, b2, c2, d2⟩ := do_fine (lvl_do hl) h2
    rw [d1, d2]
    have hc : ∀ t, mayB t = true → (evT f t).2 = 0 → (evT g t).2 = 0 → numB t = true → (evT f t).1 = numZ t ∧ (evT g t).1 = numZ t := fun t ht x y hb => by
      unfold numB at hb
      unfold numZ
      obtain ⟨m, hm⟩ := Option.isSome_iff_exists.1 hb
      rw [hm]
      exact ⟨con_val t ht m hm x, con_val t ht m hm y⟩
    exact op_rel (hin u) (hin v) (ihk u (by simp) a1 a2) (ihk v (by simp) b1 b2) (hc u hu a1 a2) (hc v hv b1 b2) c1 c2
  rw [if_neg k4] at h1 h2
  rw [if_neg k4, if_neg k4]
  by_cases k5 : k = 5
  · subst k5
    rw [if_pos rfl] at h1 h2
    rw [if_pos rfl, if_pos rfl, if_neg (by decide), if_neg k3, if_neg k4, if_pos rfl]
    unfold callE at *
    by_cases wi : w = bIF
    · have wi' : w = ⟨#[73, 70]⟩ := wi
      have hlen : ks.length = 3 := by
        have h5 : (5 : Int) = 5 ∧ (if w = bIF then ks.length = 3 else isFn w = true ∧ 0 < ks.length) := ((own_iff _ _ _ _ _ _ _ _).1 ((may_own _ _ _ _ _ _ _ _).1 hm).1).2
        have h5 := h5.2
        rwa [if_pos wi] at h5
      obtain ⟨u, v, x, rfl⟩ : ∃ u v x, ks = [u, v, x] := by
        match ks, hlen with
        | [u, v, x], _ => exact ⟨u, v, x, rfl⟩
      rw [if_pos wi'] at h1 h2
      rw [if_neg (by rw [wi]; decide), if_pos wi', if_pos wi']
      by_cases hw : (wayTs wy [u, v, x]).headD 0 = 0
      · rw [if_neg (fun e => e.2 hw)]
        have h1 : (if (evT f u).2 ≠ 0 then evT f u else if (evT f u).1 ≠ 0 then evT f v else evT f x).2 = 0 := h1
        have h2 : (if (evT g u).2 ≠ 0 then evT g u else if (evT g u).1 ≠ 0 then evT g v else evT g x).2 = 0 := h2
        have hw : wayT wy u = 0 := hw
        show Rel (joinW [wayT wy u, wayT wy v, wayT wy x]) (if (evT f u).2 ≠ 0 then evT f u else if (evT f u).1 ≠ 0 then evT f v else evT f x).1 (if (evT g u).2 ≠ 0 then evT g u else if (evT g u).1 ≠ 0 then evT g v else evT g x).1
        have hj : ∀ t ∈ [wayT wy u, wayT wy v, wayT wy x], ImpW t (joinW [wayT wy u, wayT wy v, wayT wy x]) := fun t ht => imp_join (fun w hw => by
          simp only [List.mem_cons, List.not_mem_nil, or_false] at hw
          rcases hw with rfl | rfl | rfl <;> exact hin _) ht
        by_cases fu : (evT f u).2 = 0
        · by_cases gu : (evT g u).2 = 0
          · rw [if_neg (by simp [fu])] at h1
            rw [if_neg (by simp [gu])] at h2
            rw [if_neg (show ¬ (evT f u).2 ≠ 0 by simp [fu]), if_neg (show ¬ (evT g u).2 ≠ 0 by simp [gu])]
            have hs := ihk u (by simp) fu gu
            rw [hw] at hs
            have he : (evT f u).1 = (evT g u).1 := by unfold Rel at hs; omega
            rw [he] at h1
            rw [he]
            by_cases c0 : (evT g u).1 ≠ 0
            · rw [if_pos c0] at h1 h2
              rw [if_pos c0, if_pos c0]
              exact hj _ (by simp) _ _ (ihk v (by simp) h1 h2)
            · rw [if_neg c0] at h1 h2
              rw [if_neg c0, if_neg c0]
              exact hj _ (by simp) _ _ (ihk x (by simp) h1 h2)
          · rw [if_pos gu] at h2; exact absurd h2 gu
        · rw [if_pos fu] at h1; exact absurd h1 fu
      · rw [if_pos ⟨wi, hw⟩]; exact Rel.of3 _ _
    have wi' : ¬ w = ⟨#[73, 70]⟩ := wi
    rw [if_neg wi'] at h1 h2
    rw [if_neg wi', if_neg wi']
    have hw1 : (if w = bIF ∧ (wayTs wy ks).headD 0 ≠ 0 then (3 : Int) else joinW (wayTs wy ks)) = joinW (wayTs wy ks) := if_neg fun e => wi e.1
    rw [hw1]
    by_cases s1 : w = ⟨#[83, 85, 77]⟩
    · rw [if_pos s1] at h1 h2
      rw [if_pos s1, if_pos s1, if_neg (by rw [s1]; decide)]
      exact sum_rels hits (0, 0) (0, 0) (fun _ _ => Rel.refl _ _) h1 h2
    rw [if_neg s1] at h1 h2
    rw [if_neg s1, if_neg s1]
    by_cases s2 : w = ⟨#[77, 73, 78]⟩
    · rw [if_pos s2] at h1 h2
      rw [if_pos s2, if_pos s2, if_neg (by rw [s2]; decide)]
      exact best_rels pk_min (fun _ _ _ _ => min_rel) hits h1 h2
    rw [if_neg s2] at h1 h2
    rw [if_neg s2, if_neg s2]
    by_cases s3 : w = ⟨#[77, 65, 88]⟩
    · rw [if_pos s3] at h1 h2
      rw [if_pos s3, if_pos s3, if_neg (by rw [s3]; decide)]
      exact best_rels pk_max (fun _ _ _ _ => max_rel) hits h1 h2
    rw [if_neg s3, if_neg s3, hits.len]
    repeat' split
    all_goals exact Rel.refl _ _
  rw [if_neg k5] at h1
  cases h1
end Go.AL
/-! Contracts: eval's sheet, clean, items. -/
namespace Go.AL
open Go.Proofs
set_option linter.unusedSimpArgs false
set_option linter.unusedVariables false
end Go.AL
/-! Contracts: eval's words. -/
namespace Go.AL
open Go.Proofs
set_option linter.unusedSimpArgs false
set_option linter.unusedVariables false
end Go.AL
/-! Contracts: (eval.sheet).of, eval.Of. -/
namespace Go.AL
open Go.Proofs
set_option linter.unusedSimpArgs false
set_option linter.unusedVariables false
end Go.AL
/-! Contracts: eval.Of. -/
namespace Go.AL
open Go.Proofs
set_option linter.unusedSimpArgs false
set_option linter.unusedVariables false
/-! ### the sheet is what the document has -/
end Go.AL
/-! Contracts: mono's sheet, its kids, its ops. -/
namespace Go.AL
open Go.Proofs
set_option linter.unusedSimpArgs false
set_option linter.unusedVariables false
set_option maxRecDepth 100000 in
theorem shT : tmapS Try.prog 90 = some (24, 37) := by kernel_rfl
set_option maxRecDepth 100000 in
theorem shK (x y : Int) : keyok Try.prog 24 [vi x, vi y] = true := by simp [keyok]
set_option maxRecDepth 100000 in
theorem shE (x y a b : Int) : aeqF Try.prog 5 24 (.agg [vi x, vi y]) (.agg [vi a, vi b]) = some (decide (x = a) && decide (y = b)) := by simp
def kys (l : List (Int × Int × Int)) : List AV := l.map fun p => .agg [vi p.1, vi p.2.1]
def kvs (l : List (Int × Int × Int)) : List AV := l.map fun p => vi p.2.2
def shv (l : List (Int × Int × Int)) : AV := .vmp (kys l) (kvs l)
@[simp] theorem cl_shv (l : List (Int × Int × Int)) : Cl (shv l) = True := eq_true (.vmp _ _ (fun c hc => by
  obtain ⟨p, _, rfl⟩ := List.mem_map.1 hc
  exact .agg _ (by simp)) (fun c hc => by
  obtain ⟨p, _, rfl⟩ := List.mem_map.1 hc
  exact .p _))
def ixK : List (Int × Int × Int) → Int → Int → Nat → Option Nat
  | [], _, _, _ => none
  | (a, b, w) :: l, x, y, i => if x = a ∧ y = b then some i else ixK l x y (i + 1)
def gotK : List (Int × Int × Int) → Int → Int → Int
  | [], _, _ => 0
  | (a, b, w) :: l, x, y => if x = a ∧ y = b then w else gotK l x y
theorem shF (x y : Int) : ∀ (l : List (Int × Int × Int)) (i : Nat), vfind Try.prog 24 (.agg [vi x, vi y]) (kys l) i = some (ixK l x y i)
  | [], i => rfl
  | (a, b, w) :: l, i => by
    have ih := shF x y l (i + 1)
    have e : kys ((a, b, w) :: l) = .agg [vi a, vi b] :: kys l := rfl
    rw [e, vfind, shE, ixK]
    by_cases h : x = a ∧ y = b
    · rw [if_pos h]; simp [h.1, h.2]
    · rw [if_neg h, show (decide (x = a) && decide (y = b)) = false by simpa using h]
      exact ih
theorem shI (x y : Int) : ∀ (l : List (Int × Int × Int)) (i : Nat), match ixK l x y i with
    | none => gotK l x y = 0
    | some j => i ≤ j ∧ (kvs l)[j - i]? = some (vi (gotK l x y))
  | [], i => rfl
  | (a, b, w) :: l, i => by
    have ih := shI x y l (i + 1)
    rw [ixK, gotK]
    by_cases h : x = a ∧ y = b
    · rw [if_pos h, if_pos h]
      exact ⟨Nat.le_refl _, by simp [kvs]⟩
    · rw [if_neg h, if_neg h]
      cases hq : ixK l x y (i + 1) with
      | none => rw [hq] at ih; exact ih
      | some j =>
        rw [hq] at ih
        obtain ⟨h1, h2⟩ := ih
        refine ⟨by omega, ?_⟩
        rw [show j - i = (j - (i + 1)) + 1 by omega]
        exact h2
theorem shG (l : List (Int × Int × Int)) (x y : Int) : vgot Try.prog 37 (kvs l) (ixK l x y 0) (vi (gotK l x y)) := by
  have := shI x y l 0
  unfold vgot
  cases hq : ixK l x y 0 with
  | none => rw [hq] at this; simp only at this ⊢; rw [this]; exact tz37
  | some j => rw [hq] at this; exact this.2
theorem join1_ok (a : Int) : APure Try.prog 35 [.vsl [vi a]] (vi (joinW [a])) := join_ok [a] (by simp)
theorem join2_ok (a b : Int) : APure Try.prog 35 [.vsl [vi a, vi b]] (vi (joinW [a, b])) := join_ok [a, b] (by simp)
theorem still2_ok (a b : Int) : APure Try.prog 83 [.vsl [vi a, vi b]] (vi (if joinW [a, b] = 0 then 0 else 3)) := still_ok [a, b] (by simp)
def MWayP (L : List (Int × Int × Int)) (t : Tree) : Prop := t.In → mayB t = true → APure Try.prog 39 [shv L, t.av] (vi (wayT (gotK L) t))
set_option maxHeartbeats 16000000 in
set_option maxRecDepth 100000 in
theorem mop_ok (L : List (Int × Int × Int)) (k n a b c d : Int) (w : ByteArray) (u v : Tree) (A B : Int) (p q : Bool) (M N : Int) (hA : InW A) (hB : InW B)
    (hu : APure Try.prog 39 [shv L, u.av] (vi A)) (hv : APure Try.prog 39 [shv L, v.av] (vi B))
    (cu : APure Try.prog 81 [u.av] (.tup [vi M, vb p])) (cv : APure Try.prog 81 [v.av] (.tup [vi N, vb q])) :
    APure Try.prog 57 [shv L, .agg [vi k, vi n, vi a, vi b, vi c, vi d, vs w, .vsl (avs [u, v])]] (vi (opW w A B p M q N)) := by
  have e1 := joinW2 (b := B) hA
  have e2 := joinW2 (b := flipW B) hA
  have e3 := joinW2 (b := flipW A) hB
  have e4 := st_join hA hB
  unfold opW byW
  rw [← e1, ← e2, ← e3, ← e4]
  obtain ⟨uk, un, ua, ub, uc, ud, uw, uks⟩ := u
  obtain ⟨vk, vn, va, vb', vc, vd, vw, vks⟩ := v
  rw [Tree.av] at hu hv cu cv
  simp only [avs, Tree.av]
  clear e1 e2 e3 e4
  refine apure_in Try.func57 Try.ntmps57 rfl ?_
  repeat' first | refine aw_W [] trivial (And.intro @hu (And.intro @hv (And.intro @cu (And.intro @cv (And.intro @join2_ok (And.intro @flip_ok (And.intro @times_ok (And.intro @still2_ok trivial)))))))) ?_ | refine aw_cond rfl (fun h => ?_) (fun h => ?_)
  all_goals first | (simp_all [tupOf]; done) | trace_state
end Go.AL
/-! Contracts: (mono.sheet).of, mono.Of. -/
namespace Go.AL
open Go.Proofs
set_option linter.unusedSimpArgs false
set_option linter.unusedVariables false
theorem vis_snoc (l : List Int) (w : Int) : vis (l ++ [w]) = vis l ++ [vi w] := by simp [vis]
set_option maxHeartbeats 16000000 in
set_option maxRecDepth 100000 in
theorem mkids_ok (L : List (Int × Int × Int)) (k n a b c d : Int) (w : ByteArray) (ks : List Tree) (W : List Int) (hlk : ks.length ≤ 1000000000) (hWl : W.length = ks.length)
    (hr : ∀ (i : Nat) (t : Tree), ks[i]? = some t → ∃ x, W[i]? = some x ∧ APure Try.prog 39 [shv L, t.av] (vi x)) :
    APure Try.prog 58 [shv L, .agg [vi k, vi n, vi a, vi b, vi c, vi d, vs w, .vsl (avs ks)]] (.vsl (vis W)) := by
  have hl := avs_len ks
  refine apure_in Try.func58 Try.ntmps58 rfl ?_
  repeat' first | refine aw_N [7] @hl trivial ?_ | refine aw_cond rfl (fun h => ?_) (fun h => ?_)
  refine aw_open (i := 5) rfl ?_
  refine aw_loopW [0, 5, 9, 10, 11] (fun q fr σ => ∃ k' m i : Nat, i + q = ks.length ∧ k' < m ∧ σ = mkSt [] [(k', vis (W.take i))] m ∧ fr = frm 23 [(0, shv L), (5, .hsl k' 0 i), (9, .vsl (avs ks)), (10, vi ks.length), (11, vi (i : Nat))]) ks.length ?_ ?_
  · refine ⟨_, le_mkSt (bs := []) (ss := [(0, [])]) (n := 1) (by simp) (by simp) (by decide), 0, 1, 0, by omega, by decide, by simp [vis], ?_⟩
    simp [hl, σ0]
  · rintro q fr σ ⟨k', m, i, hi, hkm, rfl, rfl⟩
    simp -implicitDefEqProofs
    have hvl : (vis (W.take i)).length = min i W.length := by rw [vis_len, List.length_take]
    by_cases hlt : i < ks.length
    · have hlti : (i : Int) < ks.length := by omega
      obtain ⟨t, ht⟩ : ∃ t, ks[i]? = some t := ⟨_, List.getElem?_eq_getElem hlt⟩
      obtain ⟨x, hx, hc⟩ := hr i t ht
      have hg := avs_get hlt
      rw [show ks[i] = t by rw [List.getElem?_eq_getElem hlt] at ht; exact Option.some.inj ht] at hg
      have hla : i < (avs ks).length := by omega
      have wi : IntKind.i64.wrap ((i : Int) + 1) = (i : Int) + 1 := wrap_id (by omega) (by omega)
      have hvn : vis (W.take (i + 1)) = vis (W.take i) ++ [vi x] := by rw [List.take_add_one, hx]; exact vis_snoc _ _
      have hvi : (vis (W.take i)).length = i := by omega
      have hVc : ∀ y ∈ vis (W.take i), y.cells.length = 1 := fun y hy => by obtain ⟨p, _, rfl⟩ := List.mem_map.1 hy; rfl
      generalize vis (W.take i) = V at *
      obtain ⟨tk, tn, ta, tb, tc, td, tw, tks⟩ := t
      rw [Tree.av] at hc hg
      repeat' first | refine aw_N [7] (And.intro @hlti (And.intro @hl (And.intro @hla (And.intro @hg @wi)))) (And.intro @hc trivial) ?_ | refine aw_cond rfl (fun h => ?_) (fun h => ?_)
      refine awl_append [7] rfl rfl rfl (xs := V) (by simp) (by omega) rfl (by simp) te119 tet119 tz37 rfl hVc (by simp) (by simp; omega) (by simp; omega) ?_
      simp -implicitDefEqProofs
      repeat' first | refine aw_N [7] @wi trivial ?_ | refine aw_cond rfl (fun h => ?_) (fun h => ?_)
      refine ⟨q - 1, by omega, _, le_mkSt (bs := []) (ss := [(m + 1, V.take i ++ [vi x])]) (n := m + 2) (by simp) (by simp) (Nat.le_refl _), m + 1, m + 2, i + 1, by omega, by omega, ?_, ?_⟩
      · rw [hvn, List.take_of_length_le (by omega)]
      · simp
    · have hlti : ¬ (i : Int) < ks.length := by omega
      obtain rfl : i = ks.length := by omega
      rw [List.take_of_length_le (by omega)] at *
      refine aw_freeze (b := k') (xs := vis W) (by simp) ?_
      simp -implicitDefEqProofs [frz, frz1, frz0]
      repeat' first | refine aw_N [7] (And.intro @hlti @hl) trivial ?_ | refine aw_cond rfl (fun h => ?_) (fun h => ?_)
      simp [tupOf, vis_len, hWl, List.take_of_length_le]
set_option maxHeartbeats 16000000 in
set_option maxRecDepth 100000 in
theorem mcells_ok (L : List (Int × Int × Int)) (k n a b c d : Int) (w : ByteArray) (ks : List Tree) (hk : k = 1 ∨ k = 6) :
    APure Try.prog 39 [shv L, (Tree.mk k n a b c d w ks).av] (vi (joinW ((gridL a b c d).map fun p => gotK L p.1 p.2))) := by
  rcases hk with rfl | rfl
  all_goals
    rw [Tree.av]
    have hc := cells_ok a b c d
    have hL := gridL_len1 a b c d
    generalize gridL a b c d = G at *
    have hLm : (G.map pl).length = G.length := List.length_map _
    obtain ⟨W, hW⟩ : ∃ W, W = G.map fun p => gotK L p.1 p.2 := ⟨_, rfl⟩
    have hWl : W.length = G.length := by rw [hW, List.length_map]
    rw [← hW]
    refine apure_in Try.func39 Try.ntmps39 rfl ?_
    repeat' first | refine aw_N [7] @hLm (And.intro @hc trivial) ?_ | refine aw_cond rfl (fun h => ?_) (fun h => ?_)
    refine aw_loopW [0, 5, 16, 17, 18] (fun q fr σ => ∃ i N : Nat, i + q = G.length ∧ σ = mkSt [] [] N ∧ fr = frm 65 [(0, shv L), (5, vi (joinW (W.take i))), (16, .vsl (G.map pl)), (17, vi G.length), (18, vi (i : Nat))]) G.length ?_ ?_
    · exact ⟨_, le_mkSt (bs := []) (ss := []) (n := 0) (by simp) (by simp) (by simp [σ0]), 0, 0, by omega, rfl, by simp [joinW, hLm]⟩
    · rintro q fr σ ⟨i, N, hi, rfl, rfl⟩
      simp -implicitDefEqProofs
      by_cases hlt : i < G.length
      · have hlti : (i : Int) < G.length := by omega
        obtain ⟨⟨x, y⟩, hp⟩ : ∃ p, G[i]? = some p := ⟨_, List.getElem?_eq_getElem hlt⟩
        have hg : (G.map pl)[i]? = some (.agg [vi x, vi y]) := by rw [List.getElem?_map, hp]; rfl
        have wi : IntKind.i64.wrap ((i : Int) + 1) = (i : Int) + 1 := wrap_id (by omega) (by omega)
        have hWi : W[i]? = some (gotK L x y) := by rw [hW, List.getElem?_map, hp]; rfl
        have hjn : joinW (W.take (i + 1)) = joinW [joinW (W.take i), gotK L x y] := by
          rw [List.take_add_one, hWi, joinW2 (joinW_in _)]; exact joinW_snoc _ _
        have hlook := shG L x y
        generalize gotK L x y = ap at *
        generalize joinW (W.take i) = jw at *
        repeat' first | refine aw_N [7] (And.intro @hlti (And.intro @hLm (And.intro @hg (And.intro @hp @wi)))) trivial ?_ | refine aw_cond rfl (fun h => ?_) (fun h => ?_)
        refine awl_lookupV [7] rfl rfl shT rfl rfl (shK _ _) (shF _ _ _ _) hlook ?_
        simp -implicitDefEqProofs
        repeat' first | refine aw_N [7] (And.intro @hlti (And.intro @hLm (And.intro @hg (And.intro @hp @wi)))) (And.intro @join2_ok trivial) ?_ | refine aw_cond rfl (fun h => ?_) (fun h => ?_)
        exact ⟨q - 1, by omega, mkSt [] [] (N + 1), le_mkSt (by simp) (by simp) (by simp), i + 1, by omega, ⟨_, rfl⟩, hjn.symm, by omega⟩
      · have hlti : ¬ (i : Int) < G.length := by omega
        rw [List.take_of_length_le (by omega)]
        repeat' first | refine aw_N [7] (And.intro @hlti @hLm) trivial ?_ | refine aw_cond rfl (fun h => ?_) (fun h => ?_)
        all_goals first | (simp [tupOf]; done) | trace_state
end Go.AL
/-! Contracts: (mono.sheet).of, mono.Of. -/
namespace Go.AL
open Go.Proofs
set_option linter.unusedSimpArgs false
set_option linter.unusedVariables false
def msT (b : Nat) (es : List (AV × AV)) (n : Nat) : ASt := ⟨fun _ => none, fun c => if c = b then some es else none, fun _ => none, n⟩
@[simp] theorem msT_bx (b es n) (c : Nat) : (msT b es n).bx c = none := rfl
@[simp] theorem msT_mp (b es n) (c : Nat) : (msT b es n).mp c = if c = b then some es else none := rfl
@[simp] theorem msT_sl (b es n) (c : Nat) : (msT b es n).sl c = none := rfl
@[simp] theorem msT_next (b es n) : (msT b es n).next = n := rfl
theorem le_msT {σ : ASt} {b es n} (h : σ.mp b = some es) (hn : σ.next ≤ n) : (msT b es n).Le σ where
  bx := fun c _ e => by cases e
  mp := fun c es' e => by
    simp only [msT_mp] at e
    split at e
    · rename_i hb; subst hb; rw [h]; exact e
    · cases e
  sl := fun c _ e => by cases e
  next := hn
@[simp] theorem cl_vmpK (l : List (Int × Int × Int)) : Cl (.vmp (kys l) (kvs l)) = True := cl_shv l
@[simp] theorem cl_kys (l : List (Int × Int × Int)) : (∀ c ∈ kys l, Cl c) = True := eq_true fun c hc => by
  obtain ⟨p, _, rfl⟩ := List.mem_map.1 hc
  exact .agg _ (by simp)
@[simp] theorem cl_kvs (l : List (Int × Int × Int)) : (∀ c ∈ kvs l, Cl c) = True := eq_true fun c hc => by
  obtain ⟨p, _, rfl⟩ := List.mem_map.1 hc
  exact .p _
theorem joinW1' (v : Int) : joinW [v] = cleanW v := by unfold joinW cleanW; simp only [List.foldl]; unfold twoW; repeat' split <;> omega
def addK (M : List (Int × Int × Int)) (p : Int × Int × Int) : List (Int × Int × Int) := if (ixK M p.1 p.2.1 0).isSome = true then M else M ++ [(p.1, p.2.1, cleanW p.2.2)]
def kes (M : List (Int × Int × Int)) : List (AV × AV) := M.map fun p => (.agg [vi p.1, vi p.2.1], vi p.2.2)
theorem kes_fst (M) : (kes M).map Prod.fst = kys M := by simp [kes, kys]
theorem kes_snd (M) : (kes M).map Prod.snd = kvs M := by simp [kes, kvs]
set_option maxHeartbeats 16000000 in
set_option maxRecDepth 100000 in
theorem mOf_ok (t : Tree) (rb : Bool) (l : List (Int × Int × Int)) (W : Int) (hlen : l.length ≤ 1000000000) (hR : APure Try.prog 38 [t.av] (vb rb))
    (hw : rb = true → APure Try.prog 39 [shv (l.foldl addK []), t.av] (vi W)) :
    APure Try.prog 10 [t.av, .vsl (kns l)] (vi (if rb = true then W else 3)) := by
  have hl := kns_len l
  obtain ⟨k, n, a, b, c, d, w, ks⟩ := t
  rw [Tree.av] at hR hw ⊢
  cases rb with
  | false =>
    refine apure_in Try.func10 Try.ntmps10 rfl ?_
    repeat' first | refine aw_W [7] trivial (And.intro @hR trivial) ?_ | refine aw_cond rfl (fun h => ?_) (fun h => ?_)
    all_goals first | (simp [tupOf]; done) | trace_state
  | true =>
    have hw := hw rfl
    refine apure_in Try.func10 Try.ntmps10 rfl ?_
    repeat' first | refine aw_W [7] trivial (And.intro @hR trivial) ?_ | refine aw_cond rfl (fun h => ?_) (fun h => ?_)
    refine awl_makeMap [] rfl rfl ?_
    simp -implicitDefEqProofs
    repeat' first | refine aw_W [7] @hl trivial ?_ | refine aw_cond rfl (fun h => ?_) (fun h => ?_)
    refine aw_loopW [2, 5, 14, 15, 16] (fun q fr σ => ∃ B i N : Nat, i + q = l.length ∧ B < N ∧ σ = msT B (kes ((l.take i).foldl addK [])) N ∧ fr = frm 40 [(2, .vel [.agg [vi k, vi n, vi a, vi b, vi c, vi d, vs w, .vsl (avs ks)]] 0 0), (5, .map B), (14, .vsl (kns l)), (15, vi l.length), (16, vi (i : Nat))]) l.length ?_ ?_
    · exact ⟨_, le_msT (b := 0) (es := []) (n := 1) (by simp) (by simp), 0, 0, 1, by omega, by omega, rfl, by simp⟩
    · rintro q fr σ ⟨B, i, N, hi, hBN, rfl, rfl⟩
      simp -implicitDefEqProofs
      have hmk : ∀ M (x y : Int), vfind Try.prog 24 (.agg [vi x, vi y]) ((kes M).map Prod.fst) 0 = some (ixK M x y 0) := fun M x y => by rw [kes_fst]; exact shF x y M 0
      have hmg : ∀ M (x y : Int), vgot Try.prog 37 ((kes M).map Prod.snd) (ixK M x y 0) (vi (gotK M x y)) := fun M x y => by rw [kes_snd]; exact shG M x y
      have hnv : ∀ M, ∀ p ∈ kes M, p.1 ≠ noV := fun M p hp => by obtain ⟨q, _, rfl⟩ := List.mem_map.1 hp; simp [noV]
      by_cases hlt : i < l.length
      · have hlti : (i : Int) < l.length := by omega
        obtain ⟨⟨x, y, v⟩, hp⟩ : ∃ p, l[i]? = some p := ⟨_, List.getElem?_eq_getElem hlt⟩
        have hg := kns_get hp
        have hla : i < (kns l).length := by omega
        have wi : IntKind.i64.wrap ((i : Int) + 1) = (i : Int) + 1 := wrap_id (by omega) (by omega)
        generalize hM : (l.take i).foldl addK [] = M at *
        repeat' first | refine aw_W [7] (And.intro @hlti (And.intro @hl (And.intro @hla (And.intro @hg @wi)))) trivial ?_ | refine aw_cond rfl (fun h => ?_) (fun h => ?_)
        refine awl_lookupS [7] rfl rfl shT rfl (es := kes M) (by simp) (hnv M) rfl (shK _ _) (hmk M _ _) (hmg M _ _) ?_
        simp -implicitDefEqProofs
        repeat' first | refine aw_W [7] (And.intro @hlti (And.intro @hl (And.intro @hla (And.intro @hg @wi)))) (And.intro @join1_ok trivial) ?_ | refine aw_cond rfl (fun h => ?_) (fun h => ?_)
        · have hix : ixK M x y 0 = none := by simpa using h
          refine awl_mapNewS [7] (.inr rfl) rfl shT rfl (es := kes M) (by simp) (hnv M) rfl (shK _ _) (by rw [← hix]; exact hmk M _ _) ?_
          simp -implicitDefEqProofs
          repeat' first | refine aw_W [7] @wi trivial ?_ | refine aw_cond rfl (fun h => ?_) (fun h => ?_)
          refine ⟨q - 1, by omega, _, le_msT (b := B) (es := kes (M ++ [(x, y, cleanW v)])) (n := N + 1) (by simp [kes, joinW1', upd]) (by simp), B, i + 1, by omega, N + 1, by omega, ?_, rfl, by omega⟩
          rw [List.take_add_one, hp, List.foldl_append, hM]
          simp [addK, hix]
        · refine ⟨q - 1, by omega, _, le_msT (b := B) (es := kes M) (n := N + 1) (by simp) (by simp), B, i + 1, by omega, N + 1, by omega, ?_, rfl, by omega⟩
          have hix : (ixK M x y 0).isSome = true := by cases hq : ixK M x y 0 <;> simp_all
          rw [List.take_add_one, hp, List.foldl_append, hM]
          simp [addK, hix]
      · have hlti : ¬ (i : Int) < l.length := by omega
        rw [List.take_of_length_le (by omega)]
        generalize l.foldl addK [] = M at *
        refine aw_freezeM (b := B) (es := kes M) (by simp) (hnv M) ?_
        simp -implicitDefEqProofs [frzM, kes_fst, kes_snd]
        repeat' first | refine aw_W [7] (And.intro @hlti @hl) (And.intro @hw trivial) ?_ | refine aw_cond rfl (fun h => ?_) (fun h => ?_)
        all_goals first | (simp [tupOf]; done) | trace_state
def MWaySz (L : List (Int × Int × Int)) (t : Tree) : Prop := tszT t ≤ 1000000000 → MWayP L t
set_option maxHeartbeats 16000000 in
set_option maxRecDepth 100000 in
theorem mway_ok (L : List (Int × Int × Int)) (hF : ∀ x y, InW (gotK L x y)) : ∀ t, MWaySz L t := by
  refine Tree.byKids fun k n a b c d w ks ih => ?_
  intro hsz hin hm
  rw [Tree.In, ins_all] at hin
  obtain ⟨_, hn, _, _, _, _, hw, hlk, hks⟩ := hin
  have hsum : tszs ks < tszT (.mk k n a b c d w ks) := by rw [tszT]; omega
  have hkl := len_le_tszs ks
  have hksz : ∀ u ∈ ks, tszT u ≤ 1000000000 := fun u hu => by have := tszs_mem hu; omega
  have hl := avs_len ks
  rw [wayT]
  by_cases h1 : k = 1
  · subst h1
    obtain ⟨hr, rfl, rfl⟩ := may_read hm
    have hc := mcells_ok L 1 n a b a b w ks (.inl rfl)
    rw [gridL_one hr] at hc
    rw [if_pos rfl]
    simp only [List.map_cons, List.map_nil, joinW1 (hF a b)] at hc
    exact hc
  rw [if_neg h1]
  by_cases h6 : k = 6
  · subst h6
    rw [if_pos rfl]
    exact mcells_ok L 6 n a b c d w ks (.inr rfl)
  rw [if_neg h6]
  by_cases h3 : k = 3
  · subst h3
    rw [if_pos rfl]
    obtain ⟨u, rfl, hu⟩ := may_neg hm
    have hr : APure Try.prog 39 [shv L, u.av] (vi (wayT (gotK L) u)) := ih u (by simp) (hksz u (by simp)) (hks u (by simp)) hu
    simp only [wayTs, List.headD]
    generalize wayT (gotK L) u = wu at *
    clear ih hsz hsum hkl hksz
    obtain ⟨tk, tn, ta, tb, tc, td, tw, tks⟩ := u
    rw [Tree.av] at hr
    simp only [Tree.av, avs]
    refine apure_in Try.func39 Try.ntmps39 rfl ?_
    repeat' first | refine aw_N [7] trivial (And.intro @hr (And.intro @flip_ok trivial)) ?_ | refine aw_cond rfl (fun h => ?_) (fun h => ?_)
    all_goals first | (simp [tupOf]; done) | trace_state
  rw [if_neg h3]
  by_cases h4 : k = 4
  · subst h4
    rw [if_pos rfl]
    obtain ⟨u, v, rfl, hu, hv⟩ := may_op hm
    have ru : APure Try.prog 39 [shv L, u.av] (vi (wayT (gotK L) u)) := ih u (by simp) (hksz u (by simp)) (hks u (by simp)) hu
    have rv : APure Try.prog 39 [shv L, v.av] (vi (wayT (gotK L) v)) := ih v (by simp) (hksz v (by simp)) (hks v (by simp)) hv
    have cu := con_ok u (hks u (by simp)) hu
    have cv := con_ok v (hks v (by simp)) hv
    have ho := mop_ok L 4 n a b c d w u v _ _ _ _ _ _ (wayT_in hF u) (wayT_in hF v) ru rv cu cv
    simp only [wayTs, List.headD, List.tail]
    generalize wayT (gotK L) u = wu at *
    generalize wayT (gotK L) v = wv at *
    generalize opW w wu wv (numB u) (numZ u) (numB v) (numZ v) = r at *
    clear ru rv cu cv ih hsz hsum hkl hksz
    obtain ⟨tk, tn, ta, tb, tc, td, tw, tks⟩ := u
    obtain ⟨vk, vn, va, vb', vc, vd, vw, vks⟩ := v
    simp only [Tree.av, avs] at ho ⊢
    refine apure_in Try.func39 Try.ntmps39 rfl ?_
    repeat' first | refine aw_N [7] trivial (And.intro @ho trivial) ?_ | refine aw_cond rfl (fun h => ?_) (fun h => ?_)
    all_goals first | (simp [tupOf]; done) | trace_state
  rw [if_neg h4]
  by_cases h5 : k = 5
  · subst h5
    rw [if_pos rfl, Tree.av]
    obtain ⟨hpos, hmk⟩ := may_call hm
    rw [wayTs_map]
    have hkids := mkids_ok L 5 n a b c d w ks (ks.map (wayT (gotK L))) (by omega) (by simp) (fun i t ht => ⟨wayT (gotK L) t, by rw [List.getElem?_map, ht]; rfl, by
      have hmem := List.mem_of_getElem? ht
      exact ih t hmem (hksz t hmem) (hks t hmem) (hmk t hmem)⟩)
    obtain ⟨W, hW⟩ : ∃ W, W = ks.map (wayT (gotK L)) := ⟨_, rfl⟩
    have hWl : W.length = ks.length := by rw [hW, List.length_map]
    rw [← hW] at hkids ⊢
    have hj := join_ok W (by omega)
    obtain ⟨x0, xs, rfl⟩ : ∃ x xs, W = x :: xs := by cases W with | nil => simp at hWl; omega | cons x xs => exact ⟨x, xs, rfl⟩
    simp only [List.headD]
    have hvc : vis (x0 :: xs) = vi x0 :: vis xs := rfl
    rw [hvc] at hkids hj
    generalize joinW (x0 :: xs) = jw at *
    clear ih hsz hsum hkl hksz hW
    unfold bCOUNT bIF
    refine apure_in Try.func39 Try.ntmps39 rfl ?_
    repeat' first | refine aw_N [7] trivial (And.intro @hkids (And.intro @hj trivial)) ?_ | refine aw_cond rfl (fun h => ?_) (fun h => ?_)
    all_goals first | (simp_all [tupOf]; done) | trace_state
  rw [if_neg h5, Tree.av]
  refine apure_in Try.func39 Try.ntmps39 rfl ?_
  repeat' first | refine aw_N [7] (And.intro @h1 (And.intro @h3 (And.intro @h4 (And.intro @h5 @h6)))) trivial ?_ | refine aw_cond rfl (fun h => ?_) (fun h => ?_)
  all_goals first | (simp [tupOf]; done) | trace_state
end Go.AL
