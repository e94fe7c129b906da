/- Parts of the proof of MonoHolds: the logic, contracts, plain laws. -/
import Derived.Test.YtjldlcakinmajaaZMonoHolds20
import Derived.Test.YtjldlcakinmajaaZMonoHolds14
import Derived.Test.YtjldlcakinmajaaZMonoHolds12
import Derived.Test.YtjldlcakinmajaaZMonoHolds19
import Derived.Laws.FloatArith
import Derived.Laws.ComplexArith
/-! Contracts: place.Cells. -/
namespace Go.AL
open Go.Proofs
set_option linter.unusedSimpArgs false
set_option linter.unusedVariables false
/-- A row's first n places. -/
def rowN (a y : Int) (n : Nat) : List (Int × Int) := (List.range n).map fun i : Nat => (a + (i : Int), y)
/-- The first n rows. -/
def gridN (a b : Int) (k n : Nat) : List (Int × Int) := (List.range n).flatMap fun j : Nat => rowN a (b + (j : Int)) k
def gridL (a b c d : Int) : List (Int × Int) := if wholeP a b c d = true then gridN a b (c - a + 1).toNat (d - b + 1).toNat else []
theorem rowN_succ (a y : Int) (n : Nat) : rowN a y (n + 1) = rowN a y n ++ [(a + (n : Int), y)] := by
  unfold rowN; rw [List.range_succ, List.map_append]; rfl
theorem rowN_len (a y : Int) (n : Nat) : (rowN a y n).length = n := by simp [rowN]
theorem gridN_succ (a b : Int) (k n : Nat) : gridN a b k (n + 1) = gridN a b k n ++ rowN a (b + (n : Int)) k := by
  unfold gridN; rw [List.range_succ, List.flatMap_append]; simp
theorem gridN_len (a b : Int) (k : Nat) : ∀ n : Nat, (gridN a b k n).length = n * k
  | 0 => by simp [gridN]
  | n + 1 => by rw [gridN_succ, List.length_append, gridN_len a b k n, rowN_len, Nat.succ_mul]
theorem whole_iff {a b c d : Int} : wholeP a b c d = true ↔ (0 ≤ a ∧ a ≤ c ∧ c < 16) ∧ (0 ≤ b ∧ b ≤ d ∧ d < 64) := by
  simp only [wholeP, rightP, withinP, Bool.and_eq_true, decide_eq_true_eq]; omega
set_option maxRecDepth 100000 in
theorem cells_ok (a b c d : Int) : APure Try.prog 56 [range a b c d] (.vsl ((gridL a b c d).map pl)) := by
  refine apure_in Try.func56 Try.ntmps56 rfl ?_
  refine aw_seq (aw_run [4] ?_)
  simp -implicitDefEqProofs
  refine aw_seq (aw_seq (aw_run [4] ?_))
  simp -implicitDefEqProofs
  refine awl_pure' [] rfl rfl rfl (by kernel_rfl) rfl (whole_ok a b c d) (by simp) (by simp) ?_
  simp -implicitDefEqProofs
  refine aw_cond rfl (fun h => ?_) (fun h => aw_skip ?_)
  · refine aw_seq (aw_run [4] ?_)
    simp -implicitDefEqProofs
    refine aw_ret (ret_of (.inr rfl) (by simp [Try.results56]; rfl) (Fin.vnil (Fin.of ?_)))
    have : wholeP a b c d = false := by simpa using h
    simp [gridL, this]
  · have hw : wholeP a b c d = true := by simpa using h
    have hb := whole_iff.1 hw
    have hG : gridL a b c d = gridN a b (c - a + 1).toNat (d - b + 1).toNat := if_pos hw
    rw [hG]
    obtain ⟨W, hW⟩ : ∃ W, W = (c - a + 1).toNat := ⟨_, rfl⟩
    obtain ⟨H, hH⟩ : ∃ H, H = (d - b + 1).toNat := ⟨_, rfl⟩
    rw [← hW, ← hH]
    refine aw_seq (aw_run [4] ?_)
    simp -implicitDefEqProofs
    refine aw_seq (aw_seq (aw_run [4] ?_))
    simp -implicitDefEqProofs
    refine aw_block (aw_open (i := 3) rfl ?_)
    refine aw_loopW [1, 3, 4] (fun n fr σ => ∃ k3 k4 m j : Nat, ∃ x : Int, j + n = H ∧ k3 < m ∧ k4 < m ∧ σ = mkSt [(k4, [vi x, vi (b + (j : Int))])] [(k3, (gridN a b W j).map pl)] m ∧ fr = frm 40 [(1, .vel [range a b c d] 0 0), (3, .hsl k3 0 (gridN a b W j).length), (4, .ptr k4 0)]) H ?_ ?_
    · refine ⟨mkSt [(0, [vi a, vi b])] [(1, [])] 2, le_mkSt (by simp [σ0]) (by simp [σ0]) (by simp [σ0]), 1, 0, 2, 0, a, by omega, by omega, by omega, by simp [gridN], ?_⟩
      simp [gridN, σ0]
    · rintro n0 fr σ ⟨k3, k4, m, j, x, hj, h3, h4, rfl, rfl⟩
      simp
      refine aw_seq (aw_seq (aw_run [4] ?_))
      simp -implicitDefEqProofs [List.lookup]
      refine aw_cond rfl (fun h => aw_skip ?_) (fun h => aw_exit ?_)
      · have hlt : j < H := by simp at h; omega
        have hny : IntKind.i64.wrap (b + (j : Int) + 1) = b + ((j + 1 : Nat) : Int) := by rw [wrap_id (by omega) (by omega)]; omega
        have hgl := gridN_len a b W j
        have hjW : j * W ≤ 64 * 16 := Nat.mul_le_mul (by omega) (by omega)
        have hm4 : ¬ k4 = m := by omega
        simp -implicitDefEqProofs [List.lookup]
        refine aw_seq (aw_block (aw_seq (aw_run [4] ?_)))
        simp -implicitDefEqProofs [List.lookup]
        refine aw_block (aw_loopW [1, 3, 4] (fun n fr σ => ∃ k3 m i : Nat, i + n = W ∧ k3 < m ∧ k4 < m ∧ σ = mkSt [(k4, [vi (a + (i : Int)), vi (b + (j : Int))])] [(k3, (gridN a b W j ++ rowN a (b + (j : Int)) i).map pl)] m ∧ fr = frm 40 [(1, .vel [range a b c d] 0 0), (3, .hsl k3 0 (j * W + i)), (4, .ptr k4 0)]) W ?_ ?_)
        · refine ⟨mkSt [(k4, [vi a, vi (b + (j : Int))])] [(k3, (gridN a b W j).map pl)] m, le_mkSt (by simp [List.lookup]) (by simp [List.lookup]) (by simp), k3, m, 0, by omega, by omega, by omega, by simp [rowN], ?_⟩
          simp [hgl]
        · rintro n fr σ ⟨k3, m, i, hi, h3, h4, rfl, rfl⟩
          have hm4 : ¬ k4 = m := by omega
          simp
          refine aw_seq (aw_seq (aw_run [4] ?_))
          simp -implicitDefEqProofs [List.lookup]
          refine aw_cond rfl (fun h => aw_skip ?_) (fun h => aw_exit ?_)
          · have hlt2 : i < W := by simp at h; omega
            have hnx : IntKind.i64.wrap (a + (i : Int) + 1) = a + ((i + 1 : Nat) : Int) := by rw [wrap_id (by omega) (by omega)]; omega
            simp -implicitDefEqProofs [List.lookup]
            repeat' (first
              | refine aw_seq ?_
              | (refine aw_run [4] ?_; try simp -implicitDefEqProofs (maxSteps := 1000000) [List.lookup])
              | ((first | refine awl_skip' [4] rfl ?_ | refine aw_skip ?_ | refine aw_exit ?_); try simp -implicitDefEqProofs (maxSteps := 1000000) [List.lookup])
              | (refine aw_cond rfl (fun h => ?_) (fun h => ?_) <;> try (with_reducible first | exact ff_tt h | exact tt_ff h))
              | refine aw_block ?_
              | refine aw_ret (ret_of (.inr rfl) (by simp [Try.results56]; rfl) (Fin.of ?_))
              | refine ret_of (.inl rfl) (by simp [Try.results56]; rfl) (Fin.of ?_))
            have hlen : (gridN a b W j ++ rowN a (b + (j : Int)) i).length = j * W + i := by rw [List.length_append, hgl, rowN_len]
            refine awl_append [4] rfl rfl rfl (xs := (gridN a b W j ++ rowN a (b + (j : Int)) i).map pl) (by simp [List.lookup]) (by rw [List.length_map, hlen]; omega) rfl (by simp) te44 tet44 tz24 rfl ?_ (by simp) (by simp; omega) (by simp; omega) ?_
            · intro y hy
              simp at hy
              rcases hy with ⟨_, _, _, rfl⟩ | ⟨_, _, _, rfl⟩ <;> rfl
            simp -implicitDefEqProofs [List.lookup, hm4]
            repeat' (first
              | refine aw_seq ?_
              | (refine aw_run [4] ?_; try simp -implicitDefEqProofs (maxSteps := 1000000) [List.lookup, hm4])
              | ((first | refine awl_skip' [4] rfl ?_ | refine aw_skip ?_ | refine aw_exit ?_); try simp -implicitDefEqProofs (maxSteps := 1000000) [List.lookup, hm4])
              | (refine aw_cond rfl (fun h => ?_) (fun h => ?_) <;> try (with_reducible first | exact ff_tt h | exact tt_ff h))
              | refine aw_block ?_
              | refine aw_ret (ret_of (.inr rfl) (by simp [Try.results56]; rfl) (Fin.of ?_))
              | refine ret_of (.inl rfl) (by simp [Try.results56]; rfl) (Fin.of ?_))
            refine ⟨n - 1, by omega, mkSt [(k4, [vi (a + ((i + 1 : Nat) : Int)), vi (b + (j : Int))])] [(m, (gridN a b W j ++ rowN a (b + (j : Int)) (i + 1)).map pl)] (m + 1), le_mkSt (by simp [List.lookup, hnx]) (by simp [List.lookup, rowN_succ, List.take_of_length_le, hgl, rowN_len, pl]) (by simp), m, m + 1, i + 1, by omega, by omega, by omega, by simp, rfl, by omega⟩
          · have : i = W := by simp at h; omega
            subst this
            simp -implicitDefEqProofs [List.lookup]
            refine aw_seq (aw_seq (aw_run [4] ?_))
            simp -implicitDefEqProofs [List.lookup]
            refine aw_run [4] ?_
            simp -implicitDefEqProofs [List.lookup]
            refine aw_run [4] ?_
            simp -implicitDefEqProofs [List.lookup]
            refine ⟨n0 - 1, by omega, mkSt [(m, [vi (a + (i : Int)), vi (b + ((j + 1 : Nat) : Int))])] [(k3, (gridN a b i (j + 1)).map pl)] (m + 1), le_mkSt (by simp [List.lookup, hny]) (by simp [List.lookup, gridN_succ]) (by simp), k3, m, m + 1, j + 1, by omega, by omega, by omega, ⟨_, rfl⟩, ?_⟩
            simp [gridN_len, Nat.succ_mul]
      · have : j = H := by simp at h; omega
        subst this
        simp -implicitDefEqProofs [List.lookup]
        refine aw_freeze (b := k3) (xs := (gridN a b W j).map pl) (by simp [List.lookup]) ?_
        simp [frz, frz1, frz0]
        repeat' first | refine aw_N [4] trivial trivial ?_ | refine aw_cond rfl (fun h => ?_) (fun h => ?_)
        simp [tupOf, List.take_of_length_le]
end Go.AL
/-! The cells of both are the same. -/
namespace Go.AL
open Go.Proofs
set_option linter.unusedSimpArgs false
set_option linter.unusedVariables false
theorem atC_nat1 {i : Nat} (h : i < 1024) : atC (i : Int) = ((i % 16 : Nat) : Int) := by unfold atC; rw [if_pos (by omega)]; omega
theorem atR_nat1 {i : Nat} (h : i < 1024) : atR (i : Int) = ((i / 16 : Nat) : Int) := by unfold atR; rw [if_pos (by omega)]; omega
theorem range1024 : List.range 1024 = (List.range 64).flatMap fun m => (List.range 16).map fun x => 16 * m + x := by decide +kernel
theorem cut16 : ∀ a : Nat, a < 16 → ∀ c : Nat, c < 16 → a ≤ c → (List.range 16).filter (fun x => decide (a ≤ x) && decide (x ≤ c)) = (List.range (c - a + 1)).map fun i => a + i := by decide +kernel
theorem cut64 : ∀ b : Nat, b < 64 → ∀ d : Nat, d < 64 → b ≤ d → (List.range 64).filter (fun y => decide (b ≤ y) && decide (y ≤ d)) = (List.range (d - b + 1)).map fun j => b + j := by decide +kernel
theorem flatMap_cong {α β : Type} {l : List α} {f g : α → List β} (h : ∀ x ∈ l, f x = g x) : l.flatMap f = l.flatMap g := by
  induction l with
  | nil => rfl
  | cons x l ih => rw [List.flatMap_cons, List.flatMap_cons, h x (by simp), ih fun y hy => h y (by simp [hy])]
theorem flatMap_cut {α β : Type} (p : α → Bool) (f : α → List β) (l : List α) : (l.flatMap fun x => if p x = true then f x else []) = (l.filter p).flatMap f := by
  induction l with
  | nil => rfl
  | cons x l ih => rw [List.flatMap_cons, List.filter_cons, ih]; by_cases h : p x = true <;> simp [h]
theorem cellsL_eq (a b c d : Int) : cellsL a b c d = gridL a b c d := by
  have hg : ∀ i : Nat, i ∈ List.range 64 → ∀ x : Nat, x ∈ List.range 16 → atC ((16 * i + x : Nat) : Int) = (x : Int) ∧ atR ((16 * i + x : Nat) : Int) = (i : Int) := by
    intro i hi x hx
    have h1 := List.mem_range.1 hi
    have h2 := List.mem_range.1 hx
    rw [atC_nat1 (by omega), atR_nat1 (by omega)]
    omega
  have e : cellsL a b c d = (List.range 64).flatMap fun m : Nat => ((List.range 16).filter fun x : Nat => hasP a b c d (x : Int) (m : Int)).map fun x : Nat => ((x : Int), (m : Int)) := by
    unfold cellsL cellsN
    rw [range1024, List.filter_flatMap, List.map_flatMap]
    refine flatMap_cong fun m hm => ?_
    rw [List.filter_map, List.map_map]
    rw [List.filter_congr (q := fun x : Nat => hasP a b c d (x : Int) (m : Int)) fun x hx => by simp only [Function.comp]; rw [(hg m hm x hx).1, (hg m hm x hx).2]]
    refine List.map_congr_left fun x hx => ?_
    have hx := (List.mem_filter.1 hx).1
    simp only [Function.comp]
    rw [(hg m hm x hx).1, (hg m hm x hx).2]
  rw [e]
  unfold gridL
  split
  · rename_i hw
    obtain ⟨⟨a0, ac, c1⟩, b0, bd, d1⟩ := whole_iff.1 hw
    obtain ⟨a, rfl⟩ := Int.eq_ofNat_of_zero_le a0
    obtain ⟨b, rfl⟩ := Int.eq_ofNat_of_zero_le b0
    obtain ⟨c, rfl⟩ := Int.eq_ofNat_of_zero_le (show 0 ≤ c by omega)
    obtain ⟨d, rfl⟩ := Int.eq_ofNat_of_zero_le (show 0 ≤ d by omega)
    have hr : ∀ m ∈ List.range 64, (((List.range 16).filter fun x : Nat => hasP a b c d (x : Int) (m : Int)).map fun x : Nat => ((x : Int), (m : Int))) = if (decide (b ≤ m) && decide (m ≤ d)) = true then rowN a (m : Int) (c - a + 1) else [] := by
      intro m _
      split
      · rename_i hm
        simp only [Bool.and_eq_true, decide_eq_true_eq] at hm
        rw [List.filter_congr (q := fun x : Nat => decide (a ≤ x) && decide (x ≤ c)) fun x hx => by
          simp only [hasP, withinP, hw, Bool.true_and, Int.ofNat_le, hm, decide_true, Bool.and_true, Int.ofNat_eq_natCast], cut16 a (by omega) c (by omega) (by omega), List.map_map]
        unfold rowN
        exact List.map_congr_left fun i _ => by simp
      · rename_i hm
        rw [List.filter_eq_nil_iff.2, List.map_nil]
        intro x hx
        simp only [Bool.and_eq_true, decide_eq_true_eq] at hm
        simp only [hasP, withinP, Bool.and_eq_true, decide_eq_true_eq]
        omega
    rw [flatMap_cong hr, flatMap_cut, cut64 b (by omega) d (by omega) (by omega), List.flatMap_map]
    unfold gridN
    rw [show ((c : Int) - a + 1).toNat = c - a + 1 by omega, show ((d : Int) - b + 1).toNat = d - b + 1 by omega]
    exact flatMap_cong fun j _ => by simp
  · rename_i hw
    have hw : wholeP a b c d = false := by simpa using hw
    rw [flatMap_cong (g := fun _ => []) fun m _ => by simp [hasP, hw]]
    simp
theorem gridL_len1 (a b c d : Int) : (gridL a b c d).length ≤ 1024 := by
  unfold gridL
  split
  · rename_i hw
    have := whole_iff.1 hw
    rw [gridN_len]
    exact Nat.le_trans (Nat.mul_le_mul (show (d - b + 1).toNat ≤ 64 by omega) (show (c - a + 1).toNat ≤ 16 by omega)) (by decide)
  · simp
theorem gridL_one {a b : Int} (h : rightP a b = true) : gridL a b a b = [(a, b)] := by
  have h1 : 0 ≤ a ∧ a < 16 ∧ 0 ≤ b ∧ b < 64 := by
    simp only [rightP, Bool.and_eq_true, decide_eq_true_eq] at h
    omega
  have hw : wholeP a b a b = true := whole_iff.2 (by omega)
  rw [gridL, if_pos hw, show (a - a + 1).toNat = 1 by omega, show (b - b + 1).toNat = 1 by omega]
  simp [gridN, rowN]
end Go.AL
/-! Contracts: gridironref07.At; what a tree comes to. -/
namespace Go.AL
open Go.Proofs
set_option linter.unusedSimpArgs false
set_option linter.unusedVariables false
abbrev Cel := Int × Int × Int × Int
def cel (p : Cel) : AV := .agg [vi p.1, vi p.2.1, vi p.2.2.1, vi p.2.2.2]
def cels (l : List Cel) : List AV := l.map cel
@[simp] theorem cl_cels (l : List Cel) : (∀ c ∈ cels l, Cl c) = True := eq_true fun c hc => by
  obtain ⟨p, _, rfl⟩ := List.mem_map.1 hc
  exact .agg _ (by simp)
theorem cels_len (l : List Cel) : (cels l).length = l.length := List.length_map _
theorem cels_get {l : List Cel} {i : Nat} {a b n f : Int} (h : l[i]? = some (a, b, n, f)) : (cels l)[i]? = some (.agg [vi a, vi b, vi n, vi f]) := by rw [cels, List.getElem?_map, h]; rfl
/-- A value, as it goes on. -/
def cleanV (n f : Int) : Int × Int := if f = 0 then (n, 0) else (0, f)
/-- The value at a place: the first one. -/
def atE : List Cel → Int → Int → Option (Int × Int)
  | [], _, _ => none
  | (a, b, n, f) :: l, x, y => if a = x ∧ b = y then some (cleanV n f) else atE l x y
theorem atE_in (x y : Int) : ∀ (l : List Cel), (∀ p ∈ l, In64 p.2.2.1) → ∀ v, atE l x y = some v → In64 v.1
  | [], _, v, h => by cases h
  | (a, b, n, f) :: l, hl, v, h => by
    rw [atE] at h
    split at h
    · obtain rfl := Option.some.inj h
      unfold cleanV
      split
      · exact hl _ List.mem_cons_self
      · unfold In64; simp
    · exact atE_in x y l (fun p hp => hl p (List.mem_cons_of_mem _ hp)) v h
def atR7 (o : Option (Int × Int)) : AV := .tup [value (o.getD (0, 0)).1 (o.getD (0, 0)).2, vb o.isSome]
set_option maxHeartbeats 4000000 in
set_option maxRecDepth 100000 in
theorem rat7_ok (l : List Cel) (hl : (l.length : Int) ≤ 9223372036854775807) (x y : Int) : APure Try.prog 37 [.vsl (cels l), place x y] (atR7 (atE l x y)) := by
  have hvl := cels_len l
  unfold atR7
  refine apure_in Try.func37 Try.ntmps37 rfl ?_
  repeat' first | refine aw_W [4] @hvl trivial ?_ | refine aw_cond rfl (fun h => ?_) (fun h => ?_)
  refine aw_loopW [0, 3, 4, 6] (fun q fr σ => ∃ i N b : Nat, i + q = l.length ∧ atE l x y = atE (l.drop i) x y ∧ b < N ∧ σ = mkSt [(b, [vi 0, vi 0])] [] N ∧ fr = frm 40 [(0, .vsl (cels l)), (3, .vel [place x y] 0 0), (4, .ptr b 0), (6, vi (i : Nat))]) l.length ?_ ?_
  · exact ⟨_, le_mkSt (bs := [(0, [vi 0, vi 0])]) (ss := []) (n := 1) (by simp) (by simp) (by simp), 0, 1, 0, by omega, rfl, by omega, rfl, by simp [hvl]⟩
  · rintro q fr σ ⟨i, N, b, hi, hat, hbN, rfl, rfl⟩
    simp -implicitDefEqProofs
    by_cases hlt : i < l.length
    · have hlti : (i : Int) < l.length := by omega
      obtain ⟨⟨a, c, n, f⟩, hw⟩ : ∃ w, l[i]? = some w := ⟨_, List.getElem?_eq_getElem hlt⟩
      have hg := cels_get hw
      have hla : i < (cels l).length := by omega
      have wi : IntKind.i64.wrap ((i : Int) + 1) = (i : Int) + 1 := wrap_id (by omega) (by omega)
      have hcons : l.drop i = (a, c, n, f) :: l.drop (i + 1) := by
        rw [List.drop_eq_getElem_cons hlt]
        congr 1
        rw [List.getElem?_eq_getElem hlt] at hw
        exact Option.some.inj hw
      rw [hcons, atE] at hat
      repeat' first | refine aw_W [4] (And.intro @hlti (And.intro @hvl (And.intro @hla (And.intro @hg @wi)))) trivial ?_ | refine aw_cond rfl (fun h => ?_) (fun h => ?_)
      · rename_i h1
        have h1' : a = x ∧ c = y := by simpa using h1
        have h' : ¬ f = 0 := by simpa using h
        rw [if_pos h1'] at hat
        rw [hat]
        simp [tupOf, cleanV, h']
      · rename_i h1
        have h1' : a = x ∧ c = y := by simpa using h1
        have h' : f = 0 := by simpa using h
        rw [if_pos h1'] at hat
        rw [hat]
        simp [tupOf, cleanV, h']
      · rw [if_neg (by simpa using h)] at hat
        exact ⟨q - 1, by omega, _, le_mkSt (bs := [(b, [vi 0, vi 0])]) (ss := []) (n := N) (by simp) (by simp) (by simp), i + 1, by omega, hat, N, b, hbN, rfl, rfl, by omega⟩
    · have hlti : ¬ (i : Int) < l.length := by omega
      rw [List.drop_eq_nil_of_le (by omega), atE] at hat
      rw [hat]
      repeat' first | refine aw_W [4] (And.intro @hlti @hvl) trivial ?_ | refine aw_cond rfl (fun h => ?_) (fun h => ?_)
      all_goals first | (simp [tupOf]; done) | trace_state
/-! ### what a tree comes to -/
def cellsT (t : Tree) : List (Int × Int) := match t with | .mk _ _ a b c d _ _ => gridL a b c d
def callE (w : ByteArray) (bad : Bool) (vs its : List (Int × Int)) : Int × Int :=
  if w = ⟨#[73, 70]⟩ then (if (vs.headD (0, 0)).2 ≠ 0 then vs.headD (0, 0) else if (vs.headD (0, 0)).1 ≠ 0 then vs.tail.headD (0, 0) else vs.tail.tail.headD (0, 0))
  else if w = ⟨#[83, 85, 77]⟩ then sumL its
  else if w = ⟨#[77, 73, 78]⟩ then lowL its
  else if w = ⟨#[77, 65, 88]⟩ then highL its
  else if bad = true then (0, 3) else ((its.length : Int), 0)
mutual
def evT (f : Int → Int → Option (Int × Int)) : Tree → Int × Int
  | .mk k n a b c d w ks =>
    if k = 0 then (n, 0)
    else if k = 1 then (f a b).getD (0, 0)
    else if k = 3 then (negN ((evTs f ks).headD (0, 0)).1 ((evTs f ks).headD (0, 0)).2, negFv ((evTs f ks).headD (0, 0)).1 ((evTs f ks).headD (0, 0)).2)
    else if k = 4 then (doN (doK w) ((evTs f ks).headD (0, 0)).1 ((evTs f ks).headD (0, 0)).2 ((evTs f ks).tail.headD (0, 0)).1 ((evTs f ks).tail.headD (0, 0)).2, doF (doK w) ((evTs f ks).headD (0, 0)).1 ((evTs f ks).headD (0, 0)).2 ((evTs f ks).tail.headD (0, 0)).1 ((evTs f ks).tail.headD (0, 0)).2)
    else if k = 5 then callE w (ks.any fun u => decide (u.kind = 2)) (evTs f ks) (itS f ks)
    else (0, 3)
def evTs (f : Int → Int → Option (Int × Int)) : List Tree → List (Int × Int)
  | [] => []
  | t :: ts => evT f t :: evTs f ts
def itS (f : Int → Int → Option (Int × Int)) : List Tree → List (Int × Int)
  | [] => []
  | t :: ts => (if t.kind = 6 then (cellsT t).filterMap (fun p => f p.1 p.2) else [evT f t]) ++ itS f ts
end
def itT (f : Int → Int → Option (Int × Int)) (t : Tree) : List (Int × Int) := if t.kind = 6 then (cellsT t).filterMap (fun p => f p.1 p.2) else [evT f t]
theorem itS_flat (f : Int → Int → Option (Int × Int)) : ∀ l, itS f l = l.flatMap (itT f)
  | [] => rfl
  | t :: ts => by rw [itS, itS_flat f ts]; rfl
theorem itT_len (f : Int → Int → Option (Int × Int)) (t : Tree) : (itT f t).length ≤ 1024 := by
  unfold itT
  split
  · refine Nat.le_trans (List.length_filterMap_le _ _) ?_
    obtain ⟨k, n, a, b, c, d, w, ks⟩ := t
    exact gridL_len1 a b c d
  · simp
theorem itS_len (f : Int → Int → Option (Int × Int)) : ∀ l, (itS f l).length ≤ 1024 * l.length
  | [] => by simp [itS]
  | t :: ts => by
    have h1 := itS_len f ts
    have h2 := itT_len f t
    have e : itS f (t :: ts) = itT f t ++ itS f ts := rfl
    rw [e, List.length_append, List.length_cons]
    omega
theorem in_zero : In64 0 := by unfold In64; simp
theorem z_in {b : Bool} {c : Int} (h : b = true → In64 c) : In64 (z b c) := by
  unfold z
  split
  · rename_i hb; exact h hb
  · exact in_zero
theorem zi_in (c : Int) : In64 (z (inI c) c) := z_in fun h => inI_iff.1 h
theorem one_in (b : Bool) : In64 (z b 1) := z_in fun _ => by unfold In64; simp
theorem do_in (k : Nat) (a fa b fb : Int) : In64 (doN k a fa b fb) := by
  unfold doN numK
  split
  · exact in_zero
  · repeat' split
    all_goals first | exact in_zero | exact zi_in _ | exact one_in _
theorem neg_in (a fa : Int) : In64 (negN a fa) := by
  unfold negN z
  split
  · split
    · rename_i h; exact inI_iff.1 h
    · exact in_zero
  · exact in_zero
end Go.AL
/-! Contracts: gridironref07.items. -/
namespace Go.AL
open Go.Proofs
set_option linter.unusedSimpArgs false
set_option linter.unusedVariables false
theorem itS_append (f : Int → Int → Option (Int × Int)) (l m : List Tree) : itS f (l ++ m) = itS f l ++ itS f m := by simp [itS_flat]
theorem itS_take {f : Int → Int → Option (Int × Int)} {ks : List Tree} {i : Nat} {t : Tree} (h : ks[i]? = some t) : itS f (ks.take (i + 1)) = itS f (ks.take i) ++ itT f t := by
  rw [List.take_add_one, h, itS_append]; simp [itS_flat]
theorem fm_take {g : Int × Int → Option (Int × Int)} {C : List (Int × Int)} {j : Nat} {p : Int × Int} (h : C[j]? = some p) : (C.take (j + 1)).filterMap g = (C.take j).filterMap g ++ (g p).toList := by
  rw [List.take_add_one, h, List.filterMap_append]
  cases hg : g p <;> simp [hg]
theorem vls_okv (l : List (Int × Int)) : ∀ y ∈ l.map vl, y.cells.length = 2 := fun y hy => by
  obtain ⟨p, _, rfl⟩ := List.mem_map.1 hy
  rfl
theorem fm_len (g : Int × Int → Option (Int × Int)) (C : List (Int × Int)) (h : C.length ≤ 1024) (j : Nat) : ((C.take j).filterMap g).length ≤ 1024 :=
  Nat.le_trans (List.length_filterMap_le _ _) (by simp; omega)
@[simp] theorem cl_pl3 (l : List (Int × Int)) : (∀ c ∈ l.map pl, Cl c) = True := eq_true fun c hc => by
  obtain ⟨p, _, rfl⟩ := List.mem_map.1 hc
  exact .agg _ (by simp)
@[simp] theorem cl_pl4 (l : List (Int × Int)) : (∀ (c : AV) (x y : Int), (x, y) ∈ l → pl (x, y) = c → Cl c) = True := eq_true fun c x y _ h => by
  rw [← h]; exact .agg _ (by simp)
set_option maxHeartbeats 16000000 in
set_option maxRecDepth 100000 in
theorem ritems7_ok (l : List Cel) (hll : (l.length : Int) ≤ 9223372036854775807) (ks : List Tree) (hlk : ks.length ≤ 1000000)
    (hk : ∀ t ∈ ks, t.kind ≠ 6 → APure Try.prog 40 [t.av, .vsl (cels l)] (vl (evT (atE l) t))) :
    APure Try.prog 85 [.vsl (avs ks), .vsl (cels l)] (.vsl ((itS (atE l) ks).map vl)) := by
  have hl := avs_len ks
  have hat := rat7_ok l hll
  refine apure_in Try.func85 Try.ntmps85 rfl ?_
  repeat' first | refine aw_N [9] @hl trivial ?_ | refine aw_cond rfl (fun h => ?_) (fun h => ?_)
  refine aw_open (i := 5) rfl ?_
  refine aw_loopW [0, 1, 5, 6] (fun q fr σ => ∃ k' m i : Nat, i + q = ks.length ∧ k' < m ∧ σ = mkSt [] [(k', (itS (atE l) (ks.take i)).map vl)] m ∧ fr = frm 59 [(0, .vsl (avs ks)), (1, .vsl (cels l)), (5, .hsl k' 0 (itS (atE l) (ks.take i)).length), (6, vi (i : Nat))]) ks.length ?_ ?_
  · refine ⟨_, le_mkSt (bs := []) (ss := [(0, [])]) (n := 1) (by simp) (by simp) (by decide), 0, 1, 0, by omega, by decide, by simp [itS], ?_⟩
    simp [σ0, itS]
  · rintro q fr σ ⟨k', m, i, hi, hkm, rfl, rfl⟩
    simp -implicitDefEqProofs
    by_cases hlt : i < ks.length
    · have hlti : (i : Int) < ks.length := by omega
      obtain ⟨t, ht⟩ : ∃ t, ks[i]? = some t := ⟨_, List.getElem?_eq_getElem hlt⟩
      have hmem : t ∈ ks := List.mem_of_getElem? ht
      have hg := avs_get hlt
      rw [show ks[i] = t by rw [List.getElem?_eq_getElem hlt] at ht; exact Option.some.inj ht] at hg
      have hla : i < (avs ks).length := by omega
      have wi : IntKind.i64.wrap ((i : Int) + 1) = (i : Int) + 1 := wrap_id (by omega) (by omega)
      have hnx := itS_take (f := atE l) ht
      have hlen : (itS (atE l) (ks.take i)).length ≤ 1024 * 1000000 := by
        have := itS_len (atE l) (ks.take i)
        rw [List.length_take] at this
        have h2 : min i ks.length ≤ 1000000 := by omega
        exact Nat.le_trans this (Nat.mul_le_mul_left _ h2)
      have hP := vls_okv (itS (atE l) (ks.take i))
      have hPl : ((itS (atE l) (ks.take i)).map vl).length = (itS (atE l) (ks.take i)).length := List.length_map _
      generalize itS (atE l) (ks.take i) = P at *
      by_cases h6 : t.kind = 6
      · obtain ⟨tk, tn, ta, tb, tc, td, tw, tks⟩ := t
        simp only [Tree.kind] at h6
        subst h6
        rw [Tree.av] at hg
        have hcl := rcells_ok ta tb tc td
        rw [cellsL_eq] at hcl
        have hC := gridL_len1 ta tb tc td
        have hcT : itT (atE l) (.mk 6 tn ta tb tc td tw tks) = (gridL ta tb tc td).filterMap fun p => atE l p.1 p.2 := by simp [itT, cellsT]
        rw [hcT] at hnx
        generalize gridL ta tb tc td = C at *
        have hCm : (C.map pl).length = C.length := List.length_map _
        repeat' first | refine aw_N [9] (And.intro @hlti (And.intro @hl (And.intro @hla (And.intro @hg @hCm)))) (And.intro @hcl trivial) ?_ | refine aw_cond rfl (fun h => ?_) (fun h => ?_)
        refine aw_loopW [0, 1, 5, 6, 7, 8] (fun n fr σ => ∃ k2 m2 j : Nat, j + n = C.length ∧ k2 < m2 ∧ σ = mkSt [] [(k2, (P ++ (C.take j).filterMap fun p => atE l p.1 p.2).map vl)] m2 ∧ fr = frm 59 [(0, .vsl (avs ks)), (1, .vsl (cels l)), (5, .hsl k2 0 (P ++ (C.take j).filterMap fun p => atE l p.1 p.2).length), (6, vi (i : Nat)), (7, .vsl (C.map pl)), (8, vi (j : Nat))]) C.length ?_ ?_
        · refine ⟨_, le_mkSt (bs := []) (ss := [(k', P.map vl)]) (n := m) (by simp) (by simp) (by simp), k', m, 0, by omega, hkm, by simp, ?_⟩
          simp
        · rintro n fr σ ⟨k2, m2, j, hj, hkm2, rfl, rfl⟩
          simp -implicitDefEqProofs
          have hfl := fm_len (fun p => atE l p.1 p.2) C hC j
          by_cases hlt2 : j < C.length
          · have hltj : (j : Int) < C.length := by omega
            obtain ⟨⟨x, y⟩, hp⟩ : ∃ p, C[j]? = some p := ⟨_, List.getElem?_eq_getElem hlt2⟩
            have hgp : (C.map pl)[j]? = some (.agg [vi x, vi y]) := by rw [List.getElem?_map, hp]; rfl
            have wj : IntKind.i64.wrap ((j : Int) + 1) = (j : Int) + 1 := wrap_id (by omega) (by omega)
            have hnj := fm_take (g := fun p => atE l p.1 p.2) hp
            have hQ := vls_okv (P ++ (C.take j).filterMap fun p => atE l p.1 p.2)
            have hQl : ((P ++ (C.take j).filterMap fun p => atE l p.1 p.2).map vl).length = P.length + ((C.take j).filterMap fun p => atE l p.1 p.2).length := by simp
            have hcat := hat x y
            simp only at hnj
            generalize ((C.take j).filterMap fun p => atE l p.1 p.2) = R at *
            generalize atE l x y = o at *
            cases o with
            | none =>
              simp only [atR7, Option.getD, Option.isSome] at hcat
              repeat' first | refine aw_N [9] (And.intro @hltj (And.intro @hCm (And.intro @hgp (And.intro @hp @wj)))) (And.intro @hcat trivial) ?_ | refine aw_cond rfl (fun h => ?_) (fun h => ?_)
              refine ⟨n - 1, by omega, _, le_mkSt (bs := []) (ss := [(k2, P.map vl ++ R.map vl)]) (n := m2 + 1) (by simp) (by simp) (by simp), k2, m2 + 1, j + 1, by omega, by omega, ?_, ?_, by omega⟩
              · rw [hnj]; simp
              · rw [hnj]; simp
            | some v =>
              obtain ⟨vn, vfl⟩ := v
              simp only [atR7, Option.getD, Option.isSome] at hcat
              repeat' first | refine aw_N [9] (And.intro @hltj (And.intro @hCm (And.intro @hgp (And.intro @hp @wj)))) (And.intro @hcat trivial) ?_ | refine aw_cond rfl (fun h => ?_) (fun h => ?_)
              refine awl_append [9] rfl rfl rfl (xs := (P ++ R).map vl) (by simp) (by simp) rfl (by simp) te144 tet144 tz41 rfl hQ (by simp) (by simp; omega) (by simp; omega) ?_
              simp -implicitDefEqProofs
              repeat' first | refine aw_N [9] @wj trivial ?_ | refine aw_cond rfl (fun h => ?_) (fun h => ?_)
              refine ⟨n - 1, by omega, _, le_mkSt (bs := []) (ss := [(m2 + 1, ((P ++ R).map vl).take (P.length + R.length) ++ [value vn vfl])]) (n := m2 + 2) (by simp) (by simp) (by simp), m2 + 1, m2 + 2, j + 1, by omega, by omega, ?_, ?_, by omega⟩
              · rw [hnj, List.take_of_length_le (by omega)]; simp [vl]
              · rw [hnj]; simp; omega
          · have hltj : ¬ (j : Int) < C.length := by omega
            rw [List.take_of_length_le (by omega)]
            repeat' first | refine aw_N [9] (And.intro @hltj (And.intro @hCm @wi)) trivial ?_ | refine aw_cond rfl (fun h => ?_) (fun h => ?_)
            refine ⟨q - 1, by omega, _, le_mkSt (bs := []) (ss := [(k2, P.map vl ++ (C.filterMap fun p => atE l p.1 p.2).map vl)]) (n := m2) (by simp) (by simp) (by simp), k2, m2, i + 1, by omega, hkm2, ?_, ⟨rfl, ?_⟩, by omega⟩
            · rw [hnx]; simp
            · rw [hnx]; simp
      · have hc := hk t hmem h6
        have hcT : itT (atE l) t = [evT (atE l) t] := if_neg h6
        rw [hcT] at hnx
        generalize evT (atE l) t = e at *
        obtain ⟨tk, tn, ta, tb, tc, td, tw, tks⟩ := t
        simp only [Tree.kind] at h6
        rw [Tree.av] at hc hg
        obtain ⟨en, ef⟩ := e
        simp only [vl] at hc
        repeat' first | refine aw_N [9] (And.intro @hlti (And.intro @hl (And.intro @hla (And.intro @hg @h6)))) (And.intro @hc trivial) ?_ | refine aw_cond rfl (fun h => ?_) (fun h => ?_)
        refine awl_append [9] rfl rfl rfl (xs := P.map vl) (by simp) (by simp) rfl (by simp) te144 tet144 tz41 rfl hP (by simp) (by simp; omega) (by simp; omega) ?_
        simp -implicitDefEqProofs
        repeat' first | refine aw_N [9] @wi trivial ?_ | refine aw_cond rfl (fun h => ?_) (fun h => ?_)
        refine ⟨q - 1, by omega, _, le_mkSt (bs := []) (ss := [(m, (P.map vl).take P.length ++ [value en ef])]) (n := m + 1) (by simp) (by simp) (by simp), m, m + 1, i + 1, by omega, by omega, ?_, ⟨rfl, ?_⟩, by omega⟩
        · rw [hnx, List.take_of_length_le (by simp)]; simp [vl]
        · rw [hnx]; simp
    · have hlti : ¬ (i : Int) < ks.length := by omega
      rw [List.take_of_length_le (by omega)]
      refine aw_freeze (b := k') (xs := (itS (atE l) ks).map vl) (by simp) ?_
      simp -implicitDefEqProofs [frz, frz1, frz0]
      repeat' first | refine aw_N [9] (And.intro @hlti @hl) trivial ?_ | refine aw_cond rfl (fun h => ?_) (fun h => ?_)
      simp [tupOf, List.take_of_length_le]
end Go.AL
/-! Contracts: gridironref07.call, come, Of. -/
namespace Go.AL
open Go.Proofs
set_option linter.unusedSimpArgs false
set_option linter.unusedVariables false
theorem bestV_in (ah : Int → Int → Bool) (l : List (Int × Int)) (h : ∀ v ∈ l, In64 v.1) : In64 (bestV ah l).1 := by
  have hf : ∀ (l : List (Int × Int)) (x : Int × Int), In64 x.1 → (∀ v ∈ l, In64 v.1) → In64 (l.foldl (bstS ah) x).1 := by
    intro l
    induction l with
    | nil => intro x hx _; exact hx
    | cons y l ih =>
      intro x hx hl
      refine ih _ ?_ fun v hv => hl v (List.mem_cons_of_mem _ hv)
      unfold bstS
      split
      · exact hl y List.mem_cons_self
      · exact hx
  unfold bestV
  split
  · exact in_zero
  · cases l with
    | nil => exact in_zero
    | cons x xs => exact hf xs x (h x List.mem_cons_self) fun v hv => h v (List.mem_cons_of_mem _ hv)
theorem may_kids7 {k n a b c d : Int} {w : ByteArray} {ks : List Tree} (h : mayB (.mk k n a b c d w ks) = true) : ∀ u ∈ ks, mayB u = true := fun u hu => (((may_own _ _ _ _ _ _ _ _).1 h).2 u hu).2
theorem may_neg7 {n a b c d : Int} {w : ByteArray} {ks : List Tree} (h : mayB (.mk 3 n a b c d w ks) = true) : ∃ u, ks = [u] ∧ mayB u = true := by
  have h1 := ((own_iff _ _ _ _ _ _ _ _).1 ((may_own _ _ _ _ _ _ _ _).1 h).1).2
  obtain ⟨u, rfl⟩ := List.length_eq_one_iff.1 (show ks.length = 1 from h1)
  exact ⟨u, rfl, may_kids7 h u (by simp)⟩
theorem may_op7 {n a b c d : Int} {w : ByteArray} {ks : List Tree} (h : mayB (.mk 4 n a b c d w ks) = true) : ∃ u v, ks = [u, v] ∧ mayB u = true ∧ mayB v = true := by
  have h1 := ((own_iff _ _ _ _ _ _ _ _).1 ((may_own _ _ _ _ _ _ _ _).1 h).1).2
  obtain ⟨u, v, rfl⟩ : ∃ u v, ks = [u, v] := by
    have h2 : ks.length = 2 := h1.1
    match ks, h2 with
    | [u, v], _ => exact ⟨u, v, rfl⟩
  exact ⟨u, v, rfl, may_kids7 h u (by simp), may_kids7 h v (by simp)⟩
section
variable {f : Int → Int → Option (Int × Int)}
theorem its_in (hf : ∀ x y v, f x y = some v → In64 v.1) (ks : List Tree) (h : ∀ t ∈ ks, In64 (evT f t).1) : ∀ v ∈ itS f ks, In64 v.1 := by
  intro v hv
  rw [itS_flat] at hv
  obtain ⟨t, ht, hv⟩ := List.mem_flatMap.1 hv
  unfold itT at hv
  split at hv
  · obtain ⟨p, _, hp⟩ := List.mem_filterMap.1 hv
    exact hf _ _ _ hp
  · obtain rfl := List.mem_singleton.1 hv
    exact h t ht
theorem evs_head (ks : List Tree) (h : ∀ t ∈ ks, In64 (evT f t).1) : In64 ((evTs f ks).headD (0, 0)).1 := by
  cases ks with
  | nil => exact in_zero
  | cons t ts => exact h t List.mem_cons_self
theorem evs_tail (ks : List Tree) : (evTs f ks).tail = evTs f ks.tail := by cases ks <;> rfl
theorem call_in (hf : ∀ x y v, f x y = some v → In64 v.1) (w : ByteArray) (bad : Bool) (ks : List Tree) (hl : ks.length ≤ 1000000) (h : ∀ t ∈ ks, In64 (evT f t).1) : In64 (callE w bad (evTs f ks) (itS f ks)).1 := by
  have hi := its_in hf ks h
  have h2 : ∀ t ∈ ks.tail, In64 (evT f t).1 := fun t ht => h t (List.mem_of_mem_tail ht)
  have h3 : ∀ t ∈ ks.tail.tail, In64 (evT f t).1 := fun t ht => h2 t (List.mem_of_mem_tail ht)
  have hlen := itS_len f ks
  unfold callE
  rw [evs_tail, evs_tail]
  repeat' split
  · exact evs_head _ h
  · exact evs_head _ h2
  · exact evs_head _ h3
  · exact (sumL_ok _).1
  · exact bestV_in _ _ hi
  · exact bestV_in _ _ hi
  · exact in_zero
  · have h4 : 1024 * ks.length ≤ 1024 * 1000000 := Nat.mul_le_mul_left _ hl
    have h5 : (itS f ks).length ≤ 1024 * 1000000 := Nat.le_trans hlen h4
    show In64 (((itS f ks).length : Nat) : Int)
    unfold In64
    omega
theorem ev_in (hf : ∀ x y v, f x y = some v → In64 v.1) : ∀ t : Tree, t.In → tszT t ≤ 1000000 → In64 (evT f t).1 := by
  refine Tree.byKids fun k n a b c d w ks ih => ?_
  intro hin hsz
  rw [Tree.In, ins_all] at hin
  obtain ⟨_, hn, _, _, _, _, hw, hlk, hks⟩ := hin
  have hsum : tszs ks < tszT (.mk k n a b c d w ks) := by rw [tszT]; omega
  have hkl := len_le_tszs ks
  have hk : ∀ u ∈ ks, In64 (evT f u).1 := fun u hu => ih u hu (hks u hu) (by have := tszs_mem hu; omega)
  rw [evT]
  repeat' split
  · exact hn
  · cases hq : f a b with
    | none => exact in_zero
    | some v => exact hf _ _ _ hq
  · exact neg_in _ _
  · exact do_in _ _ _ _ _
  · exact call_in hf w _ ks (by omega) hk
  · exact in_zero
end
theorem low_ahG (l : List (Int × Int)) : bestV (ahG false) l = lowL l := rfl
theorem high_ahG (l : List (Int × Int)) : bestV (ahG true) l = highL l := rfl
def NoBad (l : List Tree) : Prop := (l.any fun u => decide (u.kind = 2)) = false
theorem noBad_nil : NoBad [] := rfl
theorem noBad_snoc {l : List Tree} {t : Tree} (h : NoBad l) (ht : ¬ t.kind = 2) : NoBad (l ++ [t]) := by
  unfold NoBad at *
  rw [List.any_append, h, Bool.false_or, List.any_cons, List.any_nil, Bool.or_false]
  exact decide_eq_false ht
set_option maxHeartbeats 16000000 in
set_option maxRecDepth 100000 in
theorem rcall7_ok (l : List Cel) (hll : (l.length : Int) ≤ 9223372036854775807) (hcl : ∀ p ∈ l, In64 p.2.2.1) (n a b c d : Int) (w : ByteArray) (ks : List Tree) (hlk : ks.length ≤ 1000000) (hm : mayB (.mk 5 n a b c d w ks) = true)
    (hin : ∀ t ∈ ks, In64 (evT (atE l) t).1) (hk : ∀ t ∈ ks, APure Try.prog 40 [t.av, .vsl (cels l)] (vl (evT (atE l) t))) :
    APure Try.prog 61 [.agg [vi 5, vi n, vi a, vi b, vi c, vi d, vs w, .vsl (avs ks)], .vsl (cels l)] (vl (callE w (ks.any fun u => decide (u.kind = 2)) (evTs (atE l) ks) (itS (atE l) ks))) := by
  have hl := avs_len ks
  have h1 := ((own_iff _ _ _ _ _ _ _ _).1 ((may_own _ _ _ _ _ _ _ _).1 hm).1).2
  have h1 : (5 : Int) = 5 ∧ (if w = bIF then ks.length = 3 else isFn w = true ∧ 0 < ks.length) := h1
  have h1 := h1.2
  by_cases hif : w = bIF
  · rw [if_pos hif] at h1
    unfold bIF at hif
    subst hif
    obtain ⟨u, v, x, rfl⟩ : ∃ u v x, ks = [u, v, x] := by
      match ks, h1 with
      | [u, v, x], _ => exact ⟨u, v, x, rfl⟩
    have hu := hk u (by simp)
    have hv := hk v (by simp)
    have hx := hk x (by simp)
    have he : callE ⟨#[73, 70]⟩ (([u, v, x] : List Tree).any fun u => decide (u.kind = 2)) (evTs (atE l) [u, v, x]) (itS (atE l) [u, v, x]) = (if (evT (atE l) u).2 ≠ 0 then evT (atE l) u else if (evT (atE l) u).1 ≠ 0 then evT (atE l) v else evT (atE l) x) := by
      simp [callE, evTs]
    rw [he]
    generalize evT (atE l) u = eu at *
    generalize evT (atE l) v = ev at *
    generalize evT (atE l) x = ex at *
    obtain ⟨uk, un, ua, ub, uc, ud, uw, uks⟩ := u
    obtain ⟨vk, vn, va, vb', vc, vd, vw, vks⟩ := v
    obtain ⟨xk, xn, xa, xb, xc, xd, xw, xks⟩ := x
    obtain ⟨un', uf⟩ := eu
    obtain ⟨vn', vf'⟩ := ev
    obtain ⟨xn', xf⟩ := ex
    rw [Tree.av] at hu hv hx
    simp only [vl] at hu hv hx
    simp only [avs, Tree.av]
    clear he hk hin hm hl
    refine apure_in Try.func61 Try.ntmps61 rfl ?_
    repeat' first | refine aw_N [4, 5] trivial (And.intro @hu (And.intro @hv (And.intro @hx trivial))) ?_ | refine aw_cond rfl (fun h => ?_) (fun h => ?_)
    all_goals first | (simp_all [tupOf, vl]; done) | trace_state
  · rw [if_neg hif] at h1
    unfold bIF at hif
    have hits := ritems7_ok l hll ks hlk fun t ht _ => hk t ht
    have hii := its_in (fun x y v h => atE_in x y l hcl v h) ks hin
    have hlen := itS_len (atE l) ks
    have h4 : 1024 * ks.length ≤ 1024 * 1000000 := Nat.mul_le_mul_left _ hlk
    generalize itS (atE l) ks = its at *
    have hS := rvsum_ok its (by omega) hii
    have hlo := rbest_ok false its (by omega)
    have hhi := rbest_ok true its (by omega)
    rw [low_ahG] at hlo
    rw [high_ahG] at hhi
    unfold callE
    rw [if_neg hif]
    by_cases w1 : w = ⟨#[83, 85, 77]⟩
    · subst w1
      rw [if_pos rfl]
      generalize sumL its = r at *
      obtain ⟨rn, rf⟩ := r
      simp only [vl] at hS
      refine apure_in Try.func61 Try.ntmps61 rfl ?_
      repeat' first | refine aw_N [4, 5] trivial (And.intro @hits (And.intro @hS trivial)) ?_ | refine aw_cond rfl (fun h => ?_) (fun h => ?_)
      all_goals first | (simp [tupOf, vl]; done) | trace_state
    rw [if_neg w1]
    by_cases w2 : w = ⟨#[77, 73, 78]⟩
    · subst w2
      rw [if_pos rfl]
      generalize lowL its = r at *
      obtain ⟨rn, rf⟩ := r
      simp only [vl] at hlo
      refine apure_in Try.func61 Try.ntmps61 rfl ?_
      repeat' first | refine aw_N [4, 5] trivial (And.intro @hits (And.intro @hlo trivial)) ?_ | refine aw_cond rfl (fun h => ?_) (fun h => ?_)
      all_goals first | (simp [tupOf, vl]; done) | trace_state
    rw [if_neg w2]
    by_cases w3 : w = ⟨#[77, 65, 88]⟩
    · subst w3
      rw [if_pos rfl]
      generalize highL its = r at *
      obtain ⟨rn, rf⟩ := r
      simp only [vl] at hhi
      refine apure_in Try.func61 Try.ntmps61 rfl ?_
      repeat' first | refine aw_N [4, 5] trivial (And.intro @hits (And.intro @hhi trivial)) ?_ | refine aw_cond rfl (fun h => ?_) (fun h => ?_)
      all_goals first | (simp [tupOf, vl]; done) | trace_state
    rw [if_neg w3]
    have hitl : (its.map vl).length = its.length := List.length_map _
    obtain ⟨bd, hbd⟩ : ∃ bd, bd = ks.any fun u => decide (u.kind = 2) := ⟨_, rfl⟩
    rw [← hbd]
    clear hk hin hm hii h1
    refine apure_in Try.func61 Try.ntmps61 rfl ?_
    repeat' first | refine aw_N [4, 5] (And.intro @hif (And.intro @w1 (And.intro @w2 (And.intro @w3 (And.intro @hl @hitl))))) (And.intro @hits trivial) ?_ | refine aw_cond rfl (fun h => ?_) (fun h => ?_)
    refine aw_loopW [2, 4, 6, 7] (fun q fr σ => ∃ B N i : Nat, i + q = ks.length ∧ B < N ∧ NoBad (ks.take i) ∧ σ = mkSt [(B, [vi 0, vi 0])] [] N ∧ fr = frm 72 [(2, .vel [.agg [vi 5, vi n, vi a, vi b, vi c, vi d, vs w, .vsl (avs ks)]] 0 0), (4, .ptr B 0), (6, .vsl (its.map vl)), (7, vi (i : Nat))]) ks.length ?_ ?_
    · exact ⟨_, le_mkSt (bs := [(0, [vi 0, vi 0])]) (ss := []) (n := 1) (by simp) (by simp) (by simp), 0, 1, 0, by omega, by omega, noBad_nil, rfl, by simp [hl]⟩
    · rintro q fr σ ⟨B, N, i, hi, hBN, hany, rfl, rfl⟩
      simp -implicitDefEqProofs
      by_cases hlt : i < ks.length
      · have hlti : (i : Int) < ks.length := by omega
        obtain ⟨t, ht⟩ : ∃ t, ks[i]? = some t := ⟨_, List.getElem?_eq_getElem hlt⟩
        have hmem : t ∈ ks := List.mem_of_getElem? ht
        have hg := avs_get hlt
        rw [show ks[i] = t by rw [List.getElem?_eq_getElem hlt] at ht; exact Option.some.inj ht] at hg
        have hla : i < (avs ks).length := by omega
        have wi : IntKind.i64.wrap ((i : Int) + 1) = (i : Int) + 1 := wrap_id (by omega) (by omega)
        by_cases h2 : t.kind = 2
        · have hb : bd = true := hbd.trans (List.any_eq_true.2 ⟨t, hmem, decide_eq_true h2⟩)
          simp only [hb, if_true]
          obtain ⟨tk, tn, ta, tb, tc, td, tw, tks⟩ := t
          simp only [Tree.kind] at h2
          subst h2
          rw [Tree.av] at hg
          repeat' first | refine aw_N [4, 5] (And.intro @hlti (And.intro @hl (And.intro @hla @hg))) trivial ?_ | refine aw_cond rfl (fun h => ?_) (fun h => ?_)
          all_goals first | (simp [tupOf, vl]; done) | trace_state
        · have hnx : NoBad (ks.take (i + 1)) := by rw [List.take_add_one, ht]; exact noBad_snoc hany h2
          obtain ⟨tk, tn, ta, tb, tc, td, tw, tks⟩ := t
          simp only [Tree.kind] at h2
          rw [Tree.av] at hg
          repeat' first | refine aw_N [4, 5] (And.intro @hlti (And.intro @hl (And.intro @hla (And.intro @hg (And.intro @wi @h2))))) trivial ?_ | refine aw_cond rfl (fun h => ?_) (fun h => ?_)
          exact ⟨q - 1, by omega, _, le_mkSt (bs := [(B, [vi 0, vi 0])]) (ss := []) (n := N) (by simp) (by simp) (by simp), B, N, i + 1, by omega, hBN, hnx, rfl, rfl, by omega⟩
      · have hlti : ¬ (i : Int) < ks.length := by omega
        rw [List.take_of_length_le (by omega)] at hany
        have hb : bd = false := hbd.trans hany
        simp only [hb, Bool.false_eq_true, if_false]
        repeat' first | refine aw_N [4, 5] (And.intro @hlti (And.intro @hl @hitl)) trivial ?_ | refine aw_cond rfl (fun h => ?_) (fun h => ?_)
        all_goals first | (simp [tupOf, vl, hitl]; done) | trace_state
def RComeP (l : List Cel) (t : Tree) : Prop := tszT t ≤ 1000000 → t.In → mayB t = true → APure Try.prog 40 [t.av, .vsl (cels l)] (vl (evT (atE l) t))
set_option maxHeartbeats 16000000 in
set_option maxRecDepth 100000 in
theorem rcome7_ok (l : List Cel) (hll : (l.length : Int) ≤ 9223372036854775807) (hcl : ∀ p ∈ l, In64 p.2.2.1) : ∀ t, RComeP l t := by
  refine Tree.byKids fun k n a b c d w ks ih => ?_
  intro hsz hin hm
  have hin0 := hin
  rw [Tree.In, ins_all] at hin
  obtain ⟨_, hn, _, _, _, _, hw, hlk, hks⟩ := hin
  have hsum : tszs ks < tszT (.mk k n a b c d w ks) := by rw [tszT]; omega
  have hkl := len_le_tszs ks
  have hf : ∀ x y v, atE l x y = some v → In64 v.1 := fun x y v h => atE_in x y l hcl v h
  have hksz : ∀ u ∈ ks, tszT u ≤ 1000000 := fun u hu => by have := tszs_mem hu; omega
  have hki : ∀ u ∈ ks, In64 (evT (atE l) u).1 := fun u hu => ev_in hf u (hks u hu) (hksz u hu)
  rw [evT]
  by_cases h0 : k = 0
  · subst h0
    rw [if_pos rfl, Tree.av]
    refine apure_in Try.func40 Try.ntmps40 rfl ?_
    repeat' first | refine aw_N [4, 5, 7, 8, 9] trivial trivial ?_ | refine aw_cond rfl (fun h => ?_) (fun h => ?_)
    all_goals first | (simp [tupOf, vl]; done) | trace_state
  rw [if_neg h0]
  by_cases h1 : k = 1
  · subst h1
    rw [if_pos rfl, Tree.av]
    have hat := rat7_ok l hll a b
    unfold atR7 at hat
    generalize (atE l a b).getD (0, 0) = r at *
    generalize (atE l a b).isSome = q at *
    obtain ⟨rn, rf⟩ := r
    clear ih hsz hsum hkl hksz hki hin0 hm
    refine apure_in Try.func40 Try.ntmps40 rfl ?_
    repeat' first | refine aw_N [4, 5, 7, 8, 9] trivial (And.intro @hat trivial) ?_ | refine aw_cond rfl (fun h => ?_) (fun h => ?_)
    all_goals first | (simp [tupOf, vl]; done) | trace_state
  rw [if_neg h1]
  by_cases h3 : k = 3
  · subst h3
    rw [if_pos rfl]
    obtain ⟨u, rfl, hu⟩ := may_neg7 hm
    have hr : APure Try.prog 40 [u.av, .vsl (cels l)] (vl (evT (atE l) u)) := ih u (by simp) (hksz u (by simp)) (hks u (by simp)) hu
    have hni := hki u (by simp)
    simp only [evTs, List.headD]
    generalize evT (atE l) u = e at *
    obtain ⟨en, ef⟩ := e
    have hng := rvneg_ok en ef hni
    simp only [vl] at hr
    clear ih hsz hsum hkl hksz hki hin0 hm
    obtain ⟨tk, tn, ta, tb, tc, td, tw, tks⟩ := u
    rw [Tree.av] at hr
    simp only [Tree.av, avs]
    refine apure_in Try.func40 Try.ntmps40 rfl ?_
    repeat' first | refine aw_N [4, 5, 7, 8, 9] trivial (And.intro @hr (And.intro @hng trivial)) ?_ | refine aw_cond rfl (fun h => ?_) (fun h => ?_)
    all_goals first | (simp [tupOf, vl]; done) | trace_state
  rw [if_neg h3]
  by_cases h4 : k = 4
  · subst h4
    rw [if_pos rfl]
    obtain ⟨u, v, rfl, hu, hv⟩ := may_op7 hm
    have ru : APure Try.prog 40 [u.av, .vsl (cels l)] (vl (evT (atE l) u)) := ih u (by simp) (hksz u (by simp)) (hks u (by simp)) hu
    have rv : APure Try.prog 40 [v.av, .vsl (cels l)] (vl (evT (atE l) v)) := ih v (by simp) (hksz v (by simp)) (hks v (by simp)) hv
    have iu := hki u (by simp)
    have iv := hki v (by simp)
    simp only [evTs, List.headD, List.tail]
    generalize evT (atE l) u = eu at *
    generalize evT (atE l) v = ev at *
    obtain ⟨un', uf⟩ := eu
    obtain ⟨vn', vf'⟩ := ev
    have hd := rdo_ok w un' uf vn' vf' iu iv
    simp only [vl] at ru rv
    clear ih hsz hsum hkl hksz hki hin0 hm
    obtain ⟨tk, tn, ta, tb, tc, td, tw, tks⟩ := u
    obtain ⟨vk, vn, va, vb', vc, vd, vw, vks⟩ := v
    rw [Tree.av] at ru rv
    simp only [Tree.av, avs]
    refine apure_in Try.func40 Try.ntmps40 rfl ?_
    repeat' first | refine aw_N [4, 5, 7, 8, 9] trivial (And.intro @ru (And.intro @rv (And.intro @hd trivial))) ?_ | refine aw_cond rfl (fun h => ?_) (fun h => ?_)
    all_goals first | (simp [tupOf, vl]; done) | trace_state
  rw [if_neg h4]
  by_cases h5 : k = 5
  · subst h5
    rw [if_pos rfl, Tree.av]
    have hc := rcall7_ok l hll hcl n a b c d w ks (by omega) hm hki fun t ht => ih t ht (hksz t ht) (hks t ht) (may_kids7 hm t ht)
    generalize callE w (ks.any fun u => decide (u.kind = 2)) (evTs (atE l) ks) (itS (atE l) ks) = r at *
    obtain ⟨rn, rf⟩ := r
    simp only [vl] at hc
    clear ih hsz hsum hkl hksz hki hin0 hm
    refine apure_in Try.func40 Try.ntmps40 rfl ?_
    repeat' first | refine aw_N [4, 5, 7, 8, 9] trivial (And.intro @hc trivial) ?_ | refine aw_cond rfl (fun h => ?_) (fun h => ?_)
    all_goals first | (simp [tupOf, vl]; done) | trace_state
  rw [if_neg h5, Tree.av]
  refine apure_in Try.func40 Try.ntmps40 rfl ?_
  repeat' first | refine aw_N [4, 5, 7, 8, 9] (And.intro @h0 (And.intro @h1 (And.intro @h3 (And.intro @h4 @h5)))) trivial ?_ | refine aw_cond rfl (fun h => ?_) (fun h => ?_)
  all_goals first | (simp [tupOf, vl]; done) | trace_state
set_option maxHeartbeats 8000000 in
set_option maxRecDepth 100000 in
theorem rOf7_ok (t : Tree) (l : List Cel) (hll : (l.length : Int) ≤ 9223372036854775807) (hcl : ∀ p ∈ l, In64 p.2.2.1) (hin : t.In) (hsh : t.sh) (hz : tszT t ≤ 1000000) : APure Try.prog 11 [t.av, .vsl (cels l)] (vl (if rightB t = true then evT (atE l) t else (0, 3))) := by
  have hr := rright5_ok t hsh (by have := deep_le_size t; omega)
  have hw : rightB t = true → APure Try.prog 40 [t.av, .vsl (cels l)] (vl (evT (atE l) t)) := fun h => rcome7_ok l hll hcl t hz hin (by unfold rightB at h; simp only [Bool.and_eq_true] at h; exact h.2)
  generalize evT (atE l) t = W at *
  obtain ⟨wn, wf⟩ := W
  generalize rightB t = rb at *
  obtain ⟨k, n, a, b, c, d, w, ks⟩ := t
  rw [Tree.av] at hr hw ⊢
  cases rb with
  | true =>
    have hw := hw rfl
    simp only [vl] at hw
    refine apure_in Try.func11 Try.ntmps11 rfl ?_
    repeat' first | refine aw_N [4] trivial (And.intro @hr (And.intro @hw trivial)) ?_ | refine aw_cond rfl (fun h => ?_) (fun h => ?_)
    all_goals first | (simp [tupOf, vl]; done) | trace_state
  | false =>
    refine apure_in Try.func11 Try.ntmps11 rfl ?_
    repeat' first | refine aw_N [4] trivial (And.intro @hr trivial) ?_ | refine aw_cond rfl (fun h => ?_) (fun h => ?_)
    all_goals first | (simp [tupOf, vl]; done) | trace_state
end Go.AL
/-! Contracts: shape.walk. -/
namespace Go.AL
open Go.Proofs
set_option linter.unusedSimpArgs false
set_option linter.unusedVariables false
section
set_option linter.unusedVariables false
variable (stp : List AV → Tree → List AV × Option Code) (xs : List Tree) (I : List AV → Prop) (fs : List AV) (lp : Loop)
end
end Go.AL
/-! Contracts: shape.parts. -/
namespace Go.AL
open Go.Proofs
set_option linter.unusedSimpArgs false
set_option linter.unusedVariables false
end Go.AL
/-! Contracts: shape.Size, Bads, Uses. -/
namespace Go.AL
open Go.Proofs
set_option linter.unusedSimpArgs false
set_option linter.unusedVariables false
end Go.AL
/-! Contracts: gridironref06.Reads. -/
namespace Go.AL
open Go.Proofs
set_option linter.unusedSimpArgs false
set_option linter.unusedVariables false
end Go.AL
/-! Contracts: shape.Reads. -/
namespace Go.AL
open Go.Proofs
set_option linter.unusedSimpArgs false
set_option linter.unusedVariables false
def pidx (p : Int × Int) : Nat := (p.2 * 16 + p.1).toNat
def InP (p : Int × Int) : Prop := rightP p.1 p.2 = true
theorem InP.lt {p : Int × Int} (h : InP p) : 0 ≤ p.2 * 16 + p.1 ∧ pidx p < 1024 := by
  unfold InP rightP at h
  simp only [Bool.and_eq_true, decide_eq_true_eq] at h
  unfold pidx
  omega
@[simp] theorem cl_pl (l : List (Int × Int)) : (∀ c ∈ l.map pl, Cl c) = True := eq_true fun c hc => by
  obtain ⟨p, _, rfl⟩ := List.mem_map.1 hc
  exact .agg _ (by simp)
@[simp] theorem cl_pl' (l : List (Int × Int)) : (∀ (c : AV) (x y : Int), (x, y) ∈ l → pl (x, y) = c → Cl c) = True := eq_true fun c x y _ h => by
  rw [← h]; exact .agg _ (by simp)
end Go.AL
namespace Go.Proofs.Ytjldlcakinmajaa.Flo
open Ieee
/-! ### whole numbers -/
abbrev F (n : Int) : Nat := floatOfInt .f64 n
end Go.Proofs.Ytjldlcakinmajaa.Flo
namespace Go.Proofs.Ytjldlcakinmajaa.Flo
open Ieee
end Go.Proofs.Ytjldlcakinmajaa.Flo
/-! Contracts: place, by points. -/
namespace Go.AL
open Go.Proofs Go.Proofs.Ytjldlcakinmajaa
set_option linter.unusedSimpArgs false
set_option linter.unusedVariables false
/-! ### points -/
def ordF (x y : Nat) : Option Ordering := FloatKind.f64.format.order x y
abbrev f16 : Nat := 4625196817309499392
abbrev f64c : Nat := 4634204016564240384
/-- Is the point at no place? -/
def Off (x y : Nat) : Prop := ordF x 0 = some .lt ∨ ordF x f16 = some .gt ∨ ordF x f16 = some .eq ∨ ordF y 0 = some .lt ∨ ordF y f64c = some .gt ∨ ordF y f64c = some .eq
instance (x y : Nat) : Decidable (Off x y) := by unfold Off; infer_instance
end Go.AL
/-! Contracts: shape.moved, Shift. -/
namespace Go.AL
open Go.Proofs
set_option linter.unusedSimpArgs false
set_option linter.unusedVariables false
end Go.AL
/-! Contracts: gridironref05.text, within, Print. -/
namespace Go.AL
open Go.Proofs
set_option linter.unusedSimpArgs false
set_option linter.unusedVariables false
@[simp] def Tree.word : Tree → ByteArray
  | .mk _ _ _ _ _ _ w _ => w
end Go.AL
/-! What the program's shapes are, and the document's: the same. -/
namespace Go.AL
open Go.Proofs
set_option linter.unusedSimpArgs false
set_option linter.unusedVariables false
theorem may_kids {k n a b c d : Int} {w : ByteArray} {ks : List Tree} (h : mayB (.mk k n a b c d w ks) = true) : ∀ u ∈ ks, mayB u = true := fun u hu => (((may_own _ _ _ _ _ _ _ _).1 h).2 u hu).2
theorem rightB_may {t : Tree} (h : rightB t = true) : mayB t = true := by
  unfold rightB at h
  simp only [Bool.and_eq_true] at h
  exact h.2
end Go.AL
/-! Plain laws of what a tree comes to: it hangs on what is read alone; faults. -/
namespace Go.AL
open Go.Proofs
set_option linter.unusedSimpArgs false
set_option linter.unusedVariables false
theorem in_sh7 : ∀ t : Tree, t.In → t.sh := by
  refine Tree.byKids fun k n a b c d w ks ih => ?_
  intro h
  rw [Tree.In, ins_all] at h
  rw [Tree.sh, shs_all]
  exact ⟨h.2.2.2.2.2.2.2.1, fun t ht => ih t ht (h.2.2.2.2.2.2.2.2 t ht)⟩
theorem fits_size {t : Tree} (h : fitsB t = true) : tszT t ≤ 1000000 := by
  unfold fitsB at h
  simp only [Bool.and_eq_true, decide_eq_true_eq] at h
  omega
theorem cels_okv (l : List Cel) : ∀ y ∈ cels l, y.cells.length = 4 := fun y hy => by
  obtain ⟨p, _, rfl⟩ := List.mem_map.1 hy
  rfl
theorem lvl_do {w : ByteArray} (h : 0 < lvl w) : doK w ≠ 10 := by
  unfold doK
  repeat' split
  all_goals first | decide | skip
  rename_i h1 h2 h3 h4 h5 h6 h7 h8 h9 h10
  exfalso
  unfold lvl at h
  simp [*] at h
end Go.AL
/-! Contracts: mono's and gridironref08's ways. -/
namespace Go.AL
open Go.Proofs
set_option linter.unusedSimpArgs false
set_option linter.unusedVariables false
def cleanW (w : Int) : Int := if w < 0 ∨ 3 < w then 3 else w
/-- Two ways joined. -/
def twoW (a b : Int) : Int := if (a < 0 ∨ 3 < a) ∨ (b < 0 ∨ 3 < b) then 3 else if a = 0 ∨ a = b then b else if b = 0 then a else 3
def flipW (w : Int) : Int := if w = 1 then 2 else if w = 2 then 1 else cleanW w
def joinW (l : List Int) : Int := l.foldl twoW 0
theorem joinW_snoc (l : List Int) (w : Int) : joinW (l ++ [w]) = twoW (joinW l) w := by simp [joinW]
def vis (l : List Int) : List AV := l.map fun w => vi w
@[simp] theorem cl_vis (l : List Int) : (∀ c ∈ vis l, Cl c) = True := eq_true fun c hc => by
  obtain ⟨p, _, rfl⟩ := List.mem_map.1 hc
  exact .p _
theorem vis_len (l : List Int) : (vis l).length = l.length := List.length_map _
theorem vis_get {l : List Int} {i : Nat} {w : Int} (h : l[i]? = some w) : (vis l)[i]? = some (vi w) := by rw [vis, List.getElem?_map, h]; rfl
set_option maxHeartbeats 4000000 in
set_option maxRecDepth 100000 in
theorem two_ok (a b : Int) : APure Try.prog 54 [vi a, vi b] (vi (twoW a b)) := by
  refine apure_in Try.func54 Try.ntmps54 rfl ?_
  repeat' first | refine aw_N [] trivial trivial ?_ | refine aw_cond rfl (fun h => ?_) (fun h => ?_)
  all_goals (try simp at *)
  all_goals (try simp [tupOf])
  all_goals (unfold twoW; repeat' split)
  all_goals omega
set_option maxHeartbeats 4000000 in
set_option maxRecDepth 100000 in
theorem flip_ok (w : Int) : APure Try.prog 36 [vi w] (vi (flipW w)) := by
  refine apure_in Try.func36 Try.ntmps36 rfl ?_
  repeat' first | refine aw_N [] trivial trivial ?_ | refine aw_cond rfl (fun h => ?_) (fun h => ?_)
  all_goals (try simp at *)
  all_goals (try simp [tupOf])
  all_goals (unfold flipW cleanW; repeat' split)
  all_goals omega
set_option maxHeartbeats 4000000 in
set_option maxRecDepth 100000 in
theorem times_ok (w n : Int) : APure Try.prog 82 [vi w, vi n] (vi (if n < 0 then flipW w else w)) := by
  refine apure_in Try.func82 Try.ntmps82 rfl ?_
  repeat' first | refine aw_N [] trivial (And.intro @flip_ok trivial) ?_ | refine aw_cond rfl (fun h => ?_) (fun h => ?_)
  all_goals (try simp at *)
  all_goals (try simp [tupOf])
  all_goals (repeat' split)
  all_goals omega
set_option maxHeartbeats 4000000 in
set_option maxRecDepth 100000 in
theorem join_ok (l : List Int) (hl : (l.length : Int) ≤ 9223372036854775807) : APure Try.prog 35 [.vsl (vis l)] (vi (joinW l)) := by
  have hvl := vis_len l
  refine apure_in Try.func35 Try.ntmps35 rfl ?_
  repeat' first | refine aw_N [] @hvl trivial ?_ | refine aw_cond rfl (fun h => ?_) (fun h => ?_)
  refine aw_loopW [3, 6, 7, 8] (fun q fr σ => ∃ i N : Nat, i + q = l.length ∧ σ = mkSt [] [] N ∧ fr = frm 17 [(3, vi (joinW (l.take i))), (6, .vsl (vis l)), (7, vi l.length), (8, vi (i : Nat))]) l.length ?_ ?_
  · exact ⟨_, le_mkSt (bs := []) (ss := []) (n := 0) (by simp) (by simp) (by simp [σ0]), 0, 0, by omega, rfl, by simp [joinW, hvl]⟩
  · rintro q fr σ ⟨i, N, hi, rfl, rfl⟩
    simp -implicitDefEqProofs
    by_cases hlt : i < l.length
    · have hlti : (i : Int) < l.length := by omega
      obtain ⟨w, hw⟩ : ∃ w, l[i]? = some w := ⟨_, List.getElem?_eq_getElem hlt⟩
      have hg := vis_get hw
      have wi : IntKind.i64.wrap ((i : Int) + 1) = (i : Int) + 1 := wrap_id (by omega) (by omega)
      have hjn : joinW (l.take (i + 1)) = twoW (joinW (l.take i)) w := by rw [List.take_add_one, hw]; exact joinW_snoc _ _
      generalize joinW (l.take i) = jw at *
      repeat' first | refine aw_N [] (And.intro @hlti (And.intro @hvl (And.intro @hg @wi))) (And.intro @two_ok trivial) ?_ | refine aw_cond rfl (fun h => ?_) (fun h => ?_)
      exact ⟨q - 1, by omega, mkSt [] [] N, le_mkSt (by simp) (by simp) (Nat.le_refl _), i + 1, by omega, ⟨_, rfl⟩, hjn.symm, by omega⟩
    · have hlti : ¬ (i : Int) < l.length := by omega
      rw [List.take_of_length_le (by omega)]
      repeat' first | refine aw_N [] @hlti trivial ?_ | refine aw_cond rfl (fun h => ?_) (fun h => ?_)
      all_goals first | (simp [tupOf]; done) | trace_state
set_option maxHeartbeats 4000000 in
set_option maxRecDepth 100000 in
theorem still_ok (l : List Int) (hl : (l.length : Int) ≤ 9223372036854775807) : APure Try.prog 83 [.vsl (vis l)] (vi (if joinW l = 0 then 0 else 3)) := by
  have hj := join_ok l hl
  generalize joinW l = jw at *
  refine apure_in Try.func83 Try.ntmps83 rfl ?_
  repeat' first | refine aw_N [] trivial (And.intro @hj trivial) ?_ | refine aw_cond rfl (fun h => ?_) (fun h => ?_)
  all_goals (try simp at *)
  all_goals (try simp [tupOf])
  all_goals (repeat' split)
  all_goals omega
end Go.AL
