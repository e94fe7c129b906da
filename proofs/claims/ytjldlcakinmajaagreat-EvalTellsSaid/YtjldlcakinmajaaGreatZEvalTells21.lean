/- Parts of the proof of EvalTells: the logic, contracts, plain laws. -/
import Derived.Test.YtjldlcakinmajaaGreatZEvalTells20
import Derived.Test.YtjldlcakinmajaaGreatZEvalTells14
import Derived.Test.YtjldlcakinmajaaGreatZEvalTells11
import Derived.Test.YtjldlcakinmajaaGreatZEvalTells19
/-! Contracts: place.Cells. -/
namespace Go.AL
open Go.Proofs
set_option linter.unusedSimpArgs false
set_option linter.unusedVariables false
/-- A row's first n places. -/
def rowN (a y : Int) (n : Nat) : List (Int × Int) := (List.range n).map fun i : Nat => (a + (i : Int), y)
/-- The first n rows. -/
def gridN (a b : Int) (k n : Nat) : List (Int × Int) := (List.range n).flatMap fun j : Nat => rowN a (b + (j : Int)) k
def gridL (a b c d : Int) : List (Int × Int) := if wholeP a b c d = true then gridN a b (c - a + 1).toNat (d - b + 1).toNat else []
theorem rowN_succ (a y : Int) (n : Nat) : rowN a y (n + 1) = rowN a y n ++ [(a + (n : Int), y)] := by
  unfold rowN; rw [List.range_succ, List.map_append]; rfl
theorem rowN_len (a y : Int) (n : Nat) : (rowN a y n).length = n := by simp [rowN]
theorem gridN_succ (a b : Int) (k n : Nat) : gridN a b k (n + 1) = gridN a b k n ++ rowN a (b + (n : Int)) k := by
  unfold gridN; rw [List.range_succ, List.flatMap_append]; simp
theorem gridN_len (a b : Int) (k : Nat) : ∀ n : Nat, (gridN a b k n).length = n * k
  | 0 => by simp [gridN]
  | n + 1 => by rw [gridN_succ, List.length_append, gridN_len a b k n, rowN_len, Nat.succ_mul]
theorem whole_iff {a b c d : Int} : wholeP a b c d = true ↔ (0 ≤ a ∧ a ≤ c ∧ c < 16) ∧ (0 ≤ b ∧ b ≤ d ∧ d < 64) := by
  simp only [wholeP, rightP, withinP, Bool.and_eq_true, decide_eq_true_eq]; omega
set_option maxRecDepth 100000 in
theorem cells_ok (a b c d : Int) : APure Tryz.prog 103 [range a b c d] (.vsl ((gridL a b c d).map pl)) := by
  refine apure_in Tryz.func103 Tryz.ntmps103 rfl ?_
  refine aw_seq (aw_run [4] ?_)
  simp -implicitDefEqProofs
  refine aw_seq (aw_seq (aw_run [4] ?_))
  simp -implicitDefEqProofs
  refine awl_pure' [] rfl rfl rfl (by kernel_rfl) rfl (whole_ok a b c d) (by simp) (by simp) ?_
  simp -implicitDefEqProofs
  refine aw_cond rfl (fun h => ?_) (fun h => aw_skip ?_)
  · refine aw_seq (aw_run [4] ?_)
    simp -implicitDefEqProofs
    refine aw_ret (ret_of (.inr rfl) (by simp [Tryz.results103]; rfl) (Fin.vnil (Fin.of ?_)))
    have : wholeP a b c d = false := by simpa using h
    simp [gridL, this]
  · have hw : wholeP a b c d = true := by simpa using h
    have hb := whole_iff.1 hw
    have hG : gridL a b c d = gridN a b (c - a + 1).toNat (d - b + 1).toNat := if_pos hw
    rw [hG]
    obtain ⟨W, hW⟩ : ∃ W, W = (c - a + 1).toNat := ⟨_, rfl⟩
    obtain ⟨H, hH⟩ : ∃ H, H = (d - b + 1).toNat := ⟨_, rfl⟩
    rw [← hW, ← hH]
    refine aw_seq (aw_run [4] ?_)
    simp -implicitDefEqProofs
    refine aw_seq (aw_seq (aw_run [4] ?_))
    simp -implicitDefEqProofs
    refine aw_block (aw_open (i := 3) rfl ?_)
    refine aw_loopW [1, 3, 4] (fun n fr σ => ∃ k3 k4 m j : Nat, ∃ x : Int, j + n = H ∧ k3 < m ∧ k4 < m ∧ σ = mkSt [(k4, [vi x, vi (b + (j : Int))])] [(k3, (gridN a b W j).map pl)] m ∧ fr = frm 40 [(1, .vel [range a b c d] 0 0), (3, .hsl k3 0 (gridN a b W j).length), (4, .ptr k4 0)]) H ?_ ?_
    · refine ⟨mkSt [(0, [vi a, vi b])] [(1, [])] 2, le_mkSt (by simp [σ0]) (by simp [σ0]) (by simp [σ0]), 1, 0, 2, 0, a, by omega, by omega, by omega, by simp [gridN], ?_⟩
      simp [gridN, σ0]
    · rintro n0 fr σ ⟨k3, k4, m, j, x, hj, h3, h4, rfl, rfl⟩
      simp
      refine aw_seq (aw_seq (aw_run [4] ?_))
      simp -implicitDefEqProofs [List.lookup]
      refine aw_cond rfl (fun h => aw_skip ?_) (fun h => aw_exit ?_)
      · have hlt : j < H := by simp at h; omega
        have hny : IntKind.i64.wrap (b + (j : Int) + 1) = b + ((j + 1 : Nat) : Int) := by rw [wrap_id (by omega) (by omega)]; omega
        have hgl := gridN_len a b W j
        have hjW : j * W ≤ 64 * 16 := Nat.mul_le_mul (by omega) (by omega)
        have hm4 : ¬ k4 = m := by omega
        simp -implicitDefEqProofs [List.lookup]
        refine aw_seq (aw_block (aw_seq (aw_run [4] ?_)))
        simp -implicitDefEqProofs [List.lookup]
        refine aw_block (aw_loopW [1, 3, 4] (fun n fr σ => ∃ k3 m i : Nat, i + n = W ∧ k3 < m ∧ k4 < m ∧ σ = mkSt [(k4, [vi (a + (i : Int)), vi (b + (j : Int))])] [(k3, (gridN a b W j ++ rowN a (b + (j : Int)) i).map pl)] m ∧ fr = frm 40 [(1, .vel [range a b c d] 0 0), (3, .hsl k3 0 (j * W + i)), (4, .ptr k4 0)]) W ?_ ?_)
        · refine ⟨mkSt [(k4, [vi a, vi (b + (j : Int))])] [(k3, (gridN a b W j).map pl)] m, le_mkSt (by simp [List.lookup]) (by simp [List.lookup]) (by simp), k3, m, 0, by omega, by omega, by omega, by simp [rowN], ?_⟩
          simp [hgl]
        · rintro n fr σ ⟨k3, m, i, hi, h3, h4, rfl, rfl⟩
          have hm4 : ¬ k4 = m := by omega
          simp
          refine aw_seq (aw_seq (aw_run [4] ?_))
          simp -implicitDefEqProofs [List.lookup]
          refine aw_cond rfl (fun h => aw_skip ?_) (fun h => aw_exit ?_)
          · have hlt2 : i < W := by simp at h; omega
            have hnx : IntKind.i64.wrap (a + (i : Int) + 1) = a + ((i + 1 : Nat) : Int) := by rw [wrap_id (by omega) (by omega)]; omega
            simp -implicitDefEqProofs [List.lookup]
            repeat' (first
              | refine aw_seq ?_
              | (refine aw_run [4] ?_; try simp -implicitDefEqProofs (maxSteps := 1000000) [List.lookup])
              | ((first | refine awl_skip' [4] rfl ?_ | refine aw_skip ?_ | refine aw_exit ?_); try simp -implicitDefEqProofs (maxSteps := 1000000) [List.lookup])
              | (refine aw_cond rfl (fun h => ?_) (fun h => ?_) <;> try (with_reducible first | exact ff_tt h | exact tt_ff h))
              | refine aw_block ?_
              | refine aw_ret (ret_of (.inr rfl) (by simp [Tryz.results103]; rfl) (Fin.of ?_))
              | refine ret_of (.inl rfl) (by simp [Tryz.results103]; rfl) (Fin.of ?_))
            have hlen : (gridN a b W j ++ rowN a (b + (j : Int)) i).length = j * W + i := by rw [List.length_append, hgl, rowN_len]
            refine awl_append [4] rfl rfl rfl (xs := (gridN a b W j ++ rowN a (b + (j : Int)) i).map pl) (by simp [List.lookup]) (by rw [List.length_map, hlen]; omega) rfl (by simp) te107 tet107 tz24 rfl ?_ (by simp) (by simp; omega) (by simp; omega) ?_
            · intro y hy
              simp at hy
              rcases hy with ⟨_, _, _, rfl⟩ | ⟨_, _, _, rfl⟩ <;> rfl
            simp -implicitDefEqProofs [List.lookup, hm4]
            repeat' (first
              | refine aw_seq ?_
              | (refine aw_run [4] ?_; try simp -implicitDefEqProofs (maxSteps := 1000000) [List.lookup, hm4])
              | ((first | refine awl_skip' [4] rfl ?_ | refine aw_skip ?_ | refine aw_exit ?_); try simp -implicitDefEqProofs (maxSteps := 1000000) [List.lookup, hm4])
              | (refine aw_cond rfl (fun h => ?_) (fun h => ?_) <;> try (with_reducible first | exact ff_tt h | exact tt_ff h))
              | refine aw_block ?_
              | refine aw_ret (ret_of (.inr rfl) (by simp [Tryz.results103]; rfl) (Fin.of ?_))
              | refine ret_of (.inl rfl) (by simp [Tryz.results103]; rfl) (Fin.of ?_))
            refine ⟨n - 1, by omega, mkSt [(k4, [vi (a + ((i + 1 : Nat) : Int)), vi (b + (j : Int))])] [(m, (gridN a b W j ++ rowN a (b + (j : Int)) (i + 1)).map pl)] (m + 1), le_mkSt (by simp [List.lookup, hnx]) (by simp [List.lookup, rowN_succ, List.take_of_length_le, hgl, rowN_len, pl]) (by simp), m, m + 1, i + 1, by omega, by omega, by omega, by simp, rfl, by omega⟩
          · have : i = W := by simp at h; omega
            subst this
            simp -implicitDefEqProofs [List.lookup]
            refine aw_seq (aw_seq (aw_run [4] ?_))
            simp -implicitDefEqProofs [List.lookup]
            refine aw_run [4] ?_
            simp -implicitDefEqProofs [List.lookup]
            refine aw_run [4] ?_
            simp -implicitDefEqProofs [List.lookup]
            refine ⟨n0 - 1, by omega, mkSt [(m, [vi (a + (i : Int)), vi (b + ((j + 1 : Nat) : Int))])] [(k3, (gridN a b i (j + 1)).map pl)] (m + 1), le_mkSt (by simp [List.lookup, hny]) (by simp [List.lookup, gridN_succ]) (by simp), k3, m, m + 1, j + 1, by omega, by omega, by omega, ⟨_, rfl⟩, ?_⟩
            simp [gridN_len, Nat.succ_mul]
      · have : j = H := by simp at h; omega
        subst this
        simp -implicitDefEqProofs [List.lookup]
        refine aw_freeze (b := k3) (xs := (gridN a b W j).map pl) (by simp [List.lookup]) ?_
        simp [frz, frz1, frz0]
        repeat' first | refine aw_N [4] trivial trivial ?_ | refine aw_cond rfl (fun h => ?_) (fun h => ?_)
        simp [tupOf, List.take_of_length_le]
end Go.AL
/-! The cells of both are the same. -/
namespace Go.AL
open Go.Proofs
set_option linter.unusedSimpArgs false
set_option linter.unusedVariables false
theorem atC_nat1 {i : Nat} (h : i < 1024) : atC (i : Int) = ((i % 16 : Nat) : Int) := by unfold atC; rw [if_pos (by omega)]; omega
theorem atR_nat1 {i : Nat} (h : i < 1024) : atR (i : Int) = ((i / 16 : Nat) : Int) := by unfold atR; rw [if_pos (by omega)]; omega
theorem range1024 : List.range 1024 = (List.range 64).flatMap fun m => (List.range 16).map fun x => 16 * m + x := by decide +kernel
theorem cut16 : ∀ a : Nat, a < 16 → ∀ c : Nat, c < 16 → a ≤ c → (List.range 16).filter (fun x => decide (a ≤ x) && decide (x ≤ c)) = (List.range (c - a + 1)).map fun i => a + i := by decide +kernel
theorem cut64 : ∀ b : Nat, b < 64 → ∀ d : Nat, d < 64 → b ≤ d → (List.range 64).filter (fun y => decide (b ≤ y) && decide (y ≤ d)) = (List.range (d - b + 1)).map fun j => b + j := by decide +kernel
theorem flatMap_cong {α β : Type} {l : List α} {f g : α → List β} (h : ∀ x ∈ l, f x = g x) : l.flatMap f = l.flatMap g := by
  induction l with
  | nil => rfl
  | cons x l ih => rw [List.flatMap_cons, List.flatMap_cons, h x (by simp), ih fun y hy => h y (by simp [hy])]
theorem flatMap_cut {α β : Type} (p : α → Bool) (f : α → List β) (l : List α) : (l.flatMap fun x => if p x = true then f x else []) = (l.filter p).flatMap f := by
  induction l with
  | nil => rfl
  | cons x l ih => rw [List.flatMap_cons, List.filter_cons, ih]; by_cases h : p x = true <;> simp [h]
theorem cellsL_eq (a b c d : Int) : cellsL a b c d = gridL a b c d := by
  have hg : ∀ i : Nat, i ∈ List.range 64 → ∀ x : Nat, x ∈ List.range 16 → atC ((16 * i + x : Nat) : Int) = (x : Int) ∧ atR ((16 * i + x : Nat) : Int) = (i : Int) := by
    intro i hi x hx
    have h1 := List.mem_range.1 hi
    have h2 := List.mem_range.1 hx
    rw [atC_nat1 (by omega), atR_nat1 (by omega)]
    omega
  have e : cellsL a b c d = (List.range 64).flatMap fun m : Nat => ((List.range 16).filter fun x : Nat => hasP a b c d (x : Int) (m : Int)).map fun x : Nat => ((x : Int), (m : Int)) := by
    unfold cellsL cellsN
    rw [range1024, List.filter_flatMap, List.map_flatMap]
    refine flatMap_cong fun m hm => ?_
    rw [List.filter_map, List.map_map]
    rw [List.filter_congr (q := fun x : Nat => hasP a b c d (x : Int) (m : Int)) fun x hx => by simp only [Function.comp]; rw [(hg m hm x hx).1, (hg m hm x hx).2]]
    refine List.map_congr_left fun x hx => ?_
    have hx := (List.mem_filter.1 hx).1
    simp only [Function.comp]
    rw [(hg m hm x hx).1, (hg m hm x hx).2]
  rw [e]
  unfold gridL
  split
  · rename_i hw
    obtain ⟨⟨a0, ac, c1⟩, b0, bd, d1⟩ := whole_iff.1 hw
    obtain ⟨a, rfl⟩ := Int.eq_ofNat_of_zero_le a0
    obtain ⟨b, rfl⟩ := Int.eq_ofNat_of_zero_le b0
    obtain ⟨c, rfl⟩ := Int.eq_ofNat_of_zero_le (show 0 ≤ c by omega)
    obtain ⟨d, rfl⟩ := Int.eq_ofNat_of_zero_le (show 0 ≤ d by omega)
    have hr : ∀ m ∈ List.range 64, (((List.range 16).filter fun x : Nat => hasP a b c d (x : Int) (m : Int)).map fun x : Nat => ((x : Int), (m : Int))) = if (decide (b ≤ m) && decide (m ≤ d)) = true then rowN a (m : Int) (c - a + 1) else [] := by
      intro m _
      split
      · rename_i hm
        simp only [Bool.and_eq_true, decide_eq_true_eq] at hm
        rw [List.filter_congr (q := fun x : Nat => decide (a ≤ x) && decide (x ≤ c)) fun x hx => by
          simp only [hasP, withinP, hw, Bool.true_and, Int.ofNat_le, hm, decide_true, Bool.and_true, Int.ofNat_eq_natCast], cut16 a (by omega) c (by omega) (by omega), List.map_map]
        unfold rowN
        exact List.map_congr_left fun i _ => by simp
      · rename_i hm
        rw [List.filter_eq_nil_iff.2, List.map_nil]
        intro x hx
        simp only [Bool.and_eq_true, decide_eq_true_eq] at hm
        simp only [hasP, withinP, Bool.and_eq_true, decide_eq_true_eq]
        omega
    rw [flatMap_cong hr, flatMap_cut, cut64 b (by omega) d (by omega) (by omega), List.flatMap_map]
    unfold gridN
    rw [show ((c : Int) - a + 1).toNat = c - a + 1 by omega, show ((d : Int) - b + 1).toNat = d - b + 1 by omega]
    exact flatMap_cong fun j _ => by simp
  · rename_i hw
    have hw : wholeP a b c d = false := by simpa using hw
    rw [flatMap_cong (g := fun _ => []) fun m _ => by simp [hasP, hw]]
    simp
theorem gridL_len1 (a b c d : Int) : (gridL a b c d).length ≤ 1024 := by
  unfold gridL
  split
  · rename_i hw
    have := whole_iff.1 hw
    rw [gridN_len]
    exact Nat.le_trans (Nat.mul_le_mul (show (d - b + 1).toNat ≤ 64 by omega) (show (c - a + 1).toNat ≤ 16 by omega)) (by decide)
  · simp
end Go.AL
/-! Contracts: gridironref07.At; what a tree comes to. -/
namespace Go.AL
open Go.Proofs
set_option linter.unusedSimpArgs false
set_option linter.unusedVariables false
abbrev Cel := Int × Int × Int × Int
def cel (p : Cel) : AV := .agg [vi p.1, vi p.2.1, vi p.2.2.1, vi p.2.2.2]
def cels (l : List Cel) : List AV := l.map cel
@[simp] theorem cl_cels (l : List Cel) : (∀ c ∈ cels l, Cl c) = True := eq_true fun c hc => by
  obtain ⟨p, _, rfl⟩ := List.mem_map.1 hc
  exact .agg _ (by simp)
theorem cels_len (l : List Cel) : (cels l).length = l.length := List.length_map _
theorem cels_get {l : List Cel} {i : Nat} {a b n f : Int} (h : l[i]? = some (a, b, n, f)) : (cels l)[i]? = some (.agg [vi a, vi b, vi n, vi f]) := by rw [cels, List.getElem?_map, h]; rfl
/-- A value, as it goes on. -/
def cleanV (n f : Int) : Int × Int := if f = 0 then (n, 0) else (0, f)
/-- The value at a place: the first one. -/
def atE : List Cel → Int → Int → Option (Int × Int)
  | [], _, _ => none
  | (a, b, n, f) :: l, x, y => if a = x ∧ b = y then some (cleanV n f) else atE l x y
theorem atE_in (x y : Int) : ∀ (l : List Cel), (∀ p ∈ l, In64 p.2.2.1) → ∀ v, atE l x y = some v → In64 v.1
  | [], _, v, h => by cases h
  | (a, b, n, f) :: l, hl, v, h => by
    rw [atE] at h
    split at h
    · obtain rfl := Option.some.inj h
      unfold cleanV
      split
      · exact hl _ List.mem_cons_self
      · unfold In64; simp
    · exact atE_in x y l (fun p hp => hl p (List.mem_cons_of_mem _ hp)) v h
def atR7 (o : Option (Int × Int)) : AV := .tup [value (o.getD (0, 0)).1 (o.getD (0, 0)).2, vb o.isSome]
set_option maxHeartbeats 4000000 in
set_option maxRecDepth 100000 in
theorem rat7_ok (l : List Cel) (hl : (l.length : Int) ≤ 9223372036854775807) (x y : Int) : APure Tryz.prog 26 [.vsl (cels l), place x y] (atR7 (atE l x y)) := by
  have hvl := cels_len l
  unfold atR7
  refine apure_in Tryz.func26 Tryz.ntmps26 rfl ?_
  repeat' first | refine aw_W [4] @hvl trivial ?_ | refine aw_cond rfl (fun h => ?_) (fun h => ?_)
  refine aw_loopW [0, 3, 4, 6] (fun q fr σ => ∃ i N b : Nat, i + q = l.length ∧ atE l x y = atE (l.drop i) x y ∧ b < N ∧ σ = mkSt [(b, [vi 0, vi 0])] [] N ∧ fr = frm 40 [(0, .vsl (cels l)), (3, .vel [place x y] 0 0), (4, .ptr b 0), (6, vi (i : Nat))]) l.length ?_ ?_
  · exact ⟨_, le_mkSt (bs := [(0, [vi 0, vi 0])]) (ss := []) (n := 1) (by simp) (by simp) (by simp), 0, 1, 0, by omega, rfl, by omega, rfl, by simp [hvl]⟩
  · rintro q fr σ ⟨i, N, b, hi, hat, hbN, rfl, rfl⟩
    simp -implicitDefEqProofs
    by_cases hlt : i < l.length
    · have hlti : (i : Int) < l.length := by omega
      obtain ⟨⟨a, c, n, f⟩, hw⟩ : ∃ w, l[i]? = some w := ⟨_, List.getElem?_eq_getElem hlt⟩
      have hg := cels_get hw
      have hla : i < (cels l).length := by omega
      have wi : IntKind.i64.wrap ((i : Int) + 1) = (i : Int) + 1 := wrap_id (by omega) (by omega)
      have hcons : l.drop i = (a, c, n, f) :: l.drop (i + 1) := by
        rw [List.drop_eq_getElem_cons hlt]
        congr 1
        rw [List.getElem?_eq_getElem hlt] at hw
        exact Option.some.inj hw
      rw [hcons, atE] at hat
      repeat' first | refine aw_W [4] (And.intro @hlti (And.intro @hvl (And.intro @hla (And.intro @hg @wi)))) trivial ?_ | refine aw_cond rfl (fun h => ?_) (fun h => ?_)
      · rename_i h1
        have h1' : a = x ∧ c = y := by simpa using h1
        have h' : ¬ f = 0 := by simpa using h
        rw [if_pos h1'] at hat
        rw [hat]
        simp [tupOf, cleanV, h']
      · rename_i h1
        have h1' : a = x ∧ c = y := by simpa using h1
        have h' : f = 0 := by simpa using h
        rw [if_pos h1'] at hat
        rw [hat]
        simp [tupOf, cleanV, h']
      · rw [if_neg (by simpa using h)] at hat
        exact ⟨q - 1, by omega, _, le_mkSt (bs := [(b, [vi 0, vi 0])]) (ss := []) (n := N) (by simp) (by simp) (by simp), i + 1, by omega, hat, N, b, hbN, rfl, rfl, by omega⟩
    · have hlti : ¬ (i : Int) < l.length := by omega
      rw [List.drop_eq_nil_of_le (by omega), atE] at hat
      rw [hat]
      repeat' first | refine aw_W [4] (And.intro @hlti @hvl) trivial ?_ | refine aw_cond rfl (fun h => ?_) (fun h => ?_)
      all_goals first | (simp [tupOf]; done) | trace_state
/-! ### what a tree comes to -/
def cellsT (t : Tree) : List (Int × Int) := match t with | .mk _ _ a b c d _ _ => gridL a b c d
def callE (w : ByteArray) (bad : Bool) (vs its : List (Int × Int)) : Int × Int :=
  if w = ⟨#[73, 70]⟩ then (if (vs.headD (0, 0)).2 ≠ 0 then vs.headD (0, 0) else if (vs.headD (0, 0)).1 ≠ 0 then vs.tail.headD (0, 0) else vs.tail.tail.headD (0, 0))
  else if w = ⟨#[83, 85, 77]⟩ then sumL its
  else if w = ⟨#[77, 73, 78]⟩ then lowL its
  else if w = ⟨#[77, 65, 88]⟩ then highL its
  else if bad = true then (0, 3) else ((its.length : Int), 0)
mutual
def evT (f : Int → Int → Option (Int × Int)) : Tree → Int × Int
  | .mk k n a b c d w ks =>
    if k = 0 then (n, 0)
    else if k = 1 then (f a b).getD (0, 0)
    else if k = 3 then (negN ((evTs f ks).headD (0, 0)).1 ((evTs f ks).headD (0, 0)).2, negFv ((evTs f ks).headD (0, 0)).1 ((evTs f ks).headD (0, 0)).2)
    else if k = 4 then (doN (doK w) ((evTs f ks).headD (0, 0)).1 ((evTs f ks).headD (0, 0)).2 ((evTs f ks).tail.headD (0, 0)).1 ((evTs f ks).tail.headD (0, 0)).2, doF (doK w) ((evTs f ks).headD (0, 0)).1 ((evTs f ks).headD (0, 0)).2 ((evTs f ks).tail.headD (0, 0)).1 ((evTs f ks).tail.headD (0, 0)).2)
    else if k = 5 then callE w (ks.any fun u => decide (u.kind = 2)) (evTs f ks) (itS f ks)
    else (0, 3)
def evTs (f : Int → Int → Option (Int × Int)) : List Tree → List (Int × Int)
  | [] => []
  | t :: ts => evT f t :: evTs f ts
def itS (f : Int → Int → Option (Int × Int)) : List Tree → List (Int × Int)
  | [] => []
  | t :: ts => (if t.kind = 6 then (cellsT t).filterMap (fun p => f p.1 p.2) else [evT f t]) ++ itS f ts
end
def itT (f : Int → Int → Option (Int × Int)) (t : Tree) : List (Int × Int) := if t.kind = 6 then (cellsT t).filterMap (fun p => f p.1 p.2) else [evT f t]
theorem itS_flat (f : Int → Int → Option (Int × Int)) : ∀ l, itS f l = l.flatMap (itT f)
  | [] => rfl
  | t :: ts => by rw [itS, itS_flat f ts]; rfl
theorem itT_len (f : Int → Int → Option (Int × Int)) (t : Tree) : (itT f t).length ≤ 1024 := by
  unfold itT
  split
  · refine Nat.le_trans (List.length_filterMap_le _ _) ?_
    obtain ⟨k, n, a, b, c, d, w, ks⟩ := t
    exact gridL_len1 a b c d
  · simp
theorem itS_len (f : Int → Int → Option (Int × Int)) : ∀ l, (itS f l).length ≤ 1024 * l.length
  | [] => by simp [itS]
  | t :: ts => by
    have h1 := itS_len f ts
    have h2 := itT_len f t
    have e : itS f (t :: ts) = itT f t ++ itS f ts := rfl
    rw [e, List.length_append, List.length_cons]
    omega
theorem in_zero : In64 0 := by unfold In64; simp
theorem z_in {b : Bool} {c : Int} (h : b = true → In64 c) : In64 (z b c) := by
  unfold z
  split
  · rename_i hb; exact h hb
  · exact in_zero
theorem zi_in (c : Int) : In64 (z (inI c) c) := z_in fun h => inI_iff.1 h
theorem one_in (b : Bool) : In64 (z b 1) := z_in fun _ => by unfold In64; simp
theorem do_in (k : Nat) (a fa b fb : Int) : In64 (doN k a fa b fb) := by
  unfold doN numK
  split
  · exact in_zero
  · repeat' split
    all_goals first | exact in_zero | exact zi_in _ | exact one_in _
theorem neg_in (a fa : Int) : In64 (negN a fa) := by
  unfold negN z
  split
  · split
    · rename_i h; exact inI_iff.1 h
    · exact in_zero
  · exact in_zero
end Go.AL
/-! Contracts: gridironref07.items. -/
namespace Go.AL
open Go.Proofs
set_option linter.unusedSimpArgs false
set_option linter.unusedVariables false
theorem itS_append (f : Int → Int → Option (Int × Int)) (l m : List Tree) : itS f (l ++ m) = itS f l ++ itS f m := by simp [itS_flat]
theorem itS_take {f : Int → Int → Option (Int × Int)} {ks : List Tree} {i : Nat} {t : Tree} (h : ks[i]? = some t) : itS f (ks.take (i + 1)) = itS f (ks.take i) ++ itT f t := by
  rw [List.take_add_one, h, itS_append]; simp [itS_flat]
theorem fm_take {g : Int × Int → Option (Int × Int)} {C : List (Int × Int)} {j : Nat} {p : Int × Int} (h : C[j]? = some p) : (C.take (j + 1)).filterMap g = (C.take j).filterMap g ++ (g p).toList := by
  rw [List.take_add_one, h, List.filterMap_append]
  cases hg : g p <;> simp [hg]
theorem vls_okv (l : List (Int × Int)) : ∀ y ∈ l.map vl, y.cells.length = 2 := fun y hy => by
  obtain ⟨p, _, rfl⟩ := List.mem_map.1 hy
  rfl
theorem fm_len (g : Int × Int → Option (Int × Int)) (C : List (Int × Int)) (h : C.length ≤ 1024) (j : Nat) : ((C.take j).filterMap g).length ≤ 1024 :=
  Nat.le_trans (List.length_filterMap_le _ _) (by simp; omega)
@[simp] theorem cl_pl3 (l : List (Int × Int)) : (∀ c ∈ l.map pl, Cl c) = True := eq_true fun c hc => by
  obtain ⟨p, _, rfl⟩ := List.mem_map.1 hc
  exact .agg _ (by simp)
@[simp] theorem cl_pl4 (l : List (Int × Int)) : (∀ (c : AV) (x y : Int), (x, y) ∈ l → pl (x, y) = c → Cl c) = True := eq_true fun c x y _ h => by
  rw [← h]; exact .agg _ (by simp)
set_option maxHeartbeats 16000000 in
set_option maxRecDepth 100000 in
theorem ritems7_ok (l : List Cel) (hll : (l.length : Int) ≤ 9223372036854775807) (ks : List Tree) (hlk : ks.length ≤ 1000000)
    (hk : ∀ t ∈ ks, t.kind ≠ 6 → APure Tryz.prog 15 [t.av, .vsl (cels l)] (vl (evT (atE l) t))) :
    APure Tryz.prog 51 [.vsl (avs ks), .vsl (cels l)] (.vsl ((itS (atE l) ks).map vl)) := by
  have hl := avs_len ks
  have hat := rat7_ok l hll
  refine apure_in Tryz.func51 Tryz.ntmps51 rfl ?_
  repeat' first | refine aw_N [9] @hl trivial ?_ | refine aw_cond rfl (fun h => ?_) (fun h => ?_)
  refine aw_open (i := 5) rfl ?_
  refine aw_loopW [0, 1, 5, 6] (fun q fr σ => ∃ k' m i : Nat, i + q = ks.length ∧ k' < m ∧ σ = mkSt [] [(k', (itS (atE l) (ks.take i)).map vl)] m ∧ fr = frm 59 [(0, .vsl (avs ks)), (1, .vsl (cels l)), (5, .hsl k' 0 (itS (atE l) (ks.take i)).length), (6, vi (i : Nat))]) ks.length ?_ ?_
  · refine ⟨_, le_mkSt (bs := []) (ss := [(0, [])]) (n := 1) (by simp) (by simp) (by decide), 0, 1, 0, by omega, by decide, by simp [itS], ?_⟩
    simp [σ0, itS]
  · rintro q fr σ ⟨k', m, i, hi, hkm, rfl, rfl⟩
    simp -implicitDefEqProofs
    by_cases hlt : i < ks.length
    · have hlti : (i : Int) < ks.length := by omega
      obtain ⟨t, ht⟩ : ∃ t, ks[i]? = some t := ⟨_, List.getElem?_eq_getElem hlt⟩
      have hmem : t ∈ ks := List.mem_of_getElem? ht
      have hg := avs_get hlt
      rw [show ks[i] = t by rw [List.getElem?_eq_getElem hlt] at ht; exact Option.some.inj ht] at hg
      have hla : i < (avs ks).length := by omega
      have wi : IntKind.i64.wrap ((i : Int) + 1) = (i : Int) + 1 := wrap_id (by omega) (by omega)
      have hnx := itS_take (f := atE l) ht
      have hlen : (itS (atE l) (ks.take i)).length ≤ 1024 * 1000000 := by
        have := itS_len (atE l) (ks.take i)
        rw [List.length_take] at this
        have h2 : min i ks.length ≤ 1000000 := by omega
        exact Nat.le_trans this (Nat.mul_le_mul_left _ h2)
      have hP := vls_okv (itS (atE l) (ks.take i))
      have hPl : ((itS (atE l) (ks.take i)).map vl).length = (itS (atE l) (ks.take i)).length := List.length_map _
      generalize itS (atE l) (ks.take i) = P at *
      by_cases h6 : t.kind = 6
      · obtain ⟨tk, tn, ta, tb, tc, td, tw, tks⟩ := t
        simp only [Tree.kind] at h6
        subst h6
        rw [Tree.av] at hg
        have hcl := rcells_ok ta tb tc td
        rw [cellsL_eq] at hcl
        have hC := gridL_len1 ta tb tc td
        have hcT : itT (atE l) (.mk 6 tn ta tb tc td tw tks) = (gridL ta tb tc td).filterMap fun p => atE l p.1 p.2 := by simp [itT, cellsT]
        rw [hcT] at hnx
        generalize gridL ta tb tc td = C at *
        have hCm : (C.map pl).length = C.length := List.length_map _
        repeat' first | refine aw_N [9] (And.intro @hlti (And.intro @hl (And.intro @hla (And.intro @hg @hCm)))) (And.intro @hcl trivial) ?_ | refine aw_cond rfl (fun h => ?_) (fun h => ?_)
        refine aw_loopW [0, 1, 5, 6, 7, 8] (fun n fr σ => ∃ k2 m2 j : Nat, j + n = C.length ∧ k2 < m2 ∧ σ = mkSt [] [(k2, (P ++ (C.take j).filterMap fun p => atE l p.1 p.2).map vl)] m2 ∧ fr = frm 59 [(0, .vsl (avs ks)), (1, .vsl (cels l)), (5, .hsl k2 0 (P ++ (C.take j).filterMap fun p => atE l p.1 p.2).length), (6, vi (i : Nat)), (7, .vsl (C.map pl)), (8, vi (j : Nat))]) C.length ?_ ?_
        · refine ⟨_, le_mkSt (bs := []) (ss := [(k', P.map vl)]) (n := m) (by simp) (by simp) (by simp), k', m, 0, by omega, hkm, by simp, ?_⟩
          simp
        · rintro n fr σ ⟨k2, m2, j, hj, hkm2, rfl, rfl⟩
          simp -implicitDefEqProofs
          have hfl := fm_len (fun p => atE l p.1 p.2) C hC j
          by_cases hlt2 : j < C.length
          · have hltj : (j : Int) < C.length := by omega
            obtain ⟨⟨x, y⟩, hp⟩ : ∃ p, C[j]? = some p := ⟨_, List.getElem?_eq_getElem hlt2⟩
            have hgp : (C.map pl)[j]? = some (.agg [vi x, vi y]) := by rw [List.getElem?_map, hp]; rfl
            have wj : IntKind.i64.wrap ((j : Int) + 1) = (j : Int) + 1 := wrap_id (by omega) (by omega)
            have hnj := fm_take (g := fun p => atE l p.1 p.2) hp
            have hQ := vls_okv (P ++ (C.take j).filterMap fun p => atE l p.1 p.2)
            have hQl : ((P ++ (C.take j).filterMap fun p => atE l p.1 p.2).map vl).length = P.length + ((C.take j).filterMap fun p => atE l p.1 p.2).length := by simp
            have hcat := hat x y
            simp only at hnj
            generalize ((C.take j).filterMap fun p => atE l p.1 p.2) = R at *
            generalize atE l x y = o at *
            cases o with
            | none =>
              simp only [atR7, Option.getD, Option.isSome] at hcat
              repeat' first | refine aw_N [9] (And.intro @hltj (And.intro @hCm (And.intro @hgp (And.intro @hp @wj)))) (And.intro @hcat trivial) ?_ | refine aw_cond rfl (fun h => ?_) (fun h => ?_)
              refine ⟨n - 1, by omega, _, le_mkSt (bs := []) (ss := [(k2, P.map vl ++ R.map vl)]) (n := m2 + 1) (by simp) (by simp) (by simp), k2, m2 + 1, j + 1, by omega, by omega, ?_, ?_, by omega⟩
              · rw [hnj]; simp
              · rw [hnj]; simp
            | some v =>
              obtain ⟨vn, vfl⟩ := v
              simp only [atR7, Option.getD, Option.isSome] at hcat
              repeat' first | refine aw_N [9] (And.intro @hltj (And.intro @hCm (And.intro @hgp (And.intro @hp @wj)))) (And.intro @hcat trivial) ?_ | refine aw_cond rfl (fun h => ?_) (fun h => ?_)
              refine awl_append [9] rfl rfl rfl (xs := (P ++ R).map vl) (by simp) (by simp) rfl (by simp) te87 tet87 tz35 rfl hQ (by simp) (by simp; omega) (by simp; omega) ?_
              simp -implicitDefEqProofs
              repeat' first | refine aw_N [9] @wj trivial ?_ | refine aw_cond rfl (fun h => ?_) (fun h => ?_)
              refine ⟨n - 1, by omega, _, le_mkSt (bs := []) (ss := [(m2 + 1, ((P ++ R).map vl).take (P.length + R.length) ++ [value vn vfl])]) (n := m2 + 2) (by simp) (by simp) (by simp), m2 + 1, m2 + 2, j + 1, by omega, by omega, ?_, ?_, by omega⟩
              · rw [hnj, List.take_of_length_le (by omega)]; simp [vl]
              · rw [hnj]; simp; omega
          · have hltj : ¬ (j : Int) < C.length := by omega
            rw [List.take_of_length_le (by omega)]
            repeat' first | refine aw_N [9] (And.intro @hltj (And.intro @hCm @wi)) trivial ?_ | refine aw_cond rfl (fun h => ?_) (fun h => ?_)
            refine ⟨q - 1, by omega, _, le_mkSt (bs := []) (ss := [(k2, P.map vl ++ (C.filterMap fun p => atE l p.1 p.2).map vl)]) (n := m2) (by simp) (by simp) (by simp), k2, m2, i + 1, by omega, hkm2, ?_, ⟨rfl, ?_⟩, by omega⟩
            · rw [hnx]; simp
            · rw [hnx]; simp
      · have hc := hk t hmem h6
        have hcT : itT (atE l) t = [evT (atE l) t] := if_neg h6
        rw [hcT] at hnx
        generalize evT (atE l) t = e at *
        obtain ⟨tk, tn, ta, tb, tc, td, tw, tks⟩ := t
        simp only [Tree.kind] at h6
        rw [Tree.av] at hc hg
        obtain ⟨en, ef⟩ := e
        simp only [vl] at hc
        repeat' first | refine aw_N [9] (And.intro @hlti (And.intro @hl (And.intro @hla (And.intro @hg @h6)))) (And.intro @hc trivial) ?_ | refine aw_cond rfl (fun h => ?_) (fun h => ?_)
        refine awl_append [9] rfl rfl rfl (xs := P.map vl) (by simp) (by simp) rfl (by simp) te87 tet87 tz35 rfl hP (by simp) (by simp; omega) (by simp; omega) ?_
        simp -implicitDefEqProofs
        repeat' first | refine aw_N [9] @wi trivial ?_ | refine aw_cond rfl (fun h => ?_) (fun h => ?_)
        refine ⟨q - 1, by omega, _, le_mkSt (bs := []) (ss := [(m, (P.map vl).take P.length ++ [value en ef])]) (n := m + 1) (by simp) (by simp) (by simp), m, m + 1, i + 1, by omega, by omega, ?_, ⟨rfl, ?_⟩, by omega⟩
        · rw [hnx, List.take_of_length_le (by simp)]; simp [vl]
        · rw [hnx]; simp
    · have hlti : ¬ (i : Int) < ks.length := by omega
      rw [List.take_of_length_le (by omega)]
      refine aw_freeze (b := k') (xs := (itS (atE l) ks).map vl) (by simp) ?_
      simp -implicitDefEqProofs [frz, frz1, frz0]
      repeat' first | refine aw_N [9] (And.intro @hlti @hl) trivial ?_ | refine aw_cond rfl (fun h => ?_) (fun h => ?_)
      simp [tupOf, List.take_of_length_le]
end Go.AL
/-! Contracts: eval's sheet, clean, items. -/
namespace Go.AL
open Go.Proofs
set_option linter.unusedSimpArgs false
set_option linter.unusedVariables false
set_option maxRecDepth 100000 in
theorem seT : tmapS Tryz.prog 48 = some (24, 35) := by kernel_rfl
set_option maxRecDepth 100000 in
theorem seK (x y : Int) : keyok Tryz.prog 24 [vi x, vi y] = true := by simp [keyok]
set_option maxRecDepth 100000 in
theorem seE (x y a b : Int) : aeqF Tryz.prog 5 24 (.agg [vi x, vi y]) (.agg [vi a, vi b]) = some (decide (x = a) && decide (y = b)) := by simp
def eky (p : Cel) : AV := .agg [vi p.1, vi p.2.1]
def evl (p : Cel) : AV := .agg [vi p.2.2.1, vi p.2.2.2]
def ekys (l : List Cel) : List AV := l.map eky
def ekvs (l : List Cel) : List AV := l.map evl
/-- The sheet that has these. -/
def sev (l : List Cel) : AV := .vmp (ekys l) (ekvs l)
@[simp] theorem cl_ekys (l : List Cel) : (∀ c ∈ ekys l, Cl c) = True := eq_true fun c hc => by
  obtain ⟨p, _, rfl⟩ := List.mem_map.1 hc
  exact .agg _ (by simp)
@[simp] theorem cl_ekvs (l : List Cel) : (∀ c ∈ ekvs l, Cl c) = True := eq_true fun c hc => by
  obtain ⟨p, _, rfl⟩ := List.mem_map.1 hc
  exact .agg _ (by simp)
@[simp] theorem cl_sev (l : List Cel) : Cl (sev l) = True := eq_true (.vmp _ _ (of_eq_true (cl_ekys l)) (of_eq_true (cl_ekvs l)))
@[simp] theorem cl_sev' (l : List Cel) : Cl (.vmp (ekys l) (ekvs l)) = True := cl_sev l
def ixC : List Cel → Int → Int → Nat → Option Nat
  | [], _, _, _ => none
  | (a, b, _, _) :: l, x, y, i => if x = a ∧ y = b then some i else ixC l x y (i + 1)
def gotC : List Cel → Int → Int → Option (Int × Int)
  | [], _, _ => none
  | (a, b, n, f) :: l, x, y => if x = a ∧ y = b then some (n, f) else gotC l x y
theorem seF (x y : Int) : ∀ (l : List Cel) (i : Nat), vfind Tryz.prog 24 (.agg [vi x, vi y]) (ekys l) i = some (ixC l x y i)
  | [], i => rfl
  | (a, b, n, f) :: l, i => by
    have ih := seF x y l (i + 1)
    have e : ekys ((a, b, n, f) :: l) = .agg [vi a, vi b] :: ekys l := rfl
    rw [e, vfind, seE, ixC]
    by_cases h : x = a ∧ y = b
    · rw [if_pos h]; simp [h.1, h.2]
    · rw [if_neg h, show (decide (x = a) && decide (y = b)) = false by simpa using h]
      exact ih
theorem seI (x y : Int) : ∀ (l : List Cel) (i : Nat), match ixC l x y i with
    | none => gotC l x y = none
    | some j => i ≤ j ∧ ∃ v, gotC l x y = some v ∧ (ekvs l)[j - i]? = some (.agg [vi v.1, vi v.2])
  | [], i => rfl
  | (a, b, n, f) :: l, i => by
    have ih := seI x y l (i + 1)
    rw [ixC, gotC]
    by_cases h : x = a ∧ y = b
    · rw [if_pos h, if_pos h]
      exact ⟨Nat.le_refl _, _, rfl, by simp [ekvs, evl]⟩
    · rw [if_neg h, if_neg h]
      cases hq : ixC l x y (i + 1) with
      | none => rw [hq] at ih; exact ih
      | some j =>
        rw [hq] at ih
        obtain ⟨h1, v, h2, h3⟩ := ih
        refine ⟨by omega, v, h2, ?_⟩
        rw [show j - i = (j - (i + 1)) + 1 by omega]
        exact h3
theorem seS (l : List Cel) (x y : Int) : (ixC l x y 0).isSome = (gotC l x y).isSome := by
  have := seI x y l 0
  cases hq : ixC l x y 0 with
  | none => rw [hq] at this; simp only at this; rw [this]; rfl
  | some j => rw [hq] at this; obtain ⟨_, v, hv, _⟩ := this; rw [hv]; rfl
theorem seG (l : List Cel) (x y : Int) : vgot Tryz.prog 35 (ekvs l) (ixC l x y 0) (.agg [vi ((gotC l x y).getD (0, 0)).1, vi ((gotC l x y).getD (0, 0)).2]) := by
  have := seI x y l 0
  unfold vgot
  cases hq : ixC l x y 0 with
  | none => rw [hq] at this; simp only at this ⊢; rw [this]; exact tz35
  | some j =>
    rw [hq] at this
    obtain ⟨_, v, hv, h3⟩ := this
    simp only
    rw [hv]
    exact h3
/-- What a sheet has at a place. -/
def gotF (l : List Cel) (x y : Int) : Option (Int × Int) := (gotC l x y).map fun v => cleanV v.1 v.2
theorem gotF_in {l : List Cel} (hl : ∀ p ∈ l, In64 p.2.2.1) (x y : Int) (v : Int × Int) (h : gotF l x y = some v) : In64 v.1 := by
  unfold gotF at h
  obtain ⟨u, hu, rfl⟩ := Option.map_eq_some_iff.1 h
  have : ∀ l : List Cel, (∀ p ∈ l, In64 p.2.2.1) → gotC l x y = some u → In64 u.1 := by
    intro l
    induction l with
    | nil => intro _ h; cases h
    | cons p l ih =>
      intro hl h
      obtain ⟨a, b, n, f⟩ := p
      rw [gotC] at h
      split at h
      · obtain rfl := Option.some.inj h
        exact hl _ List.mem_cons_self
      · exact ih (fun p hp => hl p (List.mem_cons_of_mem _ hp)) h
  have := this l hl hu
  unfold cleanV
  split
  · exact this
  · exact in_zero
set_option maxHeartbeats 4000000 in
set_option maxRecDepth 100000 in
theorem eclean_ok (n f : Int) : APure Tryz.prog 21 [value n f] (vl (cleanV n f)) := by
  unfold cleanV
  refine apure_in Tryz.func21 Tryz.ntmps21 rfl ?_
  repeat' first | refine aw_N [2] trivial trivial ?_ | refine aw_cond rfl (fun h => ?_) (fun h => ?_)
  all_goals simp_all [tupOf, vl]
set_option maxHeartbeats 4000000 in
set_option maxRecDepth 100000 in
theorem ebad_ok : APure Tryz.prog 12 [] (value 0 3) := by
  refine apure_in Tryz.func12 Tryz.ntmps12 rfl ?_
  repeat' first | refine aw_N [0] trivial trivial ?_ | refine aw_cond rfl (fun h => ?_) (fun h => ?_)
  all_goals simp [tupOf]
set_option maxHeartbeats 16000000 in
set_option maxRecDepth 100000 in
theorem eitems_ok (L : List Cel) (ks : List Tree) (hlk : ks.length ≤ 1000000)
    (hk : ∀ t ∈ ks, t.kind ≠ 6 → APure Tryz.prog 13 [sev L, t.av] (vl (evT (gotF L) t))) :
    APure Tryz.prog 78 [sev L, .vsl (avs ks)] (.vsl ((itS (gotF L) ks).map vl)) := by
  have hl := avs_len ks
  refine apure_in Tryz.func78 Tryz.ntmps78 rfl ?_
  repeat' first | refine aw_N [7, 9, 10] @hl trivial ?_ | refine aw_cond rfl (fun h => ?_) (fun h => ?_)
  refine aw_open (i := 5) rfl ?_
  refine aw_loopW [0, 5, 12, 13, 14] (fun q fr σ => ∃ k' m i : Nat, i + q = ks.length ∧ k' < m ∧ σ = mkSt [] [(k', (itS (gotF L) (ks.take i)).map vl)] m ∧ fr = frm 50 [(0, sev L), (5, .hsl k' 0 (itS (gotF L) (ks.take i)).length), (12, .vsl (avs ks)), (13, vi ks.length), (14, vi (i : Nat))]) ks.length ?_ ?_
  · refine ⟨_, le_mkSt (bs := []) (ss := [(0, [])]) (n := 1) (by simp) (by simp) (by decide), 0, 1, 0, by omega, by decide, by simp [itS], ?_⟩
    simp [σ0, itS, hl]
  · rintro q fr σ ⟨k', m, i, hi, hkm, rfl, rfl⟩
    simp -implicitDefEqProofs
    by_cases hlt : i < ks.length
    · have hlti : (i : Int) < ks.length := by omega
      obtain ⟨t, ht⟩ : ∃ t, ks[i]? = some t := ⟨_, List.getElem?_eq_getElem hlt⟩
      have hmem : t ∈ ks := List.mem_of_getElem? ht
      have hg := avs_get hlt
      rw [show ks[i] = t by rw [List.getElem?_eq_getElem hlt] at ht; exact Option.some.inj ht] at hg
      have hla : i < (avs ks).length := by omega
      have wi : IntKind.i64.wrap ((i : Int) + 1) = (i : Int) + 1 := wrap_id (by omega) (by omega)
      have hnx := itS_take (f := gotF L) ht
      have hlen : (itS (gotF L) (ks.take i)).length ≤ 1024 * 1000000 := by
        have := itS_len (gotF L) (ks.take i)
        rw [List.length_take] at this
        have h2 : min i ks.length ≤ 1000000 := by omega
        exact Nat.le_trans this (Nat.mul_le_mul_left _ h2)
      have hP := vls_okv (itS (gotF L) (ks.take i))
      have hPl : ((itS (gotF L) (ks.take i)).map vl).length = (itS (gotF L) (ks.take i)).length := List.length_map _
      generalize itS (gotF L) (ks.take i) = P at *
      by_cases h6 : t.kind = 6
      · obtain ⟨tk, tn, ta, tb, tc, td, tw, tks⟩ := t
        simp only [Tree.kind] at h6
        subst h6
        rw [Tree.av] at hg
        have hcl := cells_ok ta tb tc td
        have hC := gridL_len1 ta tb tc td
        have hcT : itT (gotF L) (.mk 6 tn ta tb tc td tw tks) = (gridL ta tb tc td).filterMap fun p => gotF L p.1 p.2 := by simp [itT, cellsT]
        rw [hcT] at hnx
        generalize gridL ta tb tc td = C at *
        have hCm : (C.map pl).length = C.length := List.length_map _
        repeat' first | refine aw_N [7, 9, 10] (And.intro @hlti (And.intro @hl (And.intro @hla (And.intro @hg @hCm)))) (And.intro @hcl trivial) ?_ | refine aw_cond rfl (fun h => ?_) (fun h => ?_)
        refine aw_loopW [0, 5, 12, 13, 14, 29, 30, 31] (fun n fr σ => ∃ k2 m2 j : Nat, j + n = C.length ∧ k2 < m2 ∧ σ = mkSt [] [(k2, (P ++ (C.take j).filterMap fun p => gotF L p.1 p.2).map vl)] m2 ∧ fr = frm 50 [(0, sev L), (5, .hsl k2 0 (P ++ (C.take j).filterMap fun p => gotF L p.1 p.2).length), (12, .vsl (avs ks)), (13, vi ks.length), (14, vi (i : Nat)), (29, .vsl (C.map pl)), (30, vi C.length), (31, vi (j : Nat))]) C.length ?_ ?_
        · refine ⟨_, le_mkSt (bs := []) (ss := [(k', P.map vl)]) (n := m + 1) (by simp) (by simp) (by simp), k', m + 1, 0, by omega, by omega, by simp, ?_⟩
          simp [hCm]
        · rintro n fr σ ⟨k2, m2, j, hj, hkm2, rfl, rfl⟩
          simp -implicitDefEqProofs
          have hfl := fm_len (fun p => gotF L p.1 p.2) C hC j
          by_cases hlt2 : j < C.length
          · have hltj : (j : Int) < C.length := by omega
            obtain ⟨⟨x, y⟩, hp⟩ : ∃ p, C[j]? = some p := ⟨_, List.getElem?_eq_getElem hlt2⟩
            have hgp : (C.map pl)[j]? = some (.agg [vi x, vi y]) := by rw [List.getElem?_map, hp]; rfl
            have wj : IntKind.i64.wrap ((j : Int) + 1) = (j : Int) + 1 := wrap_id (by omega) (by omega)
            have hnj := fm_take (g := fun p => gotF L p.1 p.2) hp
            have hQ := vls_okv (P ++ (C.take j).filterMap fun p => gotF L p.1 p.2)
            have hQl : ((P ++ (C.take j).filterMap fun p => gotF L p.1 p.2).map vl).length = P.length + ((C.take j).filterMap fun p => gotF L p.1 p.2).length := by simp
            have hlook := seG L x y
            have hsome := seS L x y
            have hgf : gotF L x y = (gotC L x y).map fun v => cleanV v.1 v.2 := rfl
            simp only at hnj
            generalize ((C.take j).filterMap fun p => gotF L p.1 p.2) = R at *
            generalize gotC L x y = o at *
            rw [hgf] at hnj
            repeat' first | refine aw_N [7, 9, 10] (And.intro @hltj (And.intro @hCm (And.intro @hgp (And.intro @hp @wj)))) trivial ?_ | refine aw_cond rfl (fun h => ?_) (fun h => ?_)
            refine awl_lookupV [7, 9, 10] rfl rfl seT rfl rfl (seK _ _) (seF _ _ _ _) hlook ?_
            cases o with
            | none =>
              simp only [Option.isSome, Option.getD] at hsome ⊢
              simp -implicitDefEqProofs
              repeat' first | refine aw_N [7, 9, 10] (And.intro @hltj (And.intro @hCm (And.intro @hgp (And.intro @hp (And.intro @wj @hsome))))) trivial ?_ | refine aw_cond rfl (fun h => ?_) (fun h => ?_)
              refine ⟨n - 1, by omega, _, le_mkSt (bs := []) (ss := [(k2, P.map vl ++ R.map vl)]) (n := m2 + 2) (by simp) (by simp) (by simp), k2, m2 + 2, j + 1, by omega, by omega, ?_, ?_, by omega⟩
              · rw [hnj]; simp
              · rw [hnj]; simp
            | some v =>
              obtain ⟨vn, vfl⟩ := v
              have hcv := eclean_ok vn vfl
              simp only [Option.map] at hnj
              generalize cleanV vn vfl = cv at *
              obtain ⟨cn, cf⟩ := cv
              simp only [vl] at hcv
              simp only [Option.isSome, Option.getD] at hsome ⊢
              simp -implicitDefEqProofs
              repeat' first | refine aw_N [7, 9, 10] (And.intro @hltj (And.intro @hCm (And.intro @hgp (And.intro @hp (And.intro @wj @hsome))))) (And.intro @hcv trivial) ?_ | refine aw_cond rfl (fun h => ?_) (fun h => ?_)
              refine awl_append [7, 9, 10] rfl rfl rfl (xs := (P ++ R).map vl) (by simp) (by simp) rfl (by simp) te87 tet87 tz35 rfl hQ (by simp) (by simp; omega) (by simp; omega) ?_
              simp -implicitDefEqProofs
              repeat' first | refine aw_N [7, 9, 10] @wj trivial ?_ | refine aw_cond rfl (fun h => ?_) (fun h => ?_)
              refine ⟨n - 1, by omega, _, le_mkSt (bs := []) (ss := [(m2 + 2, ((P ++ R).map vl).take (P.length + R.length) ++ [value cn cf])]) (n := m2 + 3) (by simp) (by simp) (by simp), m2 + 2, m2 + 3, j + 1, by omega, by omega, ?_, ?_, by omega⟩
              · rw [hnj, List.take_of_length_le (by omega)]; simp [vl]
              · rw [hnj]; simp; omega
          · have hltj : ¬ (j : Int) < C.length := by omega
            rw [List.take_of_length_le (by omega)]
            repeat' first | refine aw_N [7, 9, 10] (And.intro @hltj (And.intro @hCm @wi)) trivial ?_ | refine aw_cond rfl (fun h => ?_) (fun h => ?_)
            refine ⟨q - 1, by omega, _, le_mkSt (bs := []) (ss := [(k2, P.map vl ++ (C.filterMap fun p => gotF L p.1 p.2).map vl)]) (n := m2) (by simp) (by simp) (by simp), k2, m2, i + 1, by omega, hkm2, ?_, ⟨rfl, ?_⟩, by omega⟩
            · rw [hnx]; simp
            · rw [hnx]; simp
      · have hc := hk t hmem h6
        have hcT : itT (gotF L) t = [evT (gotF L) t] := if_neg h6
        rw [hcT] at hnx
        generalize evT (gotF L) t = e at *
        obtain ⟨tk, tn, ta, tb, tc, td, tw, tks⟩ := t
        simp only [Tree.kind] at h6
        rw [Tree.av] at hc hg
        obtain ⟨en, ef⟩ := e
        simp only [vl] at hc
        repeat' first | refine aw_N [7, 9, 10] (And.intro @hlti (And.intro @hl (And.intro @hla (And.intro @hg @h6)))) (And.intro @hc trivial) ?_ | refine aw_cond rfl (fun h => ?_) (fun h => ?_)
        refine awl_append [7] rfl rfl rfl (xs := P.map vl) (by simp) (by simp) rfl (by simp) te87 tet87 tz35 rfl hP (by simp) (by simp; omega) (by simp; omega) ?_
        simp -implicitDefEqProofs
        repeat' first | refine aw_N [7, 9, 10] @wi trivial ?_ | refine aw_cond rfl (fun h => ?_) (fun h => ?_)
        refine ⟨q - 1, by omega, _, le_mkSt (bs := []) (ss := [(m + 1, (P.map vl).take P.length ++ [value en ef])]) (n := m + 2) (by simp) (by simp) (by simp), m + 1, m + 2, i + 1, by omega, by omega, ?_, ⟨rfl, ?_⟩, by omega⟩
        · rw [hnx, List.take_of_length_le (by simp)]; simp [vl]
        · rw [hnx]; simp
    · have hlti : ¬ (i : Int) < ks.length := by omega
      rw [List.take_of_length_le (by omega)]
      refine aw_freeze (b := k') (xs := (itS (gotF L) ks).map vl) (by simp) ?_
      simp -implicitDefEqProofs [frz, frz1, frz0]
      repeat' first | refine aw_N [7, 9, 10] (And.intro @hlti @hl) trivial ?_ | refine aw_cond rfl (fun h => ?_) (fun h => ?_)
      simp [tupOf, List.take_of_length_le]
end Go.AL
