import Derived.Test.YtfpjojjgoelckaaDoorA17
/-! From a contract to the machine's own call. -/
namespace Go.AL
open Go.RowKit (Below)
set_option linter.unusedVariables false
/-- All that was there at first stays. -/
def G0 (w : World) : Ghost := ⟨w.heap.size, fun β _ => β < w.heap.size, fun _ => none, fun _ => none, fun _ => none⟩
theorem repL_nil {G : Ghost} {w : World} : RepL G w [] [] := ⟨rfl, fun i c v h => by cases h⟩
theorem repL_cons {G : Ghost} {w : World} {c : AV} {v : Value} {cs : List AV} {vs : List Value} (h : Rep G w c v) (t : RepL G w cs vs) : RepL G w (c :: cs) (v :: vs) :=
  ⟨by simp [t.1], fun i c' v' a b => by
    cases i with
    | zero => cases a; cases b; exact h
    | succ i => exact t.2 i c' v' a b⟩
theorem rep_agg {G : Ghost} {w : World} {cs : List AV} {vs : List Value} (h : RepL G w cs vs) : Rep G w (.agg cs) (.agg vs.toArray) :=
  .agg cs _ (by simp [h.1]) fun i c v a b => h.2 i c v a (by simpa using b)
theorem simW_G0 {w : World} (hI : Init w) : SimW (G0 w) σ0 w where
  base := ⟨Nat.le_refl _, w, hI, Nat.le_refl _, Below.refl _ _⟩
  bx := fun _ _ e => nomatch e
  mp := fun _ _ e => nomatch e
  sl := fun _ _ e => nomatch e
  own := fun β k ho => by cases ho <;> rename_i e _ <;> cases e
  stIn := fun _ _ h => h
  fresh := fun _ _ => ⟨rfl, rfl, rfl, rfl, rfl, rfl⟩
theorem APure.calls {P : Program} {f : FuncId} {args : List AV} {vs : Array Value} {r : Value} (h : APure P f args (.p r)) {w : World} (hI : Init w) (hv : RepL (G0 w) w args vs.toList) :
    Calls P f vs w fun e w' => e = .returned r ∧ Below w.heap.size w w' := by
  refine Calls.mono (h (G0 w) w vs hv (simW_G0 hI)) fun e w' he => ?_
  cases e with
  | returned v =>
    obtain ⟨r', G1, σ1, hl, _, hr, rfl⟩ := (show Outc (G0 w) w _ v w' from he)
    cases hr
    exact ⟨rfl, hl.below⟩
  | _ => exact he.elim
end Go.AL
