/- Parts of the proof of LexerBlanks: the logic, contracts, plain laws. -/
import Derived.Test.YtfpjojjgoelckaaDoorZLexerBlanks3
import Derived.Test.YtfpjojjgoelckaaDoorShelf
import Derived.Lib.ItoaLen
import Derived.Sort.Grow
import Derived.Laws.BytesArg
import Derived.Lib.ConvBytes
/-! Contracts: the library's numbers and texts. -/
namespace Go.AL
open Go.Proofs Go.RowKit
set_option linter.unusedSimpArgs false
set_option linter.unusedVariables false
theorem var_keeps {P : Program} {w w1 : World} {n : String} {cs : Array Value} (h : w.var? P n = some cs) (hb : Below w.heap.size w w1) : w1.var? P n = some cs := by
  unfold World.var? at h ⊢
  cases hg : P.globalNamed n with
  | none => rw [hg] at h; exact h
  | some g =>
    rw [hg] at h
    simp only [Option.bind_some] at h ⊢
    have hlt : g < w.heap.size := by
      rcases Nat.lt_or_ge g w.heap.size with hl | hl
      · exact hl
      · rw [Array.getElem?_eq_none hl] at h; simp at h
    rw [hb.block g hlt]
    exact h
theorem Init.below {w w1 : World} (h : Init w) (hb : Below w.heap.size w w1) : Init w1 := by
  obtain ⟨h1, ⟨t2, p2, h2⟩, ⟨t3, p3, h3⟩⟩ := h
  exact ⟨var_keeps h1 hb, ⟨t2, p2, var_keeps h2 hb⟩, ⟨t3, p3, var_keeps h3 hb⟩⟩
open Go.Sort in
theorem below_grow {w : World} (k : Nat) (os : Array Obj) : Below w.heap.size w (grow (w.drewN k) os) := by
  refine ⟨rfl, rfl, rfl, ?_, fun i hi => ?_⟩
  · simp [grow, World.drewN]
  · simp [grow, World.drewN, Array.getElem?_append, hi]
theorem repl_one {G : Ghost} {w : World} {x : Value} {vs : Array Value} (h : RepL G w [.p x] vs.toList) : vs = #[x] := by
  obtain ⟨l⟩ := vs
  obtain ⟨hl, he⟩ := h
  match l, hl with
  | [v], _ =>
    have := he 0 _ _ rfl rfl
    cases this
    rfl
theorem itoa_ok (n : Int) (h0 : -9223372036854775808 ≤ n) (h1 : n ≤ 9223372036854775807) : APure Tryd.prog 63 [vi n] (vs ⟨(Lib.itoa n).toArray⟩) :=
  APure.of_calls fun G w vs hI hv => by
    obtain ⟨w0, hI, hb⟩ := hI
    obtain rfl := repl_one hv
    refine (Tryd.strconv_Itoa n h0 h1 w (hI.below hb).tab).mono fun e w' h => ?_
    obtain ⟨he, k, os, hw⟩ := h
    exact ⟨_, he, hw ▸ below_grow k os, fun _ _ => .p _⟩
/-- Atoi, where there is a number. -/
theorem atoi_ok (s : ByteArray) (hs : s.size ≤ 281474976710656) (v : Int) (hv : Lib.atoiAll s.data.toList = .ok v) : APure Tryd.prog 33 [vs s] (.tup [vi v, .p .nilIface]) :=
  APure.of_calls fun G w vs hI hr => by
    obtain rfl := repl_one hr
    refine (Tryd.strconv_Atoi_ok s (by omega) v hv w).mono fun e w' h => ?_
    obtain ⟨he, h2⟩ := h
    refine ⟨_, he, ?_, fun G' _ => .tup _ _ rfl fun i c v a b => ?_⟩
    · rcases h2 with rfl | ⟨t, rfl⟩
      · exact Below.refl _ _
      · exact Lib.bytesWorld_below _ _ _
    · match i, a, b with
      | 0, a, b => cases a; cases b; exact .p _
      | 1, a, b => cases a; cases b; exact .p _
/-- Atoi, where there is none. -/
theorem atoi_no (s : ByteArray) (hs : s.size ≤ 281474976710656) (hv : ∀ v, Lib.atoiAll s.data.toList ≠ .ok v) : ∃ (v : Int) (t : TypeId), -9223372036854775808 ≤ v ∧ v ≤ 9223372036854775807 ∧ APure Tryd.prog 33 [vs s] (.tup [vi v, .ifc t .any]) := by
  rcases hr : Lib.atoiAll s.data.toList with v | - | -
  · exact absurd hr (hv v)
  · refine ⟨0, 88, by omega, by omega, APure.of_calls fun G w vs hI hv => ?_⟩
    obtain ⟨w0, hI, hb⟩ := hI
    obtain ⟨t3, p3, h3⟩ := (hI.below hb).syn
    obtain rfl := repl_one hv
    refine (Tryd.strconv_Atoi_syntax_var s hs hr t3 p3 w h3).mono fun e w' h => ?_
    obtain ⟨N, he, _, _, hb⟩ := h
    refine ⟨_, he, hb, fun G' _ => .tup _ _ rfl fun i c v a b => ?_⟩
    match i, a, b with
    | 0, a, b => cases a; cases b; exact .p _
    | 1, a, b => cases a; cases b; exact .ifc _ _ _ (.any _)
  · refine ⟨Lib.atoiSat s.data.toList, 88, by unfold Lib.atoiSat; split <;> omega, by unfold Lib.atoiSat; split <;> omega, APure.of_calls fun G w vs hI hv => ?_⟩
    obtain ⟨w0, hI, hb⟩ := hI
    obtain ⟨t3, p3, h3⟩ := (hI.below hb).range
    obtain rfl := repl_one hv
    refine (Tryd.strconv_Atoi_range_var s hs hr t3 p3 w h3).mono fun e w' h => ?_
    obtain ⟨N, he, _, _, hb⟩ := h
    refine ⟨_, he, hb, fun G' _ => .tup _ _ rfl fun i c v a b => ?_⟩
    match i, a, b with
    | 0, a, b => cases a; cases b; exact .p _
    | 1, a, b => cases a; cases b; exact .ifc _ _ _ (.any _)
end Go.AL
