/- Parts of the proof of ShapeBack: the logic, contracts, plain laws. -/
import Derived.Test.YtadahjmamgidnaaZShapeBack9
import Derived.Shelf.Strconv.Itoa3
import Derived.Lib.AtoiAllCases
import Derived.Lib.ItoaLen
import Derived.Laws.BytesArg
import Derived.Deep.Slices
/-! Contracts: gridironref02.Text. -/
namespace Go.AL
open Go.Proofs
set_option linter.unusedSimpArgs false
set_option linter.unusedVariables false
def letters : ByteArray := ⟨#[65, 66, 67, 68, 69, 70, 71, 72, 73, 74, 75, 76, 77, 78, 79, 80]⟩
def textP (c r : Int) : ByteArray := if rightP c r = true then letters.extract c.toNat (c.toNat + 1) ++ textI (r + 1) else ⟨#[]⟩
theorem rightP_iff' {c r : Int} : rightP c r = true ↔ 0 ≤ c ∧ c < 16 ∧ 0 ≤ r ∧ r < 64 := by simp [rightP, and_assoc]
set_option maxRecDepth 100000 in
theorem rtext_ok (c r : Int) : APure Try.prog 98 [place c r] (vs (textP c r)) := by
  refine apure_of Try.func98 Try.ntmps98 rfl ?_
  simp only [List.length_cons, List.length_nil, List.cons_append, List.nil_append, List.replicate]
  refine aw_seq (aw_run [] ?_)
  simp -implicitDefEqProofs
  refine aw_seq (aw_run [] ?_)
  simp -implicitDefEqProofs
  refine awl_pure' [] rfl rfl rfl (by kernel_rfl) rfl (rright_ok c r) (by simp) (by simp) ?_
  simp -implicitDefEqProofs
  refine aw_seq (aw_seq (aw_run [] ?_))
  simp -implicitDefEqProofs
  refine aw_cond rfl (fun h => ?_) (fun h => aw_skip ?_)
  · repeat' (first
      | refine aw_seq ?_
      | ((first | refine aw_run [] ?_ | refine aw_ymix [] draws (by decide +kernel) ?_); try simp -implicitDefEqProofs (maxSteps := 1000000))
      | ((first | refine aw_zrun [] [] draws (by decide +kernel) (by decide +kernel) ?_ | refine zl_skip (by simp) rfl ?_); try simp -implicitDefEqProofs (maxSteps := 1000000); repeat first | refine zcurL (by decide +kernel) ?_ | refine zcurH (by decide +kernel) ?_ | refine zcurL' (by decide +kernel) ?_ | refine zcurH' (by decide +kernel) ?_)
      | ((first | refine aw_yrun draws (by kernel_rfl) ?_ | refine awl_skip' [] rfl ?_ | refine yl_skip rfl ?_ | refine aw_skip ?_ | refine aw_exit ?_); try simp -implicitDefEqProofs (maxSteps := 1000000))
      | (refine aw_cond rfl (fun h => ?_) (fun h => ?_) <;> try (with_reducible first | exact ff_tt h | exact tt_ff h))
      | refine aw_block ?_
      | refine aw_ret (ret_of (.inr rfl) (by simp [Try.results98]; rfl) (Fin.of ?_))
      | refine ret_of (.inl rfl) (by simp [Try.results98]; rfl) (Fin.of ?_))
    have : rightP c r = false := by simpa using h
    simp [tupOf, textP, this]
  · have hR : rightP c r = true := by simpa using h
    have hb := rightP_iff'.1 hR
    obtain ⟨k, rfl⟩ := Int.eq_ofNat_of_zero_le hb.1
    have h1 : IntKind.i64.wrap ((k : Int) + 1) = ((k + 1 : Nat) : Int) := by rw [wrap_id (by omega) (by omega)]; rfl
    have h2 : IntKind.i64.wrap (r + 1) = r + 1 := wrap_id (by omega) (by omega)
    have hk : k ≤ k + 1 ∧ k + 1 ≤ (⟨#[65, 66, 67, 68, 69, 70, 71, 72, 73, 74, 75, 76, 77, 78, 79, 80]⟩ : ByteArray).size := ⟨by omega, by
      have e : (⟨#[65, 66, 67, 68, 69, 70, 71, 72, 73, 74, 75, 76, 77, 78, 79, 80]⟩ : ByteArray).size = 16 := rfl
      omega⟩
    have hn : 0 ≤ (k : Int) + 1 := by omega
    have hs : (letters.extract k (k + 1)).size + (textI (r + 1)).size ≤ 9223372036854775807 := by
      have e1 : (textI (r + 1)).size ≤ 20 := by
        unfold textI
        rw [if_neg (by omega)]
        exact figs_len _ (by omega)
      have e2 : (letters.extract k (k + 1)).size ≤ 16 := by
        rw [ByteArray.size_extract]
        have e : letters.size = 16 := rfl
        omega
      omega
    unfold letters at hs
    rw [ByteArray.size_extract] at hs
    simp -implicitDefEqProofs
    refine aw_seq (aw_yrun draws (by kernel_rfl) ?_)
    simp -implicitDefEqProofs [h1, h2, hk, hn]
    refine yl_pure rfl rfl rfl (by kernel_rfl) rfl (rtext1_ok (r + 1) (by omega) (by omega)) (by simp) (by simp) ?_
    simp -implicitDefEqProofs [hs]
    repeat' (first
      | refine aw_seq ?_
      | ((first | refine aw_run [] ?_ | refine aw_ymix [] draws (by decide +kernel) ?_); try simp -implicitDefEqProofs (maxSteps := 1000000))
      | ((first | refine aw_zrun [] [] draws (by decide +kernel) (by decide +kernel) ?_ | refine zl_skip (by simp) rfl ?_); try simp -implicitDefEqProofs (maxSteps := 1000000); repeat first | refine zcurL (by decide +kernel) ?_ | refine zcurH (by decide +kernel) ?_ | refine zcurL' (by decide +kernel) ?_ | refine zcurH' (by decide +kernel) ?_)
      | ((first | refine aw_yrun draws (by kernel_rfl) ?_ | refine awl_skip' [] rfl ?_ | refine yl_skip rfl ?_ | refine aw_skip ?_ | refine aw_exit ?_); try simp -implicitDefEqProofs (maxSteps := 1000000))
      | (refine aw_cond rfl (fun h => ?_) (fun h => ?_) <;> try (with_reducible first | exact ff_tt h | exact tt_ff h))
      | refine aw_block ?_
      | refine aw_ret (ret_of (.inr rfl) (by simp [Try.results98]; rfl) (Fin.of ?_))
      | refine ret_of (.inl rfl) (by simp [Try.results98]; rfl) (Fin.of ?_))
    simp [tupOf, textP, hR, letters]
end Go.AL
/-! Contracts: the form of a place's text, by gridironref02. -/
namespace Go.AL
open Go.Proofs
set_option linter.unusedSimpArgs false
set_option linter.unusedVariables false
def digitB (b : UInt8) : Bool := decide (48 ≤ (b.toNat : Int)) && decide ((b.toNat : Int) ≤ 57)
def formedL : List UInt8 → Bool
  | a :: b :: t => decide (t.length ≤ 2) && decide (65 ≤ (a.toNat : Int)) && decide ((a.toNat : Int) ≤ 90) && !decide ((b.toNat : Int) = 48) && (b :: t).all digitB
  | _ => false
def formedP (s : ByteArray) : Bool := formedL s.data.toList
theorem bsize_mk (a : Array UInt8) : (⟨a⟩ : ByteArray).size = a.size := rfl
set_option maxRecDepth 100000 in
theorem rformed_ok (s : ByteArray) (hsz : s.size ≤ 9223372036854775807) : APure Try.prog 159 [vs s] (vb (formedP s)) := by
  obtain ⟨⟨l⟩⟩ := s
  unfold formedP
  match l, hsz with
  | [], _ =>
    refine apure_of Try.func159 Try.ntmps159 rfl ?_
    simp only [List.length_cons, List.length_nil, List.cons_append, List.nil_append, List.replicate]
    repeat' (first
      | refine aw_seq ?_
      | (refine aw_run [] ?_; try simp -implicitDefEqProofs (maxSteps := 1000000) [bsize_mk])
      | ((first | refine awl_skip' [] rfl ?_ | refine aw_skip ?_ | refine aw_exit ?_); try simp -implicitDefEqProofs (maxSteps := 1000000) [bsize_mk])
      | (refine aw_cond rfl (fun h => ?_) (fun h => ?_) <;> try (with_reducible first | exact ff_tt h | exact tt_ff h))
      | refine aw_block ?_
      | refine aw_ret (ret_of (.inr rfl) (by simp [Try.results159]; rfl) (Fin.of ?_))
      | refine ret_of (.inl rfl) (by simp [Try.results159]; rfl) (Fin.of ?_))
    all_goals first | (cases h; done) | simp [tupOf, formedL]
  | [a], _ =>
    refine apure_of Try.func159 Try.ntmps159 rfl ?_
    simp only [List.length_cons, List.length_nil, List.cons_append, List.nil_append, List.replicate]
    repeat' (first
      | refine aw_seq ?_
      | (refine aw_run [] ?_; try simp -implicitDefEqProofs (maxSteps := 1000000) [bsize_mk])
      | ((first | refine awl_skip' [] rfl ?_ | refine aw_skip ?_ | refine aw_exit ?_); try simp -implicitDefEqProofs (maxSteps := 1000000) [bsize_mk])
      | (refine aw_cond rfl (fun h => ?_) (fun h => ?_) <;> try (with_reducible first | exact ff_tt h | exact tt_ff h))
      | refine aw_block ?_
      | refine aw_ret (ret_of (.inr rfl) (by simp [Try.results159]; rfl) (Fin.of ?_))
      | refine ret_of (.inl rfl) (by simp [Try.results159]; rfl) (Fin.of ?_))
    all_goals first | (cases h; done) | simp [tupOf, formedL]
  | a :: b :: t, hsz =>
    simp [bsize_mk] at hsz
    refine apure_of Try.func159 Try.ntmps159 rfl ?_
    simp only [List.length_cons, List.length_nil, List.cons_append, List.nil_append, List.replicate]
    refine aw_seq (aw_run [] ?_)
    simp -implicitDefEqProofs
    refine aw_seq (aw_seq (aw_run [] ?_))
    simp -implicitDefEqProofs [bsize_mk]
    refine aw_cond rfl (fun h => ?_) (fun h => aw_skip ?_)
    · repeat' (first
        | refine aw_seq ?_
        | (refine aw_run [] ?_; try simp -implicitDefEqProofs (maxSteps := 1000000) [bsize_mk])
        | ((first | refine awl_skip' [] rfl ?_ | refine aw_skip ?_ | refine aw_exit ?_); try simp -implicitDefEqProofs (maxSteps := 1000000) [bsize_mk])
        | (refine aw_cond rfl (fun h => ?_) (fun h => ?_) <;> try (with_reducible first | exact ff_tt h | exact tt_ff h))
        | refine aw_block ?_
        | refine aw_ret (ret_of (.inr rfl) (by simp [Try.results159]; rfl) (Fin.of ?_))
        | refine ret_of (.inl rfl) (by simp [Try.results159]; rfl) (Fin.of ?_))
      simp [tupOf, formedL] at h ⊢
      intro h1 h2 h3 h4
      omega
    · simp at h
      simp -implicitDefEqProofs [bsize_mk]
      refine aw_seq (aw_seq (aw_run [] ?_))
      simp -implicitDefEqProofs [bsize_mk]
      refine aw_block (aw_loopK [0, 2, 3] (fun n fr σ => σ = σ0 ∧ ∃ i : Nat, i + n = t.length + 2 ∧ 1 ≤ i ∧ ((b :: t).take (i - 1)).all digitB = true ∧ fr = frm 43 [(0, vs ⟨⟨a :: b :: t⟩⟩), (2, vb false), (3, vi (i : Nat))]) (t.length + 1) ?_ ?_)
      · refine ⟨rfl, 1, by omega, by omega, by simp, by simp⟩
      · rintro n fr σ ⟨rfl, i, hi, h1, hall, rfl⟩
        simp
        refine aw_seq (aw_seq (aw_run [] ?_))
        simp -implicitDefEqProofs [bsize_mk]
        refine aw_cond rfl (fun h => aw_skip ?_) (fun h => aw_exit ?_)
        · have hlt : i < t.length + 2 := by simp at h; omega
          obtain ⟨x, hx⟩ : ∃ x, (a :: b :: t)[i]? = some x := ⟨(a :: b :: t)[i], by simp [hlt]⟩
          have hx1 : (b :: t)[i - 1]? = some x := by
            rw [show i = (i - 1) + 1 by omega, List.getElem?_cons_succ] at hx
            exact hx
          have hnx : IntKind.i64.wrap ((i : Int) + 1) = ((i + 1 : Nat) : Int) := by rw [wrap_id (by omega) (by omega)]; simp
          simp -implicitDefEqProofs
          refine aw_seq (aw_block (aw_seq (aw_run [] ?_)))
          simp -implicitDefEqProofs [hx]
          refine aw_cond rfl (fun h2 => ?_) (fun h2 => aw_skip ?_)
          · repeat' (first
              | refine aw_seq ?_
              | (refine aw_run [] ?_; try simp -implicitDefEqProofs (maxSteps := 1000000))
              | ((first | refine awl_skip' [] rfl ?_ | refine aw_skip ?_ | refine aw_exit ?_); try simp -implicitDefEqProofs (maxSteps := 1000000))
              | (refine aw_cond rfl (fun h => ?_) (fun h => ?_) <;> try (with_reducible first | exact ff_tt h | exact tt_ff h))
              | refine aw_block ?_
              | refine aw_ret (ret_of (.inr rfl) (by simp [Try.results159]; rfl) (Fin.of ?_))
              | refine ret_of (.inl rfl) (by simp [Try.results159]; rfl) (Fin.of ?_))
            simp [tupOf] at h2 ⊢
            have hm : x ∈ b :: t := List.mem_of_getElem? hx1
            cases hq : formedL (a :: b :: t) with
            | false => rfl
            | true =>
              simp only [formedL, Bool.and_eq_true, List.all_eq_true] at hq
              have := hq.2 x hm
              simp [digitB] at this
              omega
          · simp -implicitDefEqProofs
            refine aw_run [] ?_
            simp -implicitDefEqProofs
            refine ⟨n - 1, by omega, i + 1, by omega, by omega, ?_, by simp [hnx]⟩
            have he : (b :: t).take (i + 1 - 1) = (b :: t).take (i - 1) ++ [x] := by
              rw [show i + 1 - 1 = (i - 1) + 1 by omega, List.take_add_one, hx1]; rfl
            intro y hy
            rw [he, List.mem_append] at hy
            rcases hy with hy | hy
            · exact List.all_eq_true.1 hall y hy
            · obtain rfl : y = x := by simpa using hy
              simp [digitB] at h2 ⊢
              omega
        · have hi2 : i = t.length + 2 := by simp at h; omega
          simp -implicitDefEqProofs
          repeat' (first
            | refine aw_seq ?_
            | (refine aw_run [] ?_; try simp -implicitDefEqProofs (maxSteps := 1000000))
            | ((first | refine awl_skip' [] rfl ?_ | refine aw_skip ?_ | refine aw_exit ?_); try simp -implicitDefEqProofs (maxSteps := 1000000))
            | (refine aw_cond rfl (fun h => ?_) (fun h => ?_) <;> try (with_reducible first | exact ff_tt h | exact tt_ff h))
            | refine aw_block ?_
            | refine aw_ret (ret_of (.inr rfl) (by simp [Try.results159]; rfl) (Fin.of ?_))
            | refine ret_of (.inl rfl) (by simp [Try.results159]; rfl) (Fin.of ?_))
          have hl : (b :: t).take (i - 1) = b :: t := List.take_of_length_le (by simp; omega)
          rw [hl] at hall
          rename_i h9 _
          have : formedL (a :: b :: t) = true := by
            simp only [formedL, hall, Bool.and_true]
            simp
            omega
          simp [tupOf, this]
end Go.AL
/-! Contracts: gridironref02.Parse. -/
namespace Go.AL
open Go.Proofs
set_option linter.unusedSimpArgs false
set_option linter.unusedVariables false
def isText (s : ByteArray) (i : Nat) : Bool := decide (textP (atC (i : Int)) (atR (i : Int)) = s)
/-- The first place with this text. -/
def findT (s : ByteArray) : Option Nat := (List.range 1024).find? (isText s)
def parseI (s : ByteArray) : Nat := (findT s).getD 0
def parseB (s : ByteArray) : Bool := formedP s && (findT s).isSome
def parseE (s : ByteArray) : Int := if formedP s = true then (if (findT s).isSome = true then 0 else 4) else 2
set_option maxRecDepth 100000 in
theorem rparse_ok (s : ByteArray) (hsz : s.size ≤ 9223372036854775807) : APure Try.prog 127 [vs s] (.tup [place (z (parseB s) (atC (parseI s))) (z (parseB s) (atR (parseI s))), vi (parseE s)]) := by
  refine apure_of Try.func127 Try.ntmps127 rfl ?_
  simp only [List.length_cons, List.length_nil, List.cons_append, List.nil_append, List.replicate]
  repeat' (first
    | refine aw_seq ?_
    | (refine aw_run [2, 6] ?_; try simp -implicitDefEqProofs (maxSteps := 1000000))
    | ((first | refine awl_skip' [2, 6] rfl ?_ | refine awl_pure_guard [2, 6] rfl rfl rfl (by first | assumption | kernel_rfl) rfl (fun hc => by first | exact rformed_ok s hsz) (by simp) (by simp) (by simp) ?_ | refine awl_pure' [2, 6] rfl rfl rfl (by first | assumption | kernel_rfl) rfl (by first | exact rformed_ok s hsz) (by simp) (by simp) ?_ | refine aw_skip ?_ | refine aw_exit ?_); try simp -implicitDefEqProofs (maxSteps := 1000000))
    | (refine aw_cond rfl (fun h => ?_) (fun h => ?_) <;> try (with_reducible first | exact ff_tt h | exact tt_ff h))
    | refine aw_block ?_
    | refine aw_ret (ret_of (.inr rfl) (by simp [Try.results127]; rfl) (Fin.of ?_))
    | refine ret_of (.inl rfl) (by simp [Try.results127]; rfl) (Fin.of ?_))
  · have hf : formedP s = false := by simpa using h
    simp [tupOf, parseB, parseE, hf]
  · have hf : formedP s = true := by simpa using h
    refine aw_loopW [0, 2, 5] (fun n fr σ => ∃ i m : Nat, i + n = 1024 ∧ 1 ≤ m ∧ (∀ j, j < i → isText s j = false) ∧ σ = mkSt [(0, [vi 0, vi 0])] [] m ∧ fr = frm 30 [(0, vs s), (2, .ptr 0 0), (5, vi (i : Nat))]) 1024 ?_ ?_
    · refine ⟨mkSt [(0, [vi 0, vi 0])] [] 1, le_mkSt (by simp [σ0]) (by simp) (by simp [σ0]), 0, 1, by omega, by omega, by omega, rfl, ?_⟩
      simp [σ0]
    · rintro n fr σ ⟨i, m, hi, hm, hno, rfl, rfl⟩
      simp
      have hm0 : ¬ 0 = m := by omega
      refine aw_seq (aw_seq (aw_run [2, 6] ?_))
      simp -implicitDefEqProofs
      refine aw_cond rfl (fun h => aw_skip ?_) (fun h => aw_exit ?_)
      · have hlt : i < 1024 := by simp at h; omega
        have hnx : IntKind.i64.wrap ((i : Int) + 1) = ((i + 1 : Nat) : Int) := by rw [wrap_id (by omega) (by omega)]; simp
        simp -implicitDefEqProofs
        repeat' (first
          | refine aw_seq ?_
          | (refine aw_run [2, 6] ?_; try simp -implicitDefEqProofs (maxSteps := 1000000) [List.lookup, hm0])
          | ((first | refine awl_skip' [2, 6] rfl ?_ | refine awl_pure_guard [2, 6] rfl rfl rfl (by first | assumption | kernel_rfl) rfl (fun hc => by first | exact rat_ok _ | exact rtext_ok _ _) (by simp) (by simp) (by simp) ?_ | refine awl_pure' [2, 6] rfl rfl rfl (by first | assumption | kernel_rfl) rfl (by first | exact rat_ok _ | exact rtext_ok _ _) (by simp) (by simp) ?_ | refine aw_skip ?_ | refine aw_exit ?_); try simp -implicitDefEqProofs (maxSteps := 1000000) [List.lookup, hm0])
          | (refine aw_cond rfl (fun h => ?_) (fun h => ?_) <;> try (with_reducible first | exact ff_tt h | exact tt_ff h))
          | refine aw_block ?_
          | refine aw_ret (ret_of (.inr rfl) (by simp [Try.results127]; rfl) (Fin.of ?_))
          | refine ret_of (.inl rfl) (by simp [Try.results127]; rfl) (Fin.of ?_))
        · have hi1 : isText s i = true := h
          have hfd : findT s = some i := by
            unfold findT
            rw [List.find?_range_eq_some]
            exact ⟨hi1, by simp [hlt], fun j hj => by simp [hno j hj]⟩
          simp [tupOf, parseB, parseE, parseI, hf, hfd]
        · refine ⟨n - 1, by omega, mkSt [(0, [vi 0, vi 0])] [] (m + 1), le_mkSt (by simp [List.lookup, hm0]) (by simp) (by simp), i + 1, by omega, m + 1, by omega, ?_, rfl, by simp [hnx]⟩
          intro j hj
          by_cases hji : j < i
          · exact hno j hji
          · obtain rfl : j = i := by omega
            exact h
      · simp -implicitDefEqProofs
        repeat' (first
          | refine aw_seq ?_
          | (refine aw_run [2, 6] ?_; try simp -implicitDefEqProofs (maxSteps := 1000000) [List.lookup])
          | ((first | refine awl_skip' [2, 6] rfl ?_ | refine aw_skip ?_ | refine aw_exit ?_); try simp -implicitDefEqProofs (maxSteps := 1000000) [List.lookup])
          | (refine aw_cond rfl (fun h => ?_) (fun h => ?_) <;> try (with_reducible first | exact ff_tt h | exact tt_ff h))
          | refine aw_block ?_
          | refine aw_ret (ret_of (.inr rfl) (by simp [Try.results127]; rfl) (Fin.of ?_))
          | refine ret_of (.inl rfl) (by simp [Try.results127]; rfl) (Fin.of ?_))
        have hfd : findT s = none := by
          unfold findT
          rw [List.find?_range_eq_none]
          intro j hj
          have : j < i := by simp at h; omega
          simp [hno j this]
        simp [tupOf, parseB, parseE, parseI, hf, hfd]
end Go.AL
/-! Contracts: place.formed. -/
namespace Go.AL
open Go.Proofs
set_option linter.unusedSimpArgs false
set_option linter.unusedVariables false
end Go.AL
/-! Contracts: place.Text, place.Parse. -/
namespace Go.AL
open Go.Proofs
set_option linter.unusedSimpArgs false
set_option linter.unusedVariables false
def textQ (c r : Int) : ByteArray := if rightP c r = true then strOf [65 + c] ++ ⟨(Lib.itoa (r + 1)).toArray⟩ else ⟨#[]⟩
theorem letters_at : ∀ c : Nat, c < 16 → letters.extract c (c + 1) = strOf [65 + (c : Int)] := by decide
theorem figs_itoa : ∀ n : Nat, n < 65 → figs n = ⟨(Lib.itoa (n : Int)).toArray⟩ := by
  have h1 : ∀ n : Nat, n < 10 → dig n = ⟨(Lib.itoa (n : Int)).toArray⟩ := by decide +kernel
  have h2 : ∀ a : Nat, a < 7 → ∀ b : Nat, b < 10 → 0 < a → dig a ++ dig b = ⟨(Lib.itoa ((a * 10 + b : Nat) : Int)).toArray⟩ := by decide +kernel
  intro n hn
  by_cases h : n < 10
  · unfold figs; rw [if_pos h]; exact h1 n h
  · have e := h2 (n / 10) (by omega) (n % 10) (by omega) (by omega)
    rw [show n / 10 * 10 + n % 10 = n by omega] at e
    rw [← e, figs, if_neg h, figs, if_pos (by omega)]
theorem textQ_eq (c r : Int) : textQ c r = textP c r := by
  unfold textQ textP
  split
  · rename_i h
    obtain ⟨c0, c1, r0, r1⟩ := rightP_iff'.1 h
    obtain ⟨k, rfl⟩ := Int.eq_ofNat_of_zero_le c0
    obtain ⟨m, rfl⟩ := Int.eq_ofNat_of_zero_le r0
    rw [show ((k : Int)).toNat = k from rfl, letters_at k (by omega), show (m : Int) + 1 = ((m + 1 : Nat) : Int) by omega, ← figs_itoa (m + 1) (by omega), textI, if_neg (by omega)]
    rfl
  · rfl
end Go.AL
namespace Go.Proofs.Ytadahjmamgidnaa.Dec
open Go.Lib

/-- Is a byte a figure? -/
def fig (c : UInt8) : Bool := decide (48 ≤ c.toNat ∧ c.toNat ≤ 57)
theorem of_fig {c : UInt8} (h : fig c = true) : 48 ≤ c.toNat ∧ c.toNat ≤ 57 := by unfold fig at h; simpa using h
/-- What figures come to. -/
def fv : List UInt8 → Nat → Nat
  | [], acc => acc
  | c :: r, acc => fv r (acc * 10 + (c.toNat - 48))
def fval (acc : Nat) (l : List UInt8) : Nat := fv l acc
theorem fval_nil (acc : Nat) : fval acc [] = acc := rfl
theorem fval_cons (acc : Nat) (c : UInt8) (r : List UInt8) : fval acc (c :: r) = fval (acc * 10 + (c.toNat - 48)) r := by unfold fval; rw [fv]
theorem fval_append (acc : Nat) (l m : List UInt8) : fval acc (l ++ m) = fval (fval acc l) m := by
  induction l generalizing acc with
  | nil => rfl
  | cons c r ih => rw [List.cons_append, fval_cons, fval_cons]; exact ih _
theorem fval_ge (acc : Nat) (l : List UInt8) : acc ≤ fval acc l := by
  induction l generalizing acc with
  | nil => exact Nat.le_refl _
  | cons c r ih => rw [fval_cons]; exact Nat.le_trans (by omega) (ih _)
theorem fval_lt (acc : Nat) (l : List UInt8) (h : l.all fig = true) : fval acc l < (acc + 1) * 10 ^ l.length := by
  induction l generalizing acc with
  | nil => rw [List.length_nil, Nat.pow_zero, Nat.mul_one]; exact Nat.lt_succ_self _
  | cons c r ih =>
    simp only [List.all_cons, Bool.and_eq_true] at h
    have hc : 48 ≤ c.toNat ∧ c.toNat ≤ 57 := of_fig h.1
    have ihh := ih (acc * 10 + (c.toNat - 48)) h.2
    clear ih
    rw [List.length_cons, Nat.pow_succ]
    rw [fval_cons]
    generalize 10 ^ r.length = p at *
    have h2 : (acc * 10 + (c.toNat - 48) + 1) * p ≤ ((acc + 1) * 10) * p := Nat.mul_le_mul_right _ (by omega)
    have e : (acc + 1) * (p * 10) = ((acc + 1) * 10) * p := by rw [Nat.mul_comm p 10, Nat.mul_assoc]
    rw [e]
    exact Nat.lt_of_lt_of_le ihh h2
theorem u8_of (n : Nat) (h : n < 256) : (UInt8.ofNat n).toNat = n := by simp [UInt8.toNat_ofNat', Nat.mod_eq_of_lt h]
theorem u8_eq {c : UInt8} {n : Nat} (h : n < 256) (e : c.toNat = n) : UInt8.ofNat n = c := by
  apply UInt8.toNat_inj.1
  rw [u8_of n h, e]
/-- The numeral's figures: each is one, and they come to the number. -/
theorem dec_all (u : Nat) : (decDigits u).all fig = true := by
  induction u using Nat.strongRecOn with
  | _ u ih =>
    rw [decDigits]
    split
    · rename_i h
      simp only [List.all_cons, List.all_nil, Bool.and_true, fig, decide_eq_true_eq]
      rw [u8_of _ (by omega)]; omega
    · rename_i h
      rw [List.all_append, ih (u / 10) (by omega)]
      simp only [List.all_cons, List.all_nil, Bool.and_true, Bool.true_and, fig, decide_eq_true_eq]
      rw [u8_of _ (by omega)]; omega
theorem dec_val (u : Nat) : fval 0 (decDigits u) = u := by
  induction u using Nat.strongRecOn with
  | _ u ih =>
    rw [decDigits]
    split
    · rename_i h
      have e := u8_of (48 + u) (by omega)
      rw [fval_cons, fval_nil]
      omega
    · rename_i h
      have e := u8_of (48 + u % 10) (by omega)
      rw [fval_append, ih (u / 10) (by omega)]
      rw [fval_cons, fval_nil]
      omega
theorem dec_ne (u : Nat) : decDigits u ≠ [] := by
  rw [decDigits]; split <;> simp
theorem dec_len (k u : Nat) (h : u < 10 ^ (k + 1)) : (decDigits u).length ≤ k + 1 := by
  induction k generalizing u with
  | zero => rw [decDigits, dif_pos (by simpa using h)]; simp
  | succ k ih =>
    rw [decDigits]
    split
    · simp
    · have := ih (u / 10) (by rw [Nat.pow_succ] at h; omega)
      simp; omega
/-- The first figure is 0 of 0 alone. -/
theorem dec_head (u : Nat) (h : 0 < u) : ∀ c, (decDigits u).head? = some c → 49 ≤ c.toNat := by
  induction u using Nat.strongRecOn with
  | _ u ih =>
    intro c
    rw [decDigits]
    split
    · intro hc
      simp only [List.head?_cons, Option.some.injEq] at hc
      rw [← hc, u8_of _ (by omega)]; omega
    · rename_i h2
      intro hc
      have e : (decDigits (u / 10) ++ [UInt8.ofNat (48 + u % 10)]).head? = (decDigits (u / 10)).head? := by
        cases hd : decDigits (u / 10) with
        | nil => exact absurd hd (dec_ne _)
        | cons x r => rfl
      rw [e] at hc
      exact ih (u / 10) (by omega) (by omega) c hc
/-- Figures without needless noughts are their number's numeral. -/
theorem dec_canon : ∀ (n : Nat) (d : List UInt8), d.length = n → d ≠ [] → d.all fig = true → (∀ c, d.head? = some c → c.toNat = 48 → d.length = 1) → decDigits (fval 0 d) = d := by
  intro n
  induction n with
  | zero => intro d hn h0; exact absurd (List.eq_nil_of_length_eq_zero hn) h0
  | succ n ih =>
    intro d hn h0 ha hh
    obtain ⟨i, c, rfl⟩ : ∃ i c, d = i ++ [c] := ⟨d.dropLast, d.getLast h0, (List.dropLast_concat_getLast h0).symm⟩
    rw [List.all_append, Bool.and_eq_true] at ha
    have hc : 48 ≤ c.toNat ∧ c.toNat ≤ 57 := by have := ha.2; simpa [fig] using this
    cases i with
    | nil =>
      rw [List.nil_append, fval_cons, fval_nil, Nat.zero_mul, Nat.zero_add, decDigits, dif_pos (by omega), u8_eq (c := c) (by omega) (by omega)]
    | cons x r =>
      have hx : 48 ≤ x.toNat ∧ x.toNat ≤ 57 := by have := ha.1; simp only [List.all_cons, Bool.and_eq_true] at this; exact of_fig this.1
      have hx0 : x.toNat ≠ 48 := fun e => by have := hh x rfl e; simp at this
      have e := ih (x :: r) (by simp at hn ⊢; omega) (by simp) ha.1 (fun c' h1 h2 => by simp at h1; subst h1; exact absurd h2 hx0)
      have hp : 1 ≤ fval 0 (x :: r) := by rw [fval_cons]; exact Nat.le_trans (by omega) (fval_ge (0 * 10 + (x.toNat - 48)) r)
      rw [fval_append, fval_cons, fval_nil]
      generalize fval 0 (x :: r) = v at *
      rw [decDigits, dif_neg (by omega), show (v * 10 + (c.toNat - 48)) / 10 = v from by omega, e, u8_eq (c := c) (by omega) (by omega)]
/-- Atoi's own reading of figures. -/
theorem parse_figs (l : List UInt8) : ∀ acc, l.all fig = true → fval acc l < 18446744073709551616 → parseUint10 acc l = .ok (fval acc l) := by
  induction l with
  | nil => intro acc _ _; rfl
  | cons c r ih =>
    intro acc ha hv
    simp only [List.all_cons, Bool.and_eq_true] at ha
    have hc : 48 ≤ c.toNat ∧ c.toNat ≤ 57 := of_fig ha.1
    rw [fval_cons] at hv ⊢
    have := fval_ge (acc * 10 + (c.toNat - 48)) r
    simp only [parseUint10]
    rw [if_pos hc, if_neg (by omega), if_neg (by omega)]
    exact ih _ ha.2 hv
theorem fig_head {l : List UInt8} (h : l.all fig = true) {c : UInt8} (hc : l.head? = some c) : 48 ≤ c.toNat ∧ c.toNat ≤ 57 := by
  cases l with
  | nil => simp at hc
  | cons x r => simp at hc; subst hc; simp only [List.all_cons, Bool.and_eq_true] at h; exact of_fig h.1
theorem mag_figs {l : List UInt8} (h0 : l ≠ []) (ha : l.all fig = true) (hv : fval 0 l < 18446744073709551616) : parseMag l = .ok (fval 0 l) := by
  unfold parseMag
  rw [if_neg h0, parse_figs l 0 ha hv]
theorem atoi_plain {l : List UInt8} (h0 : l ≠ []) (ha : l.all fig = true) (hv : fval 0 l < 18446744073709551616) :
    atoiAll l = if 9223372036854775808 ≤ fval 0 l then .range else .ok (fval 0 l) := by
  have hm := mag_figs h0 ha hv
  cases l with
  | nil => exact absurd rfl h0
  | cons c r =>
    have hc := fig_head ha (c := c) rfl
    simp only [atoiAll]
    rw [if_neg (by omega), hm]
    have : ¬ c.toNat = 45 := by omega
    simp only [this, not_false_eq_true, true_and, false_and, if_false]
theorem atoi_minus {l : List UInt8} (h0 : l ≠ []) (ha : l.all fig = true) (hv : fval 0 l < 18446744073709551616) :
    atoiAll (45 :: l) = if 9223372036854775808 < fval 0 l then .range else .ok (-(fval 0 l : Int)) := by
  have hm := mag_figs h0 ha hv
  simp only [atoiAll]
  rw [if_pos (Or.inr (by decide)), hm]
  have : (45 : UInt8).toNat = 45 := by decide
  simp only [this, not_true_eq_false, false_and, if_false, true_and, if_true]
theorem atoi_itoa (v : Int) (h0 : -9223372036854775808 ≤ v) (h1 : v ≤ 9223372036854775807) : atoiAll (itoa v) = .ok v := by
  unfold itoa
  split
  · rw [atoi_minus (dec_ne _) (dec_all _) (by rw [dec_val]; omega), dec_val, if_neg (by omega)]
    congr 1; omega
  · rw [atoi_plain (dec_ne _) (dec_all _) (by rw [dec_val]; omega), dec_val, if_neg (by omega)]
    congr 1; omega
end Go.Proofs.Ytadahjmamgidnaa.Dec
/-! Contracts: place.Parse. -/
namespace Go.AL
open Go.Proofs Go.Proofs.Ytadahjmamgidnaa.Dec Go.Lib
set_option linter.unusedSimpArgs false
set_option linter.unusedVariables false
theorem itoa_pos {n : Int} (h : 0 ≤ n) : itoa n = decDigits n.toNat := by unfold itoa; rw [if_neg (by omega)]
theorem textP_list {x y : Int} (h : rightP x y = true) : (textP x y).data.toList = UInt8.ofNat (65 + x).toNat :: decDigits (y + 1).toNat := by
  have hb := rightP_iff'.1 h
  rw [← textQ_eq, textQ, if_pos h, itoa_pos (by omega)]
  simp [strOf]
theorem fig_digit (x : UInt8) : digitB x = fig x := by
  unfold digitB fig
  by_cases h : 48 ≤ x.toNat <;> by_cases h2 : x.toNat ≤ 57 <;> simp [h, h2] <;> omega
theorem textP_iff {s : ByteArray} {c : UInt8} {d : List UInt8} (e : s.data.toList = c :: d) (hd : d ≠ []) (hl : d.length ≤ 3) (hf : d.all fig = true) (h48 : ∀ x, d.head? = some x → x.toNat ≠ 48) {x y : Int} (hp : rightP x y = true) :
    textP x y = s ↔ (x = (c.toNat : Int) - 65 ∧ y = (fval 0 d : Int) - 1) := by
  have hb := rightP_iff'.1 hp
  have hc : decDigits (fval 0 d) = d := dec_canon d.length d rfl hd hf (fun z hz h => absurd h (h48 z hz))
  have hq : textP x y = s ↔ (textP x y).data.toList = s.data.toList := ⟨fun h => by rw [h], fun h => by
    cases hs : s; cases ht : textP x y
    rw [hs, ht] at h
    simpa using h⟩
  rw [hq, e, textP_list hp]
  constructor
  · intro h
    obtain ⟨h1, h2⟩ := List.cons.inj h
    have h3 : (UInt8.ofNat (65 + x).toNat).toNat = c.toNat := by rw [h1]
    rw [u8_of _ (by omega)] at h3
    have h4 := congrArg (fval 0) h2
    rw [dec_val] at h4
    exact ⟨by omega, by omega⟩
  · rintro ⟨h1, h2⟩
    rw [u8_eq (c := c) (by omega) (by omega), show (y + 1).toNat = fval 0 d from by omega, hc]
theorem atC_nat {i : Nat} (h : i < 1024) : atC (i : Int) = ((i % 16 : Nat) : Int) := by unfold atC; rw [if_pos (by omega)]; omega
theorem atR_nat {i : Nat} (h : i < 1024) : atR (i : Int) = ((i / 16 : Nat) : Int) := by unfold atR; rw [if_pos (by omega)]; omega
theorem at_right {i : Nat} (h : i < 1024) : rightP (atC (i : Int)) (atR (i : Int)) = true := by rw [atC_nat h, atR_nat h]; exact rightP_iff'.2 (by omega)
theorem findT_yes {s : ByteArray} {c : UInt8} {d : List UInt8} (e : s.data.toList = c :: d) (hd : d ≠ []) (hl : d.length ≤ 3) (hf : d.all fig = true) (h48 : ∀ x, d.head? = some x → x.toNat ≠ 48)
    (hr : rightP ((c.toNat : Int) - 65) ((fval 0 d : Int) - 1) = true) : findT s = some ((fval 0 d - 1) * 16 + (c.toNat - 65)) := by
  have hb := rightP_iff'.1 hr
  unfold findT
  rw [List.find?_range_eq_some]
  refine ⟨?_, by simp; omega, fun j hj => ?_⟩
  · refine decide_eq_true ((textP_iff e hd hl hf h48 (at_right (by omega))).2 ?_)
    rw [atC_nat (by omega), atR_nat (by omega)]
    omega
  · have : ¬ textP (atC (j : Int)) (atR (j : Int)) = s := fun hh => by
      have := (textP_iff e hd hl hf h48 (at_right (by omega))).1 hh
      rw [atC_nat (by omega), atR_nat (by omega)] at this
      omega
    simp [isText, this]
theorem findT_no {s : ByteArray} {c : UInt8} {d : List UInt8} (e : s.data.toList = c :: d) (hd : d ≠ []) (hl : d.length ≤ 3) (hf : d.all fig = true) (h48 : ∀ x, d.head? = some x → x.toNat ≠ 48)
    (hr : rightP ((c.toNat : Int) - 65) ((fval 0 d : Int) - 1) = false) : findT s = none := by
  unfold findT
  rw [List.find?_range_eq_none]
  intro j hj
  have : ¬ textP (atC (j : Int)) (atR (j : Int)) = s := fun hh => by
    have h1 := at_right hj
    obtain ⟨g1, g2⟩ := (textP_iff e hd hl hf h48 h1).1 hh
    rw [g1, g2, hr] at h1
    cases h1
  simp [isText, this]
end Go.AL
/-! Contracts: lexer.name. -/
namespace Go.AL
open Go.Proofs
set_option linter.unusedSimpArgs false
set_option linter.unusedVariables false
def nameR (c : Int) : Bool := letR c || figR c
theorem nameR_hi : ∀ c : Int, 128 ≤ c → nameR c = false := fun c h => by simp [nameR, letR_hi c h, figR_hi c h]
def isWord (t : ByteArray) : Prop := t = ⟨#[73, 70]⟩ ∨ t = ⟨#[83, 85, 77]⟩ ∨ t = ⟨#[77, 73, 78]⟩ ∨ t = ⟨#[77, 65, 88]⟩ ∨ t = ⟨#[67, 79, 85, 78, 84]⟩
end Go.AL
/-! Contracts: lexer.next. -/
namespace Go.AL
open Go.Proofs
set_option linter.unusedSimpArgs false
set_option linter.unusedVariables false
/-- A token but for where it stands, and how long it is; 0: there is none. -/
structure Tok where
  k : Int
  n : Int
  c : Int
  r : Int
  t : ByteArray
  len : Nat
def Tok.av (x : Tok) (f : Int) : AV := token x.k x.n x.c x.r x.t f
def noTok : Tok := ⟨0, 0, 0, 0, ⟨#[]⟩, 0⟩
instance (t : ByteArray) : Decidable (isWord t) := by unfold isWord; infer_instance
def placeTok (s : ByteArray) (c r e : Int) : Tok := ⟨if e = 0 then 2 else if e = 4 then 3 else 0, 0, if e = 0 then c else 0, if e = 0 then r else 0, ⟨#[]⟩, if e = 0 ∨ e = 4 then leadL nameR s else 0⟩
def nextT (s : ByteArray) (b : UInt8) : Tok :=
  if figR b.toNat = true then (match Lib.atoiAll (leadS figR s).data.toList with | .ok v => ⟨1, v, 0, 0, ⟨#[]⟩, leadL figR s⟩ | _ => noTok)
  else if letR b.toNat = true then (if isWord (leadS nameR s) then ⟨4, 0, 0, 0, leadS nameR s, leadL nameR s⟩
    else placeTok s (z (parseB (leadS nameR s)) (atC (parseI (leadS nameR s)))) (z (parseB (leadS nameR s)) (atR (parseI (leadS nameR s)))) (parseE (leadS nameR s)))
  else if hasPre s ⟨#[35, 82, 69, 70]⟩ = true then ⟨3, 0, 0, 0, ⟨#[]⟩, 4⟩
  else ⟨if markN s.data.toList = 0 then 0 else 5, 0, 0, 0, s.extract 0 (markN s.data.toList), markN s.data.toList⟩
end Go.AL
/-! Regions that draw their order, in which one variable is made and filled: the others leave all as it is, whenever they come. -/
namespace Go.AL
set_option linter.unusedVariables false
set_option linter.unusedSimpArgs false

variable {P : Program} {σ σ1 σ2 : ASt} {R : AV → ASt → Prop} {D : List Deferred} {Q : Exit → List AV → ASt → Prop} {fr : List AV} {ops : Array Oper} {A S : Nat}

/-- An operation that turns memory. -/
def YldT (P : Program) (ops : Array Oper) (σ τ : ASt) (o : Oper) (fr : List AV) (r : AV) : Prop :=
  ∀ G (a : Act) w, (∀ t ∈ o.looksAt ops, Rep G w (fget fr t) (a.eval (.tmp t))) → SimW G σ w →
    Region.wanted o (yielded ops a.tmps) = true ∧ OutcN P G w (fun r' σ' => r' = r ∧ σ' = τ) ((execOp a.eval o).run P w)
theorem YldT.put {τ : ASt} {o : Oper} {r : AV} {d : Option Tmp} {v : AV} (hd : ∀ x, d = some x → x ∉ o.looksAt ops) : YldT P ops σ τ o (aput fr d v) r ↔ YldT P ops σ τ o fr r := by
  have e : ∀ t ∈ o.looksAt ops, fget (aput fr d v) t = fget fr t := by
    intro t ht
    cases d with
    | none => rfl
    | some x => exact fget_fset_ne fr x t v fun e => hd x rfl (e ▸ ht)
  constructor
  · intro h G a w ha hw
    exact h G a w (fun t ht => by rw [e t ht]; exact ha t ht) hw
  · intro h G a w ha hw
    exact h G a w (fun t ht => by rw [← e t ht]; exact ha t ht) hw
/-- Number i, of which A makes, and S fills. -/
def Y2 (P : Program) (ops : Array Oper) (A S : Nat) (σ σ1 σ2 : ASt) (i : Nat) (o : Oper) (fr : List AV) (r : AV) : Prop :=
  (i = A ∧ YldT P ops σ σ1 o fr r) ∨ (i = S ∧ YldT P ops σ1 σ2 o fr r) ∨ (i ≠ A ∧ i ≠ S ∧ Yld P ops σ o fr r ∧ Yld P ops σ1 o fr r ∧ Yld P ops σ2 o fr r)
theorem Y2.put {i : Nat} {o : Oper} {r : AV} {d : Option Tmp} {v : AV} (hd : ∀ x, d = some x → x ∉ o.looksAt ops) : Y2 P ops A S σ σ1 σ2 i o (aput fr d v) r ↔ Y2 P ops A S σ σ1 σ2 i o fr r := by
  unfold Y2
  rw [YldT.put hd, YldT.put hd, Yld.put hd, Yld.put hd, Yld.put hd]
def yOp2 (P : Program) (ops : Array Oper) (A S : Nat) (σ σ1 σ2 : ASt) (i : Nat) (K : List AV → Prop) (fr : List AV) : Prop :=
  match ops[i]? with
  | none => K fr
  | some o => ∃ r, Y2 P ops A S σ σ1 σ2 i o fr r ∧ K (aput fr o.dst r)
def any2 (P : Program) (md : Region.Mode) (ops : Array Oper) (A S : Nat) (σ σ1 σ2 : ASt) (K : Array Bool → List AV → Prop) : Nat → Array Bool → List AV → Prop
  | 0, listed, fr => Region.ready md ops listed = [] ∧ K listed fr
  | fuel + 1, listed, fr => (Region.ready md ops listed = [] → K listed fr) ∧ ∀ i ∈ Region.ready md ops listed, yOp2 P ops A S σ σ1 σ2 i (any2 P md ops A S σ σ1 σ2 K fuel (listed.setIfInBounds i true)) fr
theorem yOp2_mono {i : Nat} {K K' : List AV → Prop} (h : ∀ fr, K fr → K' fr) (hh : yOp2 P ops A S σ σ1 σ2 i K fr) : yOp2 P ops A S σ σ1 σ2 i K' fr := by
  unfold yOp2 at *
  split
  · rename_i ho; simp only [ho] at hh; exact h _ hh
  · rename_i o ho
    simp only [ho] at hh
    obtain ⟨r, h1, h2⟩ := hh
    exact ⟨r, h1, h _ h2⟩
/-- What memory is, by what is done. -/
def st2 (A S : Nat) (σ σ1 σ2 : ASt) (listed : Array Bool) : ASt := if listed.getD S true = true then σ2 else if listed.getD A true = true then σ1 else σ
theorem getD_set_eq {listed : Array Bool} {i : Nat} (h : i < listed.size) : (listed.setIfInBounds i true).getD i true = true := by simp [h]
theorem wpAny_of_any2 {md : Region.Mode} {K : Array Bool → List AV → Prop} {D : List Deferred} {Q : Exit → List AV → ASt → Prop} (hne : A ≠ S) (hK : ∀ listed fr, K listed fr → listed.getD S true = true ∧ Q .normal fr σ2)
    (hord : ∀ oS, ops[S]? = some oS → ∃ e ∈ oS.after, Region.binds md e = true ∧ e.on = A) : ∀ (fuel : Nat) (listed : Array Bool) (fr : List AV) (G : Ghost) (a : Act) (w : World) (G0 : Ghost) (w0 : World),
    listed.size = ops.size → (listed.getD S true = true → listed.getD A true = true) →
    Le G0 w0 G w → Sim G fr (st2 A S σ σ1 σ2 listed) D a w → any2 P md ops A S σ σ1 σ2 K fuel listed fr → wpAny P md ops (lift G0 w0 D Q) fuel listed a w
  | 0, listed, fr, G, a, w, G0, w0, hsz, hin, hl, hs, h => by
    obtain ⟨k1, k2⟩ := hK _ _ h.2
    unfold st2 at hs
    rw [if_pos k1] at hs
    exact ⟨h.1, G, fr, σ2, hl, hs, k2⟩
  | fuel + 1, listed, fr, G, a, w, G0, w0, hsz, hin, hl, hs, h => by
    refine ⟨fun h0 => ?_, fun i hi => ?_⟩
    · obtain ⟨k1, k2⟩ := hK _ _ (h.1 h0)
      unfold st2 at hs
      rw [if_pos k1] at hs
      exact ⟨G, fr, σ2, hl, hs, k2⟩
    have hy := h.2 i hi
    unfold yOp2 at hy
    obtain ⟨hun, oi, hoi, hall⟩ := mem_ready.1 hi
    have hib : i < listed.size := by
      rw [hsz]; exact (Array.getElem?_eq_some_iff.1 hoi).1
    unfold wpOp
    rw [hoi] at hy ⊢
    simp only at hy ⊢
    obtain ⟨r, hr, hk⟩ := hy
    have hsz' : (listed.setIfInBounds i true).size = ops.size := by simpa using hsz
    -- what comes behind
    have hinv : (listed.setIfInBounds i true).getD S true = true → (listed.setIfInBounds i true).getD A true = true := by
      intro h1
      by_cases hiA : i = A
      · subst hiA; exact getD_set_eq hib
      · rw [getD_set_ne true hiA]
        by_cases hiS : i = S
        · subst hiS
          obtain ⟨e, he, hb, hon⟩ := hord oi hoi
          have := hall e he hb
          rw [hon] at this
          rcases Nat.lt_or_ge A listed.size with h' | h'
          · simpa [h'] using this
          · simp [Array.getElem?_eq_none h'] at this
        · rw [getD_set_ne true hiS] at h1
          exact hin h1
    have key : ∀ τ, st2 A S σ σ1 σ2 (listed.setIfInBounds i true) = τ → OutcN P G w (fun r' σ' => r' = r ∧ σ' = τ) ((execOp a.eval oi).run P w) →
        wpO P oi a w (wpAny P md ops (lift G0 w0 D Q) fuel (listed.setIfInBounds i true)) (lift G0 w0 D Q) := by
      intro τ hτ hq
      unfold wpO
      have key : ∀ v w', Outc G w (fun r' σ' => r' = r ∧ σ' = τ) v w' → wpAny P md ops (lift G0 w0 D Q) fuel (listed.setIfInBounds i true) (a.put oi.dst v) w' := by
        rintro v w' ⟨r', G', σ', hl', hw', hr', e1, e2⟩
        rw [e1] at hr'
        rw [e2, ← hτ] at hw'
        exact wpAny_of_any2 hne hK hord fuel _ _ G' _ w' G0 w0 hsz' hinv (hl.trans hl') ((hs.le hl' hw').put oi.dst hr') hk
      generalize (execOp a.eval oi).run P w = n at hq
      cases n with
      | halt => exact hq.elim
      | ok n w' =>
        cases n with
        | value v => exact key v w' hq
        | skip => exact key undef w' hq
        | enter f args =>
          refine Calls.mono hq fun e w'' he => ?_
          cases e with
          | returned v => exact key v w'' he
          | panicked c => exact he.elim
          | outgrown => exact he.elim
        | round l f tmps assign body =>
          refine RoundIn.mono hq fun e w'' he => ?_
          cases e with
          | returned v => exact key v w'' he
          | panicked c => exact he.elim
          | outgrown => exact he.elim
        | _ => exact hq.elim
    rcases hr with ⟨rfl, hr⟩ | ⟨rfl, hr⟩ | ⟨hA, hS, y0, y1, y2⟩
    · have hS0 : listed.getD S true ≠ true := fun h => by rw [hin h] at hun; cases hun
      have e0 : st2 i S σ σ1 σ2 listed = σ := by unfold st2; rw [if_neg hS0, if_neg (by rw [hun]; decide)]
      have e1 : st2 i S σ σ1 σ2 (listed.setIfInBounds i true) = σ1 := by unfold st2; rw [getD_set_ne true hne, if_neg hS0, if_pos (getD_set_eq hib)]
      rw [e0] at hs
      obtain ⟨h1, h2⟩ := hr G a w (fun t _ => hs.ev (.tmp t)) hs.w
      rw [if_pos h1]
      exact (key σ1 e1 h2)
    · have hA1 : listed.getD A true = true := by
        obtain ⟨e, he, hb, hon⟩ := hord oi hoi
        have := hall e he hb
        rw [hon] at this
        rcases Nat.lt_or_ge A listed.size with h' | h'
        · simpa [h'] using this
        · simp [Array.getElem?_eq_none h'] at this
      have e0 : st2 A i σ σ1 σ2 listed = σ1 := by unfold st2; rw [if_neg (by rw [hun]; decide), if_pos hA1]
      have e1 : st2 A i σ σ1 σ2 (listed.setIfInBounds i true) = σ2 := by unfold st2; rw [if_pos (getD_set_eq hib)]
      rw [e0] at hs
      obtain ⟨h1, h2⟩ := hr G a w (fun t _ => hs.ev (.tmp t)) hs.w
      rw [if_pos h1]
      exact (key σ2 e1 h2)
    · have e1 : st2 A S σ σ1 σ2 (listed.setIfInBounds i true) = st2 A S σ σ1 σ2 listed := by unfold st2; rw [getD_set_ne true hA, getD_set_ne true hS]
      have hy : Yld P ops (st2 A S σ σ1 σ2 listed) oi fr r := by unfold st2; split; · exact y2
                                                                 · split; · exact y1
                                                                   · exact y0
      have hyl := hy G a w (fun t _ => hs.ev (.tmp t)) hs.w
      by_cases hw : Region.wanted oi (yielded ops a.tmps) = true
      · rw [if_pos hw]
        exact (key _ e1 (hyl.1 hw))
      · rw [if_neg hw]
        have hu := hyl.2 (by simpa using hw)
        exact wpAny_of_any2 hne hK hord fuel _ _ G _ w G0 w0 hsz' hinv hl (by rw [e1]; exact hs.put oi.dst hu) hk
theorem yOp2_put {i j : Nat} {oi oj : Oper} {v : AV} (hj : ops[j]? = some oj) (hap : oi.apart ops oj = true) {K : List AV → Prop} (hy : Y2 P ops A S σ σ1 σ2 i oi fr v) (h : yOp2 P ops A S σ σ1 σ2 j K (aput fr oi.dst v)) :
    yOp2 P ops A S σ σ1 σ2 j (fun fr' => Y2 P ops A S σ σ1 σ2 i oi fr' v ∧ K (aput fr' oi.dst v)) fr := by
  obtain ⟨h1, h2, h3⟩ := Oper.apart_spec hap
  unfold yOp2 at *
  simp only [hj] at *
  obtain ⟨r, hr, hk⟩ := h
  refine ⟨r, (Y2.put h1).1 hr, (Y2.put h3).2 hy, ?_⟩
  rw [← aput_comm fr v r h2]
  exact hk
theorem any2_first {md : Region.Mode} {K : Array Bool → List AV → Prop} {i : Nat} {oi : Oper} {v : AV} (hi : ops[i]? = some oi) : ∀ (fuel : Nat) (listed : Array Bool) (fr : List AV),
      (∀ j oj, ops[j]? = some oj → j ≠ i → listed.getD j true = false → (∀ e ∈ oj.after, Region.binds md e = true → e.on ≠ i) → oi.apart ops oj = true) →
      i ∈ Region.ready md ops listed → Y2 P ops A S σ σ1 σ2 i oi fr v →
      any2 P md ops A S σ σ1 σ2 K fuel (listed.setIfInBounds i true) (aput fr oi.dst v) → any2 P md ops A S σ σ1 σ2 K (fuel + 1) listed fr := by
  intro fuel
  have self : ∀ {K : List AV → Prop} {fr}, Y2 P ops A S σ σ1 σ2 i oi fr v → K (aput fr oi.dst v) → yOp2 P ops A S σ σ1 σ2 i K fr := fun hy hk => by
    unfold yOp2; simp only [hi]; exact ⟨v, hy, hk⟩
  induction fuel with
  | zero =>
    intro listed fr _ hr hy H
    refine ⟨fun h => (by rw [h] at hr; cases hr), fun j hj => ?_⟩
    by_cases hji : j = i
    · subst hji; exact self hy H
    · have := ready_mono hj hji
      rw [H.1] at this
      cases this
  | succ fuel ih =>
    intro listed fr hfree hr hy H
    refine ⟨fun h => (by rw [h] at hr; cases hr), fun j hj => ?_⟩
    by_cases hji : j = i
    · subst hji; exact self hy H
    · have h1 := H.2 j (ready_mono hj hji)
      obtain ⟨hjun, oj, hoj, hall⟩ := mem_ready.1 hj
      have hnot : ∀ e ∈ oj.after, Region.binds md e = true → e.on ≠ i := fun e he hb heq => by
        have h1 := hall e he hb
        have h0 := (mem_ready.1 hr).1
        rw [heq] at h1
        rcases Nat.lt_or_ge i listed.size with h' | h'
        · simp [h'] at h0 h1; rw [h0] at h1; cases h1
        · simp [Array.getElem?_eq_none h'] at h1
      have h2 := yOp2_put hoj (hfree j oj hoj hji hjun hnot) hy h1
      have hfree' : ∀ k ok, ops[k]? = some ok → k ≠ i → (listed.setIfInBounds j true).getD k true = false →
          (∀ e ∈ ok.after, Region.binds md e = true → e.on ≠ i) → oi.apart ops ok = true := fun k ok hk hki hun hno => by
        refine hfree k ok hk hki ?_ hno
        by_cases hjk : j = k
        · subst hjk; exact hjun
        · rw [getD_set_ne true hjk] at hun; exact hun
      refine yOp2_mono (fun fr' h3 => ih (listed.setIfInBounds j true) fr' hfree' (ready_mono hr (Ne.symm hji)) h3.1 ?_) h2
      rw [Array.setIfInBounds_comm _ _ hji]
      exact h3.2
/-- The order of the text. -/
def YL2 (P : Program) (ops : Array Oper) (A S : Nat) (σ σ1 σ2 : ASt) (K : List AV → Prop) : Nat → List Oper → List AV → Prop
  | _, [], fr => K fr
  | k, o :: rest, fr => ∃ r, Y2 P ops A S σ σ1 σ2 k o fr r ∧ YL2 P ops A S σ σ1 σ2 K (k + 1) rest (aput fr o.dst r)
theorem any2_lex {md : Region.Mode} {K : List AV → Prop} (hs : Region.noSelect ops = true) : ∀ (l : List Oper) (k : Nat) (listed : Array Bool) (fr : List AV), (∀ j, l[j]? = ops[k + j]?) →
    Region.lexFrom md ops l.length k listed = true → (listFrom l.length k listed).getD S true = true → YL2 P ops A S σ σ1 σ2 K k l fr → any2 P md ops A S σ σ1 σ2 (fun listed fr => listed.getD S true = true ∧ K fr) l.length listed fr
  | [], _, _, _, _, hB, hS, h => ⟨by simpa [Region.lexFrom] using hB, hS, h⟩
  | o :: l, k, listed, fr, hl, hB, hS, h => by
    have h0 : ops[k]? = some o := by simpa using (hl 0).symm
    simp only [List.length_cons, Region.lexFrom, Bool.and_eq_true] at hB
    obtain ⟨⟨hr, hf⟩, hB'⟩ := hB
    obtain ⟨r, hy, hK⟩ := h
    exact any2_first h0 l.length listed fr (Region.free_spec h0 hf) (by simpa using hr) hy
      (any2_lex hs l (k + 1) _ _ (fun j => by have := hl (j + 1); simpa [Nat.add_assoc, Nat.add_comm 1 j] using this) hB' hS hK)
/-- What the two need. -/
def specB (l : List Oper) (A S : Nat) : Bool :=
  decide (A ≠ S ∧ A < l.length) && (listFrom l.length 0 (Array.replicate l.length false)).getD S true && (match l[S]? with | some o => o.after.any fun e => Region.binds .any e && e.on == A | none => false) && Region.lexB .any l.toArray
theorem aw_draw2 {id : Nat} {l : List Oper} (A S : Nat) (hm : P.follows .mixedOrders = true) (hB : specB l A S = true) (h : YL2 P l.toArray A S σ σ1 σ2 (fun fr => Q .normal fr σ2) 0 l fr) : AW P D (.region id l.toArray true) Q fr σ := by
  intro _ _ G a w hs
  simp only [specB, Bool.and_eq_true, decide_eq_true_eq, Region.lexB] at hB
  obtain ⟨⟨⟨⟨hne, hAl⟩, hend⟩, hord⟩, hB1, hB2⟩ := hB
  have hb : Go.RowKit.Below w.heap.size w { w with drawn := w.drawn + 1 } := ⟨rfl, rfl, rfl, Nat.le_refl _, fun _ _ => rfl⟩
  have hs2 : Sim G fr σ D a { w with drawn := w.drawn + 1 } := hs.le (Le.grow hs.w hb) (hs.w.grow hb)
  have h0 : ∀ j, j < l.length → (Array.replicate l.length false).getD j true = false := fun j hj => by simp [hj]
  have hSl : S < l.length := by
    rcases Nat.lt_or_ge S l.length with h' | h'
    · exact h'
    · rw [List.getElem?_eq_none h'] at hord; cases hord
  have hord' : ∀ oS, l.toArray[S]? = some oS → ∃ e ∈ oS.after, Region.binds .any e = true ∧ e.on = A := by
    intro oS ho
    have ho : l[S]? = some oS := by simpa using ho
    rw [ho] at hord
    obtain ⟨e, he, hb⟩ := Array.any_eq_true'.1 hord
    simp only [Bool.and_eq_true, beq_iff_eq] at hb
    exact ⟨e, he, hb⟩
  have hst : st2 A S σ σ1 σ2 (Array.replicate l.length false) = σ := by
    unfold st2; rw [if_neg (by rw [h0 S hSl]; decide), if_neg (by rw [h0 A hAl]; decide)]
  have hl2 := any2_lex (P := P) (A := A) (S := S) (σ := σ) (σ1 := σ1) (σ2 := σ2) (K := fun fr => Q .normal fr σ2) (md := .any) hB1 l 0 (Array.replicate l.length false) fr (by simp) (by simpa using hB2) hend h
  refine wp_region_any hm ?_
  have hsz : l.toArray.size = l.length := by simp
  rw [hsz]
  exact wpAny_of_any2 hne (fun listed fr h => h) hord' _ _ fr G a _ G w (by simp) (fun h => by rw [h0 S hSl] at h; cases h) (Le.grow hs.w hb) (by rw [hst]; exact hs2) hl2
/-! ### how it is shown -/
/-- As far as it goes. -/
def YR2 (P : Program) (ops : Array Oper) (A S : Nat) (σ σ1 σ2 : ASt) (K : List AV → Prop) : Nat → List Oper → List AV → Prop
  | _, [], fr => K fr
  | k, o :: rest, fr =>
    if k = A ∨ k = S ∨ o.guard.isSome = true then YL2 P ops A S σ σ1 σ2 K k (o :: rest) fr else
    match aopP P o (aev fr) σ, aopP P o (aev fr) σ1, aopP P o (aev fr) σ2 with
    | some r, some r1, some r2 => (r1 = r ∧ r2 = r) ∧ Shut (YR2 P ops A S σ σ1 σ2 K (k + 1) rest (aput fr o.dst r))
    | _, _, _ => YL2 P ops A S σ σ1 σ2 K k (o :: rest) fr
theorem yl2_run {K : List AV → Prop} : ∀ {l : List Oper} {k : Nat} {fr : List AV}, YR2 P ops A S σ σ1 σ2 K k l fr → YL2 P ops A S σ σ1 σ2 K k l fr
  | [], _, _, h => h
  | o :: rest, k, fr, h => by
    unfold YR2 at h
    split at h
    · exact h
    · rename_i hc
      have hA : k ≠ A := fun e => hc (.inl e)
      have hS : k ≠ S := fun e => hc (.inr (.inl e))
      have hg : o.guard = none := by
        cases hq : o.guard with
        | none => rfl
        | some x => exact absurd (by rw [hq]; rfl) (fun e => hc (.inr (.inr e)))
      split at h
      · rename_i r r1 r2 e0 e1 e2
        obtain ⟨⟨rfl, rfl⟩, h⟩ := h
        exact ⟨_, .inr (.inr ⟨hA, hS, yld_plain hg e0, yld_plain hg e1, yld_plain hg e2⟩), yl2_run h.out⟩
      · exact h
@[simp] theorem shut_y2nil {K : List AV → Prop} {k : Nat} : Shut (YR2 P ops A S σ σ1 σ2 K k [] fr) ↔ K fr := ⟨fun h => h.1, fun h => ⟨h⟩⟩
@[simp] theorem shut_y2cons {K : List AV → Prop} {o : Oper} {rest : List Oper} {k : Nat} : Shut (YR2 P ops A S σ σ1 σ2 K k (o :: rest) fr) ↔ (
    if k = A ∨ k = S ∨ o.guard.isSome = true then YL2 P ops A S σ σ1 σ2 K k (o :: rest) fr else
    match aopP P o (aev fr) σ, aopP P o (aev fr) σ1, aopP P o (aev fr) σ2 with
    | some r, some r1, some r2 => (r1 = r ∧ r2 = r) ∧ Shut (YR2 P ops A S σ σ1 σ2 K (k + 1) rest (aput fr o.dst r))
    | _, _, _ => YL2 P ops A S σ σ1 σ2 K k (o :: rest) fr) := ⟨fun h => by have := h.1; unfold YR2 at this; exact this, fun h => ⟨by unfold YR2; exact h⟩⟩
theorem aw_draw2' {id : Nat} {l : List Oper} (A S : Nat) (σ1 σ2 : ASt) (hm : P.follows .mixedOrders = true) (hB : specB l A S = true) (h : Shut (YR2 P l.toArray A S σ σ1 σ2 (fun fr => Q .normal fr σ2) 0 l fr)) : AW P D (.region id l.toArray true) Q fr σ :=
  aw_draw2 A S hm hB (yl2_run h.out)
theorem yldT_opq {τ : ASt} {o : Oper} {r : AV} (hg : o.guard = none) (h : ∀ ρ, (∀ x ∈ o.op.operands, ρ x = aev fr x) → OpQ P o ρ σ fun r' σ' => r' = r ∧ σ' = τ) : YldT P ops σ τ o fr r := by
  intro G a w ha hw
  exact ⟨by simp [Region.wanted, hg], h (only o (aev fr)) (fun x hx => (only_eq x hx).symm) G a.eval w (only_rep ha) hw⟩
theorem yl2_alloc {K : List AV → Prop} {o : Oper} {rest : List Oper} {t : TypeId} {z : AV} (ho : o.op = .alloc t) (hg : o.guard = none) (hz : tzero P t = some z) (hx : AV.okv z = true)
    (hk : Shut (YR2 P ops A S σ (σ.addBx z.cells) σ2 K (A + 1) rest (aput fr o.dst (.ptr σ.next 0)))) : YL2 P ops A S σ (σ.addBx z.cells) σ2 K A (o :: rest) fr :=
  ⟨_, .inl ⟨rfl, yldT_opq hg fun ρ _ => opq_alloc_mut ho hz hx ⟨rfl, rfl⟩⟩, yl2_run hk.out⟩
theorem yl2_store {K : List AV → Prop} {o : Oper} {rest : List Oper} {t : TypeId} {x y : Operand} (ho : o.op = .store t x y) (hg : o.guard = none) (h : astore P σ1 t (aev fr x) (aev fr y) = some σ2)
    (hk : Shut (YR2 P ops A S σ σ1 σ2 K (S + 1) rest (aput fr o.dst (.p undef)))) : YL2 P ops A S σ σ1 σ2 K S (o :: rest) fr :=
  ⟨_, .inr (.inl ⟨rfl, yldT_opq hg fun ρ hρ => opq_store ho (by rw [hρ x (by rw [ho]; simp [Op.operands]), hρ y (by rw [ho]; simp [Op.operands])]; exact h) ⟨rfl, rfl⟩⟩), yl2_run hk.out⟩
theorem yl2_pure {K : List AV → Prop} {o : Oper} {rest : List Oper} {k : Nat} {f : Operand} {aa : Array Operand} {ts : Array TypeId} (hA : k ≠ A) (hS : k ≠ S) (ho : o.op = .call { callee := .value f, args := aa, argTypes := ts }) (hg : o.guard = none)
    {F : FuncId} {first cap : List AV} (hf : acallee (aev fr f) = some (F, first, cap)) (hc : callable P F = true) {args : List AV} (ha : first ++ aa.toList.map (aev fr) ++ cap = args) {r : AV} (h : APure P F args r) (hcl : ∀ a ∈ args, Cl a) (hr : Cl r)
    (hk : Shut (YR2 P ops A S σ σ1 σ2 K (k + 1) rest (aput fr o.dst r))) : YL2 P ops A S σ σ1 σ2 K k (o :: rest) fr :=
  ⟨r, .inr (.inr ⟨hA, hS, yld_opq hg fun ρ hρ => opq_pure (ρ0 := aev fr) ho hf hc ha h hcl hr hρ, yld_opq hg fun ρ hρ => opq_pure (ρ0 := aev fr) ho hf hc ha h hcl hr hρ, yld_opq hg fun ρ hρ => opq_pure (ρ0 := aev fr) ho hf hc ha h hcl hr hρ⟩), yl2_run hk.out⟩
end Go.AL
/-! Arguments that are slices. -/
namespace Go.AL
open Go.RowKit (Below)
set_option linter.unusedVariables false
theorem cell_lt {W : World} {β o : Nat} {v : Value} (h : W.cell? ⟨β, o, none⟩ = some v) : β < W.heap.size := by
  rcases Nat.lt_or_ge β W.heap.size with h' | h'
  · exact h'
  · unfold World.cell? at h; simp [Array.getElem?_eq_none h'] at h
theorem rep_rows {W : World} {β o k len cap : Nat} (xs : Nat → List Value) (hk : ∀ i, i < len → (xs i).length = k) (hle : len ≤ cap) (F : Nat → AV) (hF : ∀ i, i < len → (F i).cells = (xs i).map AV.p)
    (hc : ∀ i, i < len → ∀ j c, (xs i)[j]? = some c → W.cell? ⟨β, o + (i * k + j), none⟩ = some c) : Rep (G0 W) W (.vsl ((List.range len).map F)) (.slice (some ⟨β, o, none⟩) len cap) := by
  have at_ : ∀ (i j : Nat) c, rowCell ((List.range len).map F) i j = some c → i < len ∧ ∃ u, (xs i)[j]? = some u ∧ c = .p u := by
    intro i j c h
    unfold rowCell at h
    obtain ⟨x, h1, h2⟩ := Option.bind_eq_some_iff.1 h
    rw [List.getElem?_map] at h1
    obtain ⟨i', h3, rfl⟩ := Option.map_eq_some_iff.1 h1
    obtain ⟨hi, rfl⟩ : i < len ∧ i = i' := by
      have := List.getElem?_eq_some_iff.1 h3
      obtain ⟨hl, he⟩ := this
      simp at hl he
      exact ⟨hl, he⟩
    rw [hF i hi, List.getElem?_map] at h2
    obtain ⟨u, h4, rfl⟩ := Option.map_eq_some_iff.1 h2
    exact ⟨hi, u, h4, rfl⟩
  have key := Rep.vsl (G := G0 W) (w := W) ((List.range len).map F) β o k cap (fun i j => (xs i).getD j undef) (by simpa using hle)
    (fun i x hx => by
      rw [List.getElem?_map] at hx
      obtain ⟨i', h3, rfl⟩ := Option.map_eq_some_iff.1 hx
      obtain ⟨hl, he⟩ := List.getElem?_eq_some_iff.1 h3
      simp at hl he
      subst he
      rw [hF i hl, List.length_map]; exact hk i hl)
    (fun i j c h => by
      obtain ⟨hi, u, hu, rfl⟩ := at_ i j c h
      have := hc i hi j u hu
      rw [Nat.add_assoc]
      exact ⟨cell_lt this, by rw [this, List.getD, hu]; rfl⟩)
    (fun i j c h => by
      obtain ⟨hi, u, hu, rfl⟩ := at_ i j c h
      have e : (xs i).getD j undef = u := by rw [List.getD, hu]; rfl
      rw [e]
      exact .p u)
  simpa using key
end Go.AL
