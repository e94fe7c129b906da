/- Parts of the proof of MonoHolds: the logic, contracts, plain laws. -/
import Derived.Test.YtjldlcakinmajaaZMonoHolds15
import Derived.Test.YtjldlcakinmajaaZMonoHolds10
import Derived.Test.YtjldlcakinmajaaZMonoHolds14
import Derived.Test.YtjldlcakinmajaaZMonoHolds12
/-! Contracts: gridironref04.Scan. -/
namespace Go.AL
open Go.Proofs
set_option linter.unusedSimpArgs false
set_option linter.unusedVariables false
theorem scanL_32 (sz n : Nat) (l : List UInt8) : scanL sz (n + 1) (32 :: l) = scanL sz n l := by rw [scanL, if_pos rfl]
set_option maxHeartbeats 4000000 in
set_option maxRecDepth 100000 in
theorem rscan_ok (s : ByteArray) (hs : s.size ≤ 281474976710656) : APure Try.prog 51 [vs s] (.tup [.vsl ((scanS s).1.map tokA), vi ((scanS s).2.1 : Nat), vi (scanS s).2.2]) := by
  by_cases h2 : 200 < s.size
  · have e : scanS s = ([], 0, 3) := if_pos h2
    rw [e]
    refine apure_in Try.func51 Try.ntmps51 rfl ?_
    repeat' first | refine aw_M [7] trivial trivial ?_ | refine aw_cond rfl (fun h => ?_) (fun h => ?_)
    · simp [tupOf]
    · simp at h; omega
  have e : scanS s = scanL s.size s.size s.data.toList := if_neg h2
  rw [e]
  obtain ⟨⟨L⟩⟩ := s
  have hsz : (⟨⟨L⟩⟩ : ByteArray).size = L.length := rfl
  rw [hsz] at h2 hs ⊢
  show APure _ _ _ (.tup [.vsl ((scanL L.length L.length L).1.map tokA), vi ((scanL L.length L.length L).2.1 : Nat), vi (scanL L.length L.length L).2.2])
  have h2i : ¬ (200 : Int) < L.length := by omega
  refine apure_in Try.func51 Try.ntmps51 rfl ?_
  repeat' first | refine aw_N [7] (And.intro @bsizeL @h2i) trivial ?_ | refine aw_cond rfl (fun h => ?_) (fun h => ?_)
  refine aw_open (i := 5) rfl ?_
  refine aw_loopW [0, 5, 6] (fun n fr σ => ∃ (k m : Nat) (ts : List (Tok × Nat)) (pre l : List UInt8), k < m ∧ l.length = n ∧ L = pre ++ l ∧ ts.length ≤ pre.length ∧ scanL L.length L.length L = scanAcc ts (scanL L.length l.length l) ∧ σ = oneSl k (ts.map tokA) m ∧ fr = frm 39 [(0, vs ⟨⟨L⟩⟩), (5, .hsl k 0 ts.length), (6, vi (pre.length : Nat))]) L.length ?_ ?_
  · refine ⟨oneSl 0 [] 1, le_oneSl rfl (by decide), 0, 1, [], [], L, by decide, rfl, rfl, by simp, (scanAcc_nil _ _ _).symm, rfl, ?_⟩
    simp [σ0]
  · rintro n fr σ ⟨k, m, ts, pre, l, hkm, hn, hL, htl, hsc, rfl, rfl⟩
    simp
    have hlen : L.length = pre.length + l.length := by rw [hL]; simp
    have hp : (0 : Int) ≤ pre.length := by omega
    have w1 : IntKind.i64.wrap ((pre.length : Int) + 1) = (pre.length : Int) + 1 := wrap_id (by omega) (by omega)
    match l, hn, hL, hsc, hlen with
    | [], hn, hL, hsc, hlen =>
      have hnl : ¬ pre.length < L.length := by simp at hlen; omega
      repeat' first | refine aw_M [7] (And.intro @bsizeL @hnl) trivial ?_ | refine aw_cond rfl (fun h => ?_) (fun h => ?_)
      rw [hsc]
      simp [tupOf, scanAcc, scanL, List.take_of_length_le]
    | b :: l, hn, hL, hsc, hlen =>
      simp only [List.length_cons] at hn hlen hsc
      have hlt : pre.length < L.length := by omega
      have hget : L[pre.length] = b := by
        have := at0 pre b l
        rw [← hL, List.getElem?_eq_getElem hlt] at this
        exact Option.some.inj this
      by_cases hb : b = 32
      · subst hb
        rw [scanL_32] at hsc
        repeat' first | refine aw_N [7] (And.intro @bsizeL (And.intro @hlt (And.intro @hget @w1))) trivial ?_ | refine aw_cond rfl (fun h => ?_) (fun h => ?_)
        refine ⟨l.length, by omega, oneSl k (ts.map tokA) m, le_oneSl (by simp) (by simp), k, m, hkm, ts, pre ++ [32], l, rfl, by rw [hL]; simp, by simp; omega, hsc, rfl, ?_⟩
        simp
      · have hb2 : ¬ (b.toNat : Int) = 32 := fun h => hb (u8c.1 h)
        have hone := rone_ok pre b l (by rw [← hL]; omega) _ rfl
        have hnl := nextT_len b l
        have hst : scanL L.length (l.length + 1) (b :: l) = if (nextT ⟨⟨b :: l⟩⟩ b).len = 0 then ([], L.length - (l.length + 1), 2) else scanK (nextT ⟨⟨b :: l⟩⟩ b, L.length - (l.length + 1)) (scanL L.length l.length ((b :: l).drop (nextT ⟨⟨b :: l⟩⟩ b).len)) := by
          rw [scanL, if_neg hb]
        rw [← hL] at hone
        rw [show L.length - (l.length + 1) = pre.length from by omega] at hst
        generalize nextT ⟨⟨b :: l⟩⟩ b = x at *
        by_cases hx : x.len = 0
        · rw [if_pos hx] at hst
          rw [hst] at hsc
          rw [hx] at hone
          simp only [Tok.av] at hone
          repeat' first | refine aw_M [7] (And.intro @bsizeL (And.intro @hlt (And.intro @hget @hb2))) (And.intro @hone trivial) ?_ | refine aw_cond rfl (fun h => ?_) (fun h => ?_)
          rw [hsc]
          simp [tupOf, scanAcc]
        · rw [if_neg hx] at hst
          rw [if_neg hx] at hone
          simp only [Tok.av] at hone
          have w2 : IntKind.i64.wrap ((pre.length : Int) + (x.len : Int)) = (pre.length : Int) + (x.len : Int) := wrap_id (by omega) (by omega)
          repeat' first | refine aw_N [7] (And.intro @bsizeL (And.intro @hlt (And.intro @hget (And.intro @hb2 @hx)))) (And.intro @hone trivial) ?_ | refine aw_cond rfl (fun h => ?_) (fun h => ?_)
          refine awl_append [7] rfl rfl rfl (xs := ts.map tokA) (by simp) (by simp) rfl (by simp) te112 tet112 tz135 rfl ?_ (by simp) (by simp; omega) (by simp; omega) ?_
          · intro y hy
            obtain ⟨p, _, rfl⟩ := List.mem_map.1 hy
            rfl
          simp -implicitDefEqProofs
          repeat' first | refine aw_N [7] @w2 trivial ?_ | refine aw_cond rfl (fun h => ?_) (fun h => ?_)
          refine ⟨l.length + 1 - x.len, by omega, oneSl (m + 1) ((ts ++ [(x, pre.length)]).map tokA) (m + 2), le_oneSl (by simp [List.take_of_length_le, tokA, Tok.av]) (by simp), m + 1, m + 2, by omega, ts ++ [(x, pre.length)], pre ++ (b :: l).take x.len, (b :: l).drop x.len, ?_, ?_, ?_, ?_, rfl, ?_⟩
          · simp
          · rw [List.append_assoc, List.take_append_drop]; exact hL
          · simp; omega
          · rw [hsc, hst, scanAcc_K, scanL_fuel _ l.length ((b :: l).drop x.len).length _ (by simp; omega) (Nat.le_refl _)]
          · have : min x.len (l.length + 1) = x.len := by omega
            simp [this]
end Go.AL
/-! Trees. -/
namespace Go.AL
open Go.Proofs
set_option linter.unusedSimpArgs false
set_option linter.unusedVariables false
set_option maxRecDepth 100000 in
theorem has_place {n : Nat} {x : AV} (h : hasF Try.prog n 24 x) : ∃ c r, x = place c r ∧ In64 c ∧ In64 r := by
  obtain ⟨m, cs, rfl, rfl, hl, hf⟩ := has_struct h Try.underlying24
  rw [show Try.prog.cellsOf 24 = 2 by kernel_rfl] at hl
  have ci : Try.prog.cellsOf 3 = 1 := by kernel_rfl
  simp only [List.mem_cons, List.not_mem_nil, or_false, forall_eq_or_imp, forall_eq] at hf
  obtain ⟨⟨y0, h0, e0⟩, y1, h1, e1⟩ := hf
  obtain ⟨c, rfl, hc⟩ := has_i64 h0 Try.underlying3
  obtain ⟨r, rfl, hr⟩ := has_i64 h1 Try.underlying3
  match cs, hl with
  | [a, b], _ =>
    simp only [ci, List.drop_zero, List.take_succ_cons, List.take_zero, List.drop_succ_cons, List.cons.injEq, and_true, AV.cells] at e0 e1
    subst e0; subst e1
    exact ⟨c, r, rfl, hc, hr⟩
set_option maxRecDepth 100000 in
theorem has_range {n : Nat} {x : AV} (h : hasF Try.prog n 26 x) : ∃ a b c d, x = range a b c d ∧ In64 a ∧ In64 b ∧ In64 c ∧ In64 d := by
  obtain ⟨m, cs, rfl, rfl, hl, hf⟩ := has_struct h Try.underlying26
  rw [show Try.prog.cellsOf 26 = 4 by kernel_rfl] at hl
  have ci : Try.prog.cellsOf 24 = 2 := by kernel_rfl
  simp only [List.mem_cons, List.not_mem_nil, or_false, forall_eq_or_imp, forall_eq] at hf
  obtain ⟨⟨y0, h0, e0⟩, y1, h1, e1⟩ := hf
  obtain ⟨a, b, rfl, ha, hb⟩ := has_place h0
  obtain ⟨c, d, rfl, hc, hd⟩ := has_place h1
  match cs, hl with
  | [x0, x1, x2, x3], _ =>
    simp only [ci, List.drop_zero, List.take_succ_cons, List.take_zero, List.drop_succ_cons, List.cons.injEq, and_true, AV.cells] at e0 e1
    obtain ⟨rfl, rfl⟩ := e0
    obtain ⟨rfl, rfl⟩ := e1
    exact ⟨a, b, c, d, rfl, ha, hb, hc, hd⟩
/-- A tree: its kind, number, range, word, kids. -/
inductive Tree where
  | mk (k n a b c d : Int) (w : ByteArray) (kids : List Tree)
mutual
def Tree.av : Tree → AV
  | .mk k n a b c d w ks => .agg [vi k, vi n, vi a, vi b, vi c, vi d, vs w, .vsl (avs ks)]
def avs : List Tree → List AV
  | [] => []
  | t :: ts => t.av :: avs ts
end
theorem avs_map : ∀ l : List Tree, avs l = l.map Tree.av
  | [] => rfl
  | t :: ts => by rw [avs, avs_map ts]; rfl
mutual
/-- Its numbers are such as a machine has. -/
def Tree.In : Tree → Prop
  | .mk k n a b c d w ks => In64 k ∧ In64 n ∧ In64 a ∧ In64 b ∧ In64 c ∧ In64 d ∧ w.size ≤ 9223372036854775807 ∧ ks.length ≤ 9223372036854775807 ∧ ins ks
def ins : List Tree → Prop
  | [] => True
  | t :: ts => t.In ∧ ins ts
end
theorem ins_all : ∀ l : List Tree, ins l ↔ ∀ t ∈ l, t.In
  | [] => by simp [ins]
  | t :: ts => by rw [ins, ins_all ts]; simp
mutual
theorem Tree.cl : ∀ t : Tree, Cl t.av
  | .mk k n a b c d w ks => by
    refine .agg _ fun x hx => ?_
    simp at hx
    rcases hx with rfl | rfl | rfl | rfl | rfl | rfl | rfl | rfl
    all_goals first | exact .p _ | exact .vsl _ (cls ks)
theorem cls : ∀ (l : List Tree), ∀ c ∈ avs l, Cl c
  | [], c, h => by simp [avs] at h
  | t :: ts, c, h => by
    rw [avs] at h
    rcases List.mem_cons.1 h with rfl | h
    · exact t.cl
    · exact cls ts c h
end
set_option maxRecDepth 100000 in
theorem tree_has : ∀ (n : Nat) (x : AV), hasF Try.prog n 29 x → ∃ T : Tree, x = T.av ∧ T.In := by
  intro n
  induction n using Nat.strongRecOn with
  | _ n ih =>
  intro x h
  obtain ⟨m, cs, rfl, rfl, hl, hf⟩ := has_struct h Try.underlying29
  rw [show Try.prog.cellsOf 29 = 8 by kernel_rfl] at hl
  have c1 : Try.prog.cellsOf 3 = 1 := by kernel_rfl
  have c2 : Try.prog.cellsOf 22 = 1 := by kernel_rfl
  have c3 : Try.prog.cellsOf 26 = 4 := by kernel_rfl
  have c4 : Try.prog.cellsOf 9 = 1 := by kernel_rfl
  have c5 : Try.prog.cellsOf 27 = 1 := by kernel_rfl
  simp only [List.mem_cons, List.not_mem_nil, or_false, forall_eq_or_imp, forall_eq] at hf
  obtain ⟨⟨y0, h0, e0⟩, ⟨y1, h1, e1⟩, ⟨y2, h2, e2⟩, ⟨y3, h3, e3⟩, y4, h4, e4⟩ := hf
  obtain ⟨k, rfl, hk⟩ := has_i64 h0 Try.underlying22
  obtain ⟨nn, rfl, hn⟩ := has_i64 h1 Try.underlying3
  obtain ⟨a, b, c, d, rfl, ha, hb, hc, hd⟩ := has_range h2
  obtain ⟨w, rfl, hw⟩ := has_str h3 Try.underlying9
  obtain ⟨m', xs, rfl, rfl, hx, hy⟩ := has_slice h4 Try.underlying27
  obtain ⟨l, rfl, hl2⟩ := list_of (f := Tree.av) (r := Tree.In) (fun y hy => ih m' (by omega) y hy) xs hy
  match cs, hl with
  | [x0, x1, x2, x3, x4, x5, x6, x7], _ =>
    simp only [c1, c2, c3, c4, c5, List.drop_zero, List.take_succ_cons, List.take_zero, List.drop_succ_cons, List.cons.injEq, and_true, AV.cells] at e0 e1 e2 e3 e4
    subst e0; subst e1; subst e3; subst e4
    obtain ⟨rfl, rfl, rfl, rfl⟩ := e2
    refine ⟨.mk k nn a b c d w l, by rw [Tree.av, avs_map], hk, hn, ha, hb, hc, hd, hw, by simpa using hx, (ins_all l).2 hl2⟩
end Go.AL
/-! Contracts: gridironref05.Reader's small functions. -/
namespace Go.AL
open Go.Proofs
set_option linter.unusedSimpArgs false
set_option linter.unusedVariables false
/-- A reader's state: where it is, whether it failed, where. -/
structure RS where
  at_ : Nat
  fl : Bool
  wh : Nat
def rdc (ts : List (Tok × Nat)) (en : Nat) (s : RS) : List AV := [.vsl (ts.map tokA), vi (s.at_ : Nat), vi (en : Nat), vb s.fl, vi (s.wh : Nat)]
@[simp] theorem rdc_cl (ts : List (Tok × Nat)) (en : Nat) (s : RS) : ∀ c ∈ rdc ts en s, Cl c := by
  intro c hc
  simp [rdc] at hc
  rcases hc with rfl | rfl | rfl | rfl | rfl
  · exact .vsl _ fun c hc => by
      obtain ⟨p, _, rfl⟩ := List.mem_map.1 hc
      exact tok_cl _ _
  all_goals exact .p _
def isMark (ts : List (Tok × Nat)) (i : Nat) (m : ByteArray) : Bool := match ts[i]? with | some p => decide (p.1.k = 5) && decide (p.1.t = m) | none => false
def markP (ts : List (Tok × Nat)) (s : RS) (more : Nat) (m : ByteArray) : Bool := !s.fl && isMark ts (s.at_ + more) m
def failS (ts : List (Tok × Nat)) (en : Nat) (s : RS) : RS := if s.fl = true then s else ⟨s.at_, true, match ts[s.at_]? with | some p => p.2 | none => en⟩
def RS.next (s : RS) : RS := ⟨s.at_ + 1, s.fl, s.wh⟩
def mustS (ts : List (Tok × Nat)) (en : Nat) (s : RS) (m : ByteArray) : RS := if markP ts s 0 m = true then s.next else failS ts en s
def lvl (t : ByteArray) : Int := if t = ⟨#[60]⟩ ∨ t = ⟨#[60, 61]⟩ ∨ t = ⟨#[61]⟩ ∨ t = ⟨#[60, 62]⟩ ∨ t = ⟨#[62, 61]⟩ ∨ t = ⟨#[62]⟩ then 1 else if t = ⟨#[43]⟩ ∨ t = ⟨#[45]⟩ then 2 else if t = ⟨#[42]⟩ ∨ t = ⟨#[47]⟩ then 3 else 0
def levelP (ts : List (Tok × Nat)) (s : RS) : Int := if s.fl = true then 0 else match ts[s.at_]? with | some p => if p.1.k = 5 then lvl p.1.t else 0 | none => 0
def endP (ts : List (Tok × Nat)) (s : RS) : Bool := !s.fl && match ts[s.at_]? with | some p => decide (p.1.k = 2) || decide (p.1.k = 3) | none => false
set_option maxHeartbeats 4000000 in
set_option maxRecDepth 100000 in
theorem rmark5_ok (ts : List (Tok × Nat)) (en : Nat) (s : RS) (more : Nat) (m : ByteArray) (h1 : s.at_ ≤ ts.length) (h2 : ts.length ≤ 100000) (h3 : more ≤ 1) :
    BK Try.prog 107 [.ptr 0 0, vi (more : Nat), vs m] (rdc ts en s) (vb (markP ts s more m)) (rdc ts en s) := by
  obtain ⟨i, fl, wh⟩ := s
  have w1 : IntKind.i64.wrap ((i : Int) + (more : Int)) = (i : Int) + (more : Int) := wrap_id (by simp at h1; omega) (by simp at h1; omega)
  have p1 : (0 : Int) ≤ (i : Int) + (more : Int) := by omega
  have p2 : ((i : Int) + (more : Int)).toNat = i + more := by omega
  refine ⟨?_, rdc_cl _ _ _, rdc_cl _ _ _, by first | exact .p _ | exact .tup _ (by simp)⟩
  unfold rdc
  refine bc_of Try.func107 Try.ntmps107 rfl ?_
  simp only [List.length_cons, List.length_nil, List.cons_append, List.nil_append, List.replicate]
  cases fl with
  | true =>
    by_cases hlt : i + more < ts.length
    · have hlti : (i : Int) + (more : Int) < ts.length := by omega
      repeat' (first
        | refine aw_seq ?_
        | ((first | refine aw_run [] ?_ | refine aw_ymix [] draws (by decide +kernel) ?_); try simp -implicitDefEqProofs (maxSteps := 1000000) [rdc, w1, p1, p2, hlt, hlti, tokA, Tok.av])
        | ((first | refine aw_zrun [] [] draws (by decide +kernel) (by decide +kernel) ?_ | refine zl_skip (by simp) rfl ?_); try simp -implicitDefEqProofs (maxSteps := 1000000) [rdc, w1, p1, p2, hlt, hlti, tokA, Tok.av]; repeat first | refine zcurL (by decide +kernel) ?_ | refine zcurH (by decide +kernel) ?_ | refine zcurL' (by decide +kernel) ?_ | refine zcurH' (by decide +kernel) ?_)
        | ((first | refine aw_yrun draws (by kernel_rfl) ?_ | refine awl_skip' [] rfl ?_ | refine yl_skip rfl ?_ | refine aw_skip ?_ | refine aw_exit ?_); try simp -implicitDefEqProofs (maxSteps := 1000000) [rdc, w1, p1, p2, hlt, hlti, tokA, Tok.av])
        | (refine aw_cond rfl (fun h => ?_) (fun h => ?_) <;> try (with_reducible first | exact ff_tt h | exact tt_ff h))
        | refine aw_block ?_
        | refine aw_ret (ret_of (.inr rfl) (by simp [Try.results107]; rfl) (Fin.of ?_))
        | refine ret_of (.inl rfl) (by simp [Try.results107]; rfl) (Fin.of ?_))
      exact ⟨rfl, rfl⟩
    · have hlti : ¬ (i : Int) + (more : Int) < ts.length := by omega
      repeat' (first
        | refine aw_seq ?_
        | ((first | refine aw_run [] ?_ | refine aw_ymix [] draws (by decide +kernel) ?_); try simp -implicitDefEqProofs (maxSteps := 1000000) [rdc, w1, p1, p2, hlt, hlti])
        | ((first | refine aw_zrun [] [] draws (by decide +kernel) (by decide +kernel) ?_ | refine zl_skip (by simp) rfl ?_); try simp -implicitDefEqProofs (maxSteps := 1000000) [rdc, w1, p1, p2, hlt, hlti]; repeat first | refine zcurL (by decide +kernel) ?_ | refine zcurH (by decide +kernel) ?_ | refine zcurL' (by decide +kernel) ?_ | refine zcurH' (by decide +kernel) ?_)
        | ((first | refine aw_yrun draws (by kernel_rfl) ?_ | refine awl_skip' [] rfl ?_ | refine yl_skip rfl ?_ | refine aw_skip ?_ | refine aw_exit ?_); try simp -implicitDefEqProofs (maxSteps := 1000000) [rdc, w1, p1, p2, hlt, hlti])
        | (refine aw_cond rfl (fun h => ?_) (fun h => ?_) <;> try (with_reducible first | exact ff_tt h | exact tt_ff h))
        | refine aw_block ?_
        | refine aw_ret (ret_of (.inr rfl) (by simp [Try.results107]; rfl) (Fin.of ?_))
        | refine ret_of (.inl rfl) (by simp [Try.results107]; rfl) (Fin.of ?_))
      exact ⟨rfl, rfl⟩
  | false =>
    by_cases hlt : i + more < ts.length
    · obtain ⟨q, hq⟩ : ∃ q, ts[i + more] = q := ⟨_, rfl⟩
      have hlti : (i : Int) + (more : Int) < ts.length := by omega
      repeat' (first
        | refine aw_seq ?_
        | ((first | refine aw_run [] ?_ | refine aw_ymix [] draws (by decide +kernel) ?_); try simp -implicitDefEqProofs (maxSteps := 1000000) [rdc, w1, p1, p2, hlt, hlti, hq, tokA, Tok.av])
        | ((first | refine aw_zrun [] [] draws (by decide +kernel) (by decide +kernel) ?_ | refine zl_skip (by simp) rfl ?_); try simp -implicitDefEqProofs (maxSteps := 1000000) [rdc, w1, p1, p2, hlt, hlti, hq, tokA, Tok.av]; repeat first | refine zcurL (by decide +kernel) ?_ | refine zcurH (by decide +kernel) ?_ | refine zcurL' (by decide +kernel) ?_ | refine zcurH' (by decide +kernel) ?_)
        | ((first | refine aw_yrun draws (by kernel_rfl) ?_ | refine awl_skip' [] rfl ?_ | refine yl_skip rfl ?_ | refine aw_skip ?_ | refine aw_exit ?_); try simp -implicitDefEqProofs (maxSteps := 1000000) [rdc, w1, p1, p2, hlt, hlti, hq, tokA, Tok.av])
        | (refine aw_cond rfl (fun h => ?_) (fun h => ?_) <;> try (with_reducible first | exact ff_tt h | exact tt_ff h))
        | refine aw_block ?_
        | refine aw_ret (ret_of (.inr rfl) (by simp [Try.results107]; rfl) (Fin.of ?_))
        | refine ret_of (.inl rfl) (by simp [Try.results107]; rfl) (Fin.of ?_))
      refine ⟨?_, rfl⟩
      simp [tupOf, markP, isMark, hlt, hq]
    · have hlti : ¬ (i : Int) + (more : Int) < ts.length := by omega
      repeat' (first
        | refine aw_seq ?_
        | ((first | refine aw_run [] ?_ | refine aw_ymix [] draws (by decide +kernel) ?_); try simp -implicitDefEqProofs (maxSteps := 1000000) [rdc, w1, p1, p2, hlt, hlti])
        | ((first | refine aw_zrun [] [] draws (by decide +kernel) (by decide +kernel) ?_ | refine zl_skip (by simp) rfl ?_); try simp -implicitDefEqProofs (maxSteps := 1000000) [rdc, w1, p1, p2, hlt, hlti]; repeat first | refine zcurL (by decide +kernel) ?_ | refine zcurH (by decide +kernel) ?_ | refine zcurL' (by decide +kernel) ?_ | refine zcurH' (by decide +kernel) ?_)
        | ((first | refine aw_yrun draws (by kernel_rfl) ?_ | refine awl_skip' [] rfl ?_ | refine yl_skip rfl ?_ | refine aw_skip ?_ | refine aw_exit ?_); try simp -implicitDefEqProofs (maxSteps := 1000000) [rdc, w1, p1, p2, hlt, hlti])
        | (refine aw_cond rfl (fun h => ?_) (fun h => ?_) <;> try (with_reducible first | exact ff_tt h | exact tt_ff h))
        | refine aw_block ?_
        | refine aw_ret (ret_of (.inr rfl) (by simp [Try.results107]; rfl) (Fin.of ?_))
        | refine ret_of (.inl rfl) (by simp [Try.results107]; rfl) (Fin.of ?_))
      refine ⟨?_, rfl⟩
      simp [tupOf, markP, isMark, hlt]
set_option maxHeartbeats 4000000 in
set_option maxRecDepth 100000 in
theorem rfail5_ok (ts : List (Tok × Nat)) (en : Nat) (s : RS) (h1 : s.at_ ≤ ts.length) (h2 : ts.length ≤ 100000) :
    BK Try.prog 53 [.ptr 0 0] (rdc ts en s) (.tup []) (rdc ts en (failS ts en s)) := by
  obtain ⟨i, fl, wh⟩ := s
  have h1 : i ≤ ts.length := h1
  refine ⟨?_, rdc_cl _ _ _, rdc_cl _ _ _, by first | exact .p _ | exact .tup _ (by simp)⟩
  unfold rdc
  refine bc_of Try.func53 Try.ntmps53 rfl ?_
  simp only [List.length_cons, List.length_nil, List.cons_append, List.nil_append, List.replicate]
  cases fl with
  | true =>
    repeat' (first
      | refine aw_seq ?_
      | ((first | refine aw_run [] ?_ | refine aw_ymix [] draws (by decide +kernel) ?_); try simp -implicitDefEqProofs (maxSteps := 1000000) [rdc])
      | ((first | refine aw_zrun [] [] draws (by decide +kernel) (by decide +kernel) ?_ | refine zl_skip (by simp) rfl ?_); try simp -implicitDefEqProofs (maxSteps := 1000000) [rdc]; repeat first | refine zcurL (by decide +kernel) ?_ | refine zcurH (by decide +kernel) ?_ | refine zcurL' (by decide +kernel) ?_ | refine zcurH' (by decide +kernel) ?_)
      | ((first | refine aw_yrun draws (by kernel_rfl) ?_ | refine awl_skip' [] rfl ?_ | refine yl_skip rfl ?_ | refine aw_skip ?_ | refine aw_exit ?_); try simp -implicitDefEqProofs (maxSteps := 1000000) [rdc])
      | (refine aw_cond rfl (fun h => ?_) (fun h => ?_) <;> try (with_reducible first | exact ff_tt h | exact tt_ff h))
      | refine aw_block ?_
      | refine aw_ret (ret_of (.inr rfl) (by simp [Try.results53]; rfl) (Fin.of ?_))
      | refine ret_of (.inl rfl) (by simp [Try.results53]; rfl) (Fin.of ?_))
    all_goals exact ⟨rfl, rfl⟩
  | false =>
    by_cases hlt : i < ts.length
    · obtain ⟨q, hq⟩ : ∃ q, ts[i] = q := ⟨_, rfl⟩
      have hlti : (i : Int) < ts.length := by omega
      repeat' (first
        | refine aw_seq ?_
        | ((first | refine aw_run [] ?_ | refine aw_ymix [] draws (by decide +kernel) ?_); try simp -implicitDefEqProofs (maxSteps := 1000000) [rdc, hlt, hlti, hq, tokA, Tok.av])
        | ((first | refine aw_zrun [] [] draws (by decide +kernel) (by decide +kernel) ?_ | refine zl_skip (by simp) rfl ?_); try simp -implicitDefEqProofs (maxSteps := 1000000) [rdc, hlt, hlti, hq, tokA, Tok.av]; repeat first | refine zcurL (by decide +kernel) ?_ | refine zcurH (by decide +kernel) ?_ | refine zcurL' (by decide +kernel) ?_ | refine zcurH' (by decide +kernel) ?_)
        | ((first | refine aw_yrun draws (by kernel_rfl) ?_ | refine awl_skip' [] rfl ?_ | refine yl_skip rfl ?_ | refine aw_skip ?_ | refine aw_exit ?_); try simp -implicitDefEqProofs (maxSteps := 1000000) [rdc, hlt, hlti, hq, tokA, Tok.av])
        | (refine aw_cond rfl (fun h => ?_) (fun h => ?_) <;> try (with_reducible first | exact ff_tt h | exact tt_ff h))
        | refine aw_block ?_
        | refine aw_ret (ret_of (.inr rfl) (by simp [Try.results53]; rfl) (Fin.of ?_))
        | refine ret_of (.inl rfl) (by simp [Try.results53]; rfl) (Fin.of ?_))
      simp [tupOf, failS, hlt, hq]
    · have hlti : ¬ (i : Int) < ts.length := by omega
      repeat' (first
        | refine aw_seq ?_
        | ((first | refine aw_run [] ?_ | refine aw_ymix [] draws (by decide +kernel) ?_); try simp -implicitDefEqProofs (maxSteps := 1000000) [rdc, hlt, hlti])
        | ((first | refine aw_zrun [] [] draws (by decide +kernel) (by decide +kernel) ?_ | refine zl_skip (by simp) rfl ?_); try simp -implicitDefEqProofs (maxSteps := 1000000) [rdc, hlt, hlti]; repeat first | refine zcurL (by decide +kernel) ?_ | refine zcurH (by decide +kernel) ?_ | refine zcurL' (by decide +kernel) ?_ | refine zcurH' (by decide +kernel) ?_)
        | ((first | refine aw_yrun draws (by kernel_rfl) ?_ | refine awl_skip' [] rfl ?_ | refine yl_skip rfl ?_ | refine aw_skip ?_ | refine aw_exit ?_); try simp -implicitDefEqProofs (maxSteps := 1000000) [rdc, hlt, hlti])
        | (refine aw_cond rfl (fun h => ?_) (fun h => ?_) <;> try (with_reducible first | exact ff_tt h | exact tt_ff h))
        | refine aw_block ?_
        | refine aw_ret (ret_of (.inr rfl) (by simp [Try.results53]; rfl) (Fin.of ?_))
        | refine ret_of (.inl rfl) (by simp [Try.results53]; rfl) (Fin.of ?_))
      simp [tupOf, failS, hlt]
theorem markP_lt {ts : List (Tok × Nat)} {s : RS} {m : ByteArray} (h : markP ts s 0 m = true) : s.at_ < ts.length := by
  unfold markP isMark at h
  simp only [Bool.and_eq_true, Nat.add_zero] at h
  cases hq : ts[s.at_]? with
  | none => rw [hq] at h; simp at h
  | some q => exact (List.getElem?_eq_some_iff.1 hq).1
set_option maxHeartbeats 4000000 in
set_option maxRecDepth 100000 in
theorem rmust5_ok (ts : List (Tok × Nat)) (en : Nat) (s : RS) (m : ByteArray) (h1 : s.at_ ≤ ts.length) (h2 : ts.length ≤ 100000) :
    BK Try.prog 150 [.ptr 0 0, vs m] (rdc ts en s) (.tup []) (rdc ts en (mustS ts en s m)) := by
  have hm : BK Try.prog 107 [.ptr 0 0, vi 0, vs m] (rdc ts en s) (vb (markP ts s 0 m)) (rdc ts en s) := rmark5_ok ts en s 0 m h1 h2 (by omega)
  have hf := rfail5_ok ts en s h1 h2
  have hlt := markP_lt (ts := ts) (s := s) (m := m)
  refine ⟨?_, rdc_cl _ _ _, rdc_cl _ _ _, .tup _ (by simp)⟩
  unfold mustS
  cases hb : markP ts s 0 m with
  | true =>
    rw [hb] at hm
    have hlt := hlt hb
    have w1 : IntKind.i64.wrap ((s.at_ : Int) + 1) = (s.at_ : Int) + 1 := wrap_id (by omega) (by omega)
    refine bc_of Try.func150 Try.ntmps150 rfl ?_
    simp only [List.length_cons, List.length_nil, List.cons_append, List.nil_append, List.replicate]
    unfold rdc at hm ⊢
    repeat' first | refine aw_N [] @w1 (And.intro @hm trivial) ?_ | refine aw_cond rfl (fun h => ?_) (fun h => ?_)
    simp [tupOf, RS.next]
  | false =>
    rw [hb] at hm
    refine bc_of Try.func150 Try.ntmps150 rfl ?_
    simp only [List.length_cons, List.length_nil, List.cons_append, List.nil_append, List.replicate]
    repeat' first | refine aw_N [] trivial (And.intro @hm (And.intro @hf trivial)) ?_ | refine aw_cond rfl (fun h => ?_) (fun h => ?_)
    simp [tupOf]
set_option maxHeartbeats 4000000 in
set_option maxRecDepth 100000 in
theorem rlevel_of (t : ByteArray) : APure Try.prog 66 [vs t] (vi (lvl t)) := by
  refine apure_in Try.func66 Try.ntmps66 rfl ?_
  repeat' first | refine aw_N [] trivial trivial ?_ | refine aw_cond rfl (fun h => ?_) (fun h => ?_)
  all_goals simp_all [tupOf, lvl]
end Go.AL
/-! Contracts: gridironref05.Reader's level, end. -/
namespace Go.AL
open Go.Proofs
set_option linter.unusedSimpArgs false
set_option linter.unusedVariables false
set_option maxHeartbeats 4000000 in
set_option maxRecDepth 100000 in
theorem rlevel5_ok (ts : List (Tok × Nat)) (en : Nat) (s : RS) (h1 : s.at_ ≤ ts.length) (h2 : ts.length ≤ 100000) :
    BK Try.prog 77 [.ptr 0 0] (rdc ts en s) (vi (levelP ts s)) (rdc ts en s) := by
  obtain ⟨i, fl, wh⟩ := s
  have h1 : i ≤ ts.length := h1
  refine ⟨?_, rdc_cl _ _ _, rdc_cl _ _ _, .p _⟩
  unfold rdc
  refine bc_of Try.func77 Try.ntmps77 rfl ?_
  simp only [List.length_cons, List.length_nil, List.cons_append, List.nil_append, List.replicate]
  by_cases hlt : i < ts.length
  · obtain ⟨q, hq⟩ : ∃ q, ts[i] = q := ⟨_, rfl⟩
    have hlti : ¬ (ts.length : Int) ≤ i := by omega
    cases fl with
    | true =>
      repeat' (first
        | refine aw_seq ?_
        | ((first | refine aw_run [] ?_ | refine aw_ymix [] draws (by decide +kernel) ?_); try simp -implicitDefEqProofs (maxSteps := 1000000) [hlt, hlti, hq, tokA, Tok.av])
        | ((first | refine aw_zrun [] [] draws (by decide +kernel) (by decide +kernel) ?_ | refine zl_skip (by simp) rfl ?_); try simp -implicitDefEqProofs (maxSteps := 1000000) [hlt, hlti, hq, tokA, Tok.av]; repeat first | refine zcurL (by decide +kernel) ?_ | refine zcurH (by decide +kernel) ?_ | refine zcurL' (by decide +kernel) ?_ | refine zcurH' (by decide +kernel) ?_)
        | ((first | refine aw_yrun draws (by kernel_rfl) ?_ | refine awl_skip' [] rfl ?_ | refine yl_skip rfl ?_ | refine aw_skip ?_ | refine aw_exit ?_); try simp -implicitDefEqProofs (maxSteps := 1000000) [hlt, hlti, hq, tokA, Tok.av])
        | (refine aw_cond rfl (fun h => ?_) (fun h => ?_) <;> try (with_reducible first | exact ff_tt h | exact tt_ff h))
        | refine aw_block ?_
        | refine aw_ret (ret_of (.inr rfl) (by simp [Try.results77]; rfl) (Fin.of ?_))
        | refine ret_of (.inl rfl) (by simp [Try.results77]; rfl) (Fin.of ?_))
      simp [tupOf, levelP]
    | false =>
      by_cases hk : q.1.k = 5
      · have hl := rlevel_of q.1.t
        repeat' (first
          | refine aw_seq ?_
          | ((first | refine aw_run [] ?_ | refine aw_ymix [] draws (by decide +kernel) ?_); try simp -implicitDefEqProofs (maxSteps := 1000000) [hlt, hlti, hq, tokA, Tok.av, hk])
          | ((first | refine aw_zrun [] [] draws (by decide +kernel) (by decide +kernel) ?_ | refine zl_skip (by simp) rfl ?_ | refine zl_pure_guard (by simp) rfl rfl rfl (by first | assumption | kernel_rfl) rfl (fun hc => by first | exact hl) (by simp) (by simp) (by simp) ?_ | refine zl_pure (by simp) rfl rfl rfl (by first | assumption | kernel_rfl) rfl (by first | exact hl) (by simp) (by simp) ?_); try simp -implicitDefEqProofs (maxSteps := 1000000) [hlt, hlti, hq, tokA, Tok.av, hk]; repeat first | refine zcurL (by decide +kernel) ?_ | refine zcurH (by decide +kernel) ?_ | refine zcurL' (by decide +kernel) ?_ | refine zcurH' (by decide +kernel) ?_)
          | ((first | refine aw_yrun draws (by kernel_rfl) ?_ | refine awl_skip' [] rfl ?_ | refine yl_skip rfl ?_ | refine awl_pure_guard [] rfl rfl rfl (by first | assumption | kernel_rfl) rfl (fun hc => by first | exact hl) (by simp) (by simp) (by simp) ?_ | refine yl_pureG rfl rfl rfl (by first | assumption | kernel_rfl) rfl (fun hc => by first | exact hl) (by simp) (by simp) (by simp) ?_ | refine awl_pure' [] rfl rfl rfl (by first | assumption | kernel_rfl) rfl (by first | exact hl) (by simp) (by simp) ?_ | refine yl_pure rfl rfl rfl (by first | assumption | kernel_rfl) rfl (by first | exact hl) (by simp) (by simp) ?_ | refine aw_skip ?_ | refine aw_exit ?_); try simp -implicitDefEqProofs (maxSteps := 1000000) [hlt, hlti, hq, tokA, Tok.av, hk])
          | (refine aw_cond rfl (fun h => ?_) (fun h => ?_) <;> try (with_reducible first | exact ff_tt h | exact tt_ff h))
          | refine aw_block ?_
          | refine aw_ret (ret_of (.inr rfl) (by simp [Try.results77]; rfl) (Fin.of ?_))
          | refine ret_of (.inl rfl) (by simp [Try.results77]; rfl) (Fin.of ?_))
        simp [tupOf, levelP, hlt, hq, hk]
      · repeat' (first
          | refine aw_seq ?_
          | ((first | refine aw_run [] ?_ | refine aw_ymix [] draws (by decide +kernel) ?_); try simp -implicitDefEqProofs (maxSteps := 1000000) [hlt, hlti, hq, tokA, Tok.av, hk])
          | ((first | refine aw_zrun [] [] draws (by decide +kernel) (by decide +kernel) ?_ | refine zl_skip (by simp) rfl ?_); try simp -implicitDefEqProofs (maxSteps := 1000000) [hlt, hlti, hq, tokA, Tok.av, hk]; repeat first | refine zcurL (by decide +kernel) ?_ | refine zcurH (by decide +kernel) ?_ | refine zcurL' (by decide +kernel) ?_ | refine zcurH' (by decide +kernel) ?_)
          | ((first | refine aw_yrun draws (by kernel_rfl) ?_ | refine awl_skip' [] rfl ?_ | refine yl_skip rfl ?_ | refine aw_skip ?_ | refine aw_exit ?_); try simp -implicitDefEqProofs (maxSteps := 1000000) [hlt, hlti, hq, tokA, Tok.av, hk])
          | (refine aw_cond rfl (fun h => ?_) (fun h => ?_) <;> try (with_reducible first | exact ff_tt h | exact tt_ff h))
          | refine aw_block ?_
          | refine aw_ret (ret_of (.inr rfl) (by simp [Try.results77]; rfl) (Fin.of ?_))
          | refine ret_of (.inl rfl) (by simp [Try.results77]; rfl) (Fin.of ?_))
        simp [tupOf, levelP, hlt, hq, hk]
  · have hlti : (ts.length : Int) ≤ i := by omega
    cases fl with
    | true =>
      repeat' first | refine aw_W [] (And.intro @hlt @hlti) trivial ?_ | refine aw_cond rfl (fun h => ?_) (fun h => ?_)
      simp [tupOf, levelP]
    | false =>
      repeat' first | refine aw_W [] (And.intro @hlt @hlti) trivial ?_ | refine aw_cond rfl (fun h => ?_) (fun h => ?_)
      simp [tupOf, levelP, hlt]
set_option maxHeartbeats 4000000 in
set_option maxRecDepth 100000 in
theorem rend5_ok (ts : List (Tok × Nat)) (en : Nat) (s : RS) (h1 : s.at_ ≤ ts.length) (h2 : ts.length ≤ 100000) :
    BK Try.prog 169 [.ptr 0 0] (rdc ts en s) (vb (endP ts s)) (rdc ts en s) := by
  obtain ⟨i, fl, wh⟩ := s
  have h1 : i ≤ ts.length := h1
  refine ⟨?_, rdc_cl _ _ _, rdc_cl _ _ _, .p _⟩
  unfold rdc
  refine bc_of Try.func169 Try.ntmps169 rfl ?_
  simp only [List.length_cons, List.length_nil, List.cons_append, List.nil_append, List.replicate]
  by_cases hlt : i < ts.length
  · obtain ⟨q, hq⟩ : ∃ q, ts[i] = q := ⟨_, rfl⟩
    have hlti : (i : Int) < ts.length := by omega
    cases fl with
    | true =>
      repeat' (first
        | refine aw_seq ?_
        | ((first | refine aw_run [] ?_ | refine aw_ymix [] draws (by decide +kernel) ?_); try simp -implicitDefEqProofs (maxSteps := 1000000) [hlt, hlti, hq, tokA, Tok.av])
        | ((first | refine aw_zrun [] [] draws (by decide +kernel) (by decide +kernel) ?_ | refine zl_skip (by simp) rfl ?_); try simp -implicitDefEqProofs (maxSteps := 1000000) [hlt, hlti, hq, tokA, Tok.av]; repeat first | refine zcurL (by decide +kernel) ?_ | refine zcurH (by decide +kernel) ?_ | refine zcurL' (by decide +kernel) ?_ | refine zcurH' (by decide +kernel) ?_)
        | ((first | refine aw_yrun draws (by kernel_rfl) ?_ | refine awl_skip' [] rfl ?_ | refine yl_skip rfl ?_ | refine aw_skip ?_ | refine aw_exit ?_); try simp -implicitDefEqProofs (maxSteps := 1000000) [hlt, hlti, hq, tokA, Tok.av])
        | (refine aw_cond rfl (fun h => ?_) (fun h => ?_) <;> try (with_reducible first | exact ff_tt h | exact tt_ff h))
        | refine aw_block ?_
        | refine aw_ret (ret_of (.inr rfl) (by simp [Try.results169]; rfl) (Fin.of ?_))
        | refine ret_of (.inl rfl) (by simp [Try.results169]; rfl) (Fin.of ?_))
      simp [tupOf, endP]
    | false =>
      by_cases hk : q.1.k = 2
      · repeat' (first
          | refine aw_seq ?_
          | ((first | refine aw_run [] ?_ | refine aw_ymix [] draws (by decide +kernel) ?_); try simp -implicitDefEqProofs (maxSteps := 1000000) [hlt, hlti, hq, tokA, Tok.av, hk])
          | ((first | refine aw_zrun [] [] draws (by decide +kernel) (by decide +kernel) ?_ | refine zl_skip (by simp) rfl ?_); try simp -implicitDefEqProofs (maxSteps := 1000000) [hlt, hlti, hq, tokA, Tok.av, hk]; repeat first | refine zcurL (by decide +kernel) ?_ | refine zcurH (by decide +kernel) ?_ | refine zcurL' (by decide +kernel) ?_ | refine zcurH' (by decide +kernel) ?_)
          | ((first | refine aw_yrun draws (by kernel_rfl) ?_ | refine awl_skip' [] rfl ?_ | refine yl_skip rfl ?_ | refine aw_skip ?_ | refine aw_exit ?_); try simp -implicitDefEqProofs (maxSteps := 1000000) [hlt, hlti, hq, tokA, Tok.av, hk])
          | (refine aw_cond rfl (fun h => ?_) (fun h => ?_) <;> try (with_reducible first | exact ff_tt h | exact tt_ff h))
          | refine aw_block ?_
          | refine aw_ret (ret_of (.inr rfl) (by simp [Try.results169]; rfl) (Fin.of ?_))
          | refine ret_of (.inl rfl) (by simp [Try.results169]; rfl) (Fin.of ?_))
        simp [tupOf, endP, hlt, hq, hk]
      · repeat' (first
          | refine aw_seq ?_
          | ((first | refine aw_run [] ?_ | refine aw_ymix [] draws (by decide +kernel) ?_); try simp -implicitDefEqProofs (maxSteps := 1000000) [hlt, hlti, hq, tokA, Tok.av, hk])
          | ((first | refine aw_zrun [] [] draws (by decide +kernel) (by decide +kernel) ?_ | refine zl_skip (by simp) rfl ?_); try simp -implicitDefEqProofs (maxSteps := 1000000) [hlt, hlti, hq, tokA, Tok.av, hk]; repeat first | refine zcurL (by decide +kernel) ?_ | refine zcurH (by decide +kernel) ?_ | refine zcurL' (by decide +kernel) ?_ | refine zcurH' (by decide +kernel) ?_)
          | ((first | refine aw_yrun draws (by kernel_rfl) ?_ | refine awl_skip' [] rfl ?_ | refine yl_skip rfl ?_ | refine aw_skip ?_ | refine aw_exit ?_); try simp -implicitDefEqProofs (maxSteps := 1000000) [hlt, hlti, hq, tokA, Tok.av, hk])
          | (refine aw_cond rfl (fun h => ?_) (fun h => ?_) <;> try (with_reducible first | exact ff_tt h | exact tt_ff h))
          | refine aw_block ?_
          | refine aw_ret (ret_of (.inr rfl) (by simp [Try.results169]; rfl) (Fin.of ?_))
          | refine ret_of (.inl rfl) (by simp [Try.results169]; rfl) (Fin.of ?_))
        simp [tupOf, endP, hlt, hq, hk]
  · have hlti : ¬ (i : Int) < ts.length := by omega
    cases fl with
    | true =>
      repeat' first | refine aw_W [] (And.intro @hlt @hlti) trivial ?_ | refine aw_cond rfl (fun h => ?_) (fun h => ?_)
      simp [tupOf, endP]
    | false =>
      repeat' first | refine aw_W [] (And.intro @hlt @hlti) trivial ?_ | refine aw_cond rfl (fun h => ?_) (fun h => ?_)
      simp [tupOf, endP, hlt]
end Go.AL
/-! gridironref05's reading, as a function. -/
namespace Go.AL
open Go.Proofs
set_option linter.unusedSimpArgs false
set_option linter.unusedVariables false
def zeroT : Tree := .mk 0 0 0 0 0 0 ⟨#[]⟩ []
def numT (n : Int) : Tree := .mk 0 n 0 0 0 0 ⟨#[]⟩ []
def readT (c r : Int) : Tree := .mk 1 0 c r c r ⟨#[]⟩ []
def badT : Tree := .mk 2 0 0 0 0 0 ⟨#[]⟩ []
def negT (t : Tree) : Tree := .mk 3 0 0 0 0 0 ⟨#[]⟩ [t]
def opT (w : ByteArray) (t u : Tree) : Tree := .mk 4 0 0 0 0 0 w [t, u]
def callT (w : ByteArray) (l : List Tree) : Tree := .mk 5 0 0 0 0 0 w l
def spanT (a b c d : Int) : Tree := .mk 6 0 a b c d ⟨#[]⟩ []
abbrev bOpen : ByteArray := ⟨#[40]⟩
abbrev bShut : ByteArray := ⟨#[41]⟩
abbrev bComma : ByteArray := ⟨#[44]⟩
abbrev bColon : ByteArray := ⟨#[58]⟩
abbrev bMinus : ByteArray := ⟨#[45]⟩
abbrev bIF : ByteArray := ⟨#[73, 70]⟩
abbrev bCOUNT : ByteArray := ⟨#[67, 79, 85, 78, 84]⟩
/-- The next token, if it has not failed. -/
def curT (ts : List (Tok × Nat)) (s : RS) : Option Tok := if s.fl = true then none else (ts[s.at_]?).map (·.1)
/-- The range of two tokens' places. -/
def tokSpan (x y : Tok) : Tree := spanT (z (spanP x.c x.r y.c y.r) (min x.c y.c)) (z (spanP x.c x.r y.c y.r) (min x.r y.r)) (z (spanP x.c x.r y.c y.r) (max x.c y.c)) (z (spanP x.c x.r y.c y.r) (max x.r y.r))
mutual
def lineF (ts : List (Tok × Nat)) (en : Nat) : Nat → Nat → RS → Option (Tree × RS)
  | 0, _, _ => none
  | n + 1, lv, s => if 3 < lv then prefixF ts en n s else (lineF ts en n (lv + 1) s).bind fun q => loopF ts en n lv q.1 q.2
def loopF (ts : List (Tok × Nat)) (en : Nat) : Nat → Nat → Tree → RS → Option (Tree × RS)
  | 0, _, _, _ => none
  | n + 1, lv, out, s => if levelP ts s ≠ lv then some (out, s) else
    match ts[s.at_]? with
    | none => none
    | some p => (lineF ts en n (lv + 1) s.next).bind fun q => loopF ts en n lv (opT p.1.t out q.1) q.2
def prefixF (ts : List (Tok × Nat)) (en : Nat) : Nat → RS → Option (Tree × RS)
  | 0, _ => none
  | n + 1, s => if markP ts s 0 bMinus = true then (prefixF ts en n s.next).bind fun q => some (negT q.1, q.2) else operandF ts en n s
def operandF (ts : List (Tok × Nat)) (en : Nat) : Nat → RS → Option (Tree × RS)
  | 0, _ => none
  | n + 1, s => if markP ts s 0 bOpen = true then (lineF ts en n 1 s.next).bind fun q => some (q.1, mustS ts en q.2 bShut) else
    match curT ts s with
    | none => some (zeroT, failS ts en s)
    | some x => if x.k = 5 then some (zeroT, failS ts en s) else if x.k = 1 then some (numT x.n, s.next) else if x.k = 2 then some (readT x.c x.r, s.next) else if x.k = 3 then some (badT, s.next)
      else if x.t = bIF then (lineF ts en n 1 (mustS ts en s.next bOpen)).bind fun a => (lineF ts en n 1 (mustS ts en a.2 bComma)).bind fun b => (lineF ts en n 1 (mustS ts en b.2 bComma)).bind fun c =>
        some (callT bIF [a.1, b.1, c.1], mustS ts en c.2 bShut)
      else argsF ts en n x.t [] (mustS ts en s.next bOpen)
def argsF (ts : List (Tok × Nat)) (en : Nat) : Nat → ByteArray → List Tree → RS → Option (Tree × RS)
  | 0, _, _, _ => none
  | n + 1, w, ks, s => (itemF ts en n (decide (w = bCOUNT)) s).bind fun q => if markP ts q.2 0 bComma = true then argsF ts en n w (ks ++ [q.1]) q.2.next else some (callT w (ks ++ [q.1]), mustS ts en q.2 bShut)
def itemF (ts : List (Tok × Nat)) (en : Nat) : Nat → Bool → RS → Option (Tree × RS)
  | 0, _, _ => none
  | n + 1, co, s => if co = false ∧ (endP ts s = false ∨ markP ts s 1 bColon = false) then lineF ts en n 1 s else if endP ts s = false then some (zeroT, failS ts en s) else
    match ts[s.at_]? with
    | none => none
    | some a => if markP ts s 1 bColon = false ∧ a.1.k = 3 then some (badT, s.next) else if endP ts (mustS ts en s.next bColon) = false then some (zeroT, failS ts en (mustS ts en s.next bColon)) else
      match ts[(mustS ts en s.next bColon).at_]? with
      | none => none
      | some b => if a.1.k = 3 ∨ b.1.k = 3 then some (badT, (mustS ts en s.next bColon).next) else some (tokSpan a.1 b.1, (mustS ts en s.next bColon).next)
end
end Go.AL
/-! Contracts: gridironref05.Reader.line, prefix. -/
namespace Go.AL
open Go.Proofs
set_option linter.unusedSimpArgs false
set_option linter.unusedVariables false
variable {ts : List (Tok × Nat)} {en : Nat}
theorem failS_at (s : RS) : (failS ts en s).at_ = s.at_ := by unfold failS; split <;> rfl
theorem mustS_at {s : RS} {m : ByteArray} (h : s.at_ ≤ ts.length) : (mustS ts en s m).at_ ≤ ts.length := by
  unfold mustS
  split
  · rename_i hm; exact markP_lt hm
  · rw [failS_at]; exact h
theorem levelP_lt {s : RS} (h : levelP ts s ≠ 0) : s.fl = false ∧ ∃ p, ts[s.at_]? = some p ∧ p.1.k = 5 := by
  unfold levelP at h
  split at h
  · exact absurd rfl h
  · rename_i hf
    refine ⟨by simpa using hf, ?_⟩
    split at h
    · rename_i p hp
      split at h
      · rename_i hk; exact ⟨p, hp, hk⟩
      · exact absurd rfl h
    · exact absurd rfl h
def CL (ts : List (Tok × Nat)) (en n : Nat) : Prop := ∀ (lv : Nat) (s : RS) (T : Tree) (s' : RS), lineF ts en n lv s = some (T, s') → 1 ≤ lv → lv ≤ 4 → s.at_ ≤ ts.length →
  BK Try.prog 52 [.ptr 0 0, vi (lv : Nat)] (rdc ts en s) T.av (rdc ts en s') ∧ s'.at_ ≤ ts.length
def CP (ts : List (Tok × Nat)) (en n : Nat) : Prop := ∀ (s : RS) (T : Tree) (s' : RS), prefixF ts en n s = some (T, s') → s.at_ ≤ ts.length →
  BK Try.prog 76 [.ptr 0 0] (rdc ts en s) T.av (rdc ts en s') ∧ s'.at_ ≤ ts.length
def CO (ts : List (Tok × Nat)) (en n : Nat) : Prop := ∀ (s : RS) (T : Tree) (s' : RS), operandF ts en n s = some (T, s') → s.at_ ≤ ts.length →
  BK Try.prog 108 [.ptr 0 0] (rdc ts en s) T.av (rdc ts en s') ∧ s'.at_ ≤ ts.length
def CI (ts : List (Tok × Nat)) (en n : Nat) : Prop := ∀ (co : Bool) (s : RS) (T : Tree) (s' : RS), itemF ts en n co s = some (T, s') → s.at_ ≤ ts.length →
  BK Try.prog 151 [.ptr 0 0, vb co] (rdc ts en s) T.av (rdc ts en s') ∧ s'.at_ ≤ ts.length
/-- The loop stays within the tokens. -/
theorem loop_at (n : Nat) (ih : ∀ m, m < n → CL ts en m) : ∀ m, m ≤ n → ∀ (lv : Nat) (out : Tree) (s : RS) (T : Tree) (s' : RS), loopF ts en m lv out s = some (T, s') → 1 ≤ lv → lv ≤ 3 → s.at_ ≤ ts.length → s'.at_ ≤ ts.length := by
  intro m
  induction m with
  | zero => intro _ lv out s T s' h; cases h
  | succ m ihm =>
    intro hm lv out s T s' h h1 h3 hs
    unfold loopF at h
    split at h
    · simp only [Option.some.injEq, Prod.mk.injEq] at h; rw [← h.2]; exact hs
    · rename_i hl
      split at h
      · cases h
      · rename_i p hp
        obtain ⟨q, hq, h⟩ := Option.bind_eq_some_iff.1 h
        have hlt : s.at_ < ts.length := (List.getElem?_eq_some_iff.1 hp).1
        have := (ih m (by omega) (lv + 1) s.next q.1 q.2 hq (by omega) (by omega) (by show s.at_ + 1 ≤ ts.length; omega)).2
        exact ihm (by omega) lv _ _ T s' h h1 h3 this
/-- No tree at all, as it stands in a new variable. -/
@[simp] def ZT : List AV := [.p (.int .i64 0), .p (.int .i64 0), .p (.int .i64 0), .p (.int .i64 0), .p (.int .i64 0), .p (.int .i64 0), .p (.string ⟨#[]⟩), .p (.slice none 0 0)]
set_option maxHeartbeats 8000000 in
set_option maxRecDepth 100000 in
theorem line_ok (h2 : ts.length ≤ 100000) (N : Nat) (ihL : ∀ n, n < N → CL ts en n) (ihP : ∀ n, n < N → CP ts en n) : CL ts en N := by
  intro lv s T s' hF hv1 hv4 hs
  cases N with
  | zero => cases hF
  | succ N =>
  unfold lineF at hF
  have wl : IntKind.i64.wrap ((lv : Int) + 1) = ((lv + 1 : Nat) : Int) := by rw [wrap_id (by omega) (by omega)]; omega
  by_cases hv : 3 < lv
  · rw [if_pos hv] at hF
    obtain ⟨hp, hat⟩ := ihP N (by omega) s T s' hF hs
    have hvi : (3 : Int) < lv := by omega
    refine ⟨⟨?_, rdc_cl _ _ _, rdc_cl _ _ _, T.cl⟩, hat⟩
    obtain ⟨k, n, a, b, c, d, w, ks⟩ := T
    rw [Tree.av] at hp ⊢
    refine bc_of Try.func52 Try.ntmps52 rfl ?_
    simp only [List.length_cons, List.length_nil, List.cons_append, List.nil_append, List.replicate]
    repeat' first | refine aw_V [4, 5, 8] @hvi (And.intro @hp trivial) ?_ | refine aw_cond rfl (fun h => ?_) (fun h => ?_)
    simp [tupOf, ASt.noSl]
  · rw [if_neg hv] at hF
    obtain ⟨⟨out, s1⟩, hq, hF⟩ := Option.bind_eq_some_iff.1 hF
    simp only at hF
    obtain ⟨hb, hat1⟩ := ihL N (by omega) (lv + 1) s out s1 hq (by omega) (by omega) hs
    have hat := loop_at (ts := ts) (en := en) (N + 1) ihL N (by omega) lv out s1 T s' hF hv1 (by omega) hat1
    have hvi : ¬ (3 : Int) < lv := by omega
    refine ⟨⟨?_, rdc_cl _ _ _, rdc_cl _ _ _, T.cl⟩, hat⟩
    obtain ⟨k, n, a, b, c, d, w, ks⟩ := out
    rw [Tree.av] at hb
    refine bc_of Try.func52 Try.ntmps52 rfl ?_
    simp only [List.length_cons, List.length_nil, List.cons_append, List.nil_append, List.replicate]
    repeat' first | refine aw_W [4, 5, 8] (And.intro @hvi @wl) (And.intro @hb trivial) ?_ | refine aw_cond rfl (fun h => ?_) (fun h => ?_)
    refine aw_loopW [0, 1, 4, 5] (fun m fr σ => ∃ (k n a b c d : Int) (w : ByteArray) (ks : List Tree) (s1 : RS) (M : Nat), loopF ts en m lv (.mk k n a b c d w ks) s1 = some (T, s') ∧ m ≤ N ∧ s1.at_ ≤ ts.length ∧ 3 ≤ M ∧
      σ = mkSt [(0, rdc ts en s1), (1, ZT), (2, [vi k, vi n, vi a, vi b, vi c, vi d, vs w, .vsl (avs ks)])] [] M ∧ fr = frm 50 [(0, .ptr 0 0), (1, vi (lv : Nat)), (4, .ptr 1 0), (5, .ptr 2 0)]) N ?_ ?_
    · exact ⟨mkSt [(0, rdc ts en s1), (1, ZT), (2, [vi k, vi n, vi a, vi b, vi c, vi d, vs w, .vsl (avs ks)])] [] 3, le_mkSt (by simp [ZT]) (by simp) (by simp), k, n, a, b, c, d, w, ks, s1, 3, hF, Nat.le_refl _, hat1, by omega, rfl, by simp⟩
    · clear hF hq hb hat1
      rintro m fr σ ⟨k, n, a, b, c, d, w, ks, s1, M, hF, hmN, hat1, hM, rfl, rfl⟩
      simp
      have hlv := rlevel5_ok ts en s1 hat1 h2
      cases m with
      | zero => cases hF
      | succ m =>
      unfold loopF at hF
      by_cases hl : levelP ts s1 = lv
      · rw [if_neg (by simpa using hl)] at hF
        obtain ⟨hfl, p, hp, hpk⟩ := levelP_lt (ts := ts) (s := s1) (by omega)
        rw [hp] at hF
        simp only at hF
        obtain ⟨⟨nx, s2⟩, hq, hF⟩ := Option.bind_eq_some_iff.1 hF
        simp only at hF
        have hlt : s1.at_ < ts.length := (List.getElem?_eq_some_iff.1 hp).1
        obtain ⟨hbn, hat2⟩ := ihL m (by omega) (lv + 1) s1.next nx s2 hq (by omega) (by omega) (by show s1.at_ + 1 ≤ ts.length; omega)
        have hget : ts[s1.at_] = p := by rw [List.getElem?_eq_getElem hlt] at hp; exact Option.some.inj hp
        obtain ⟨k2, n2, a2, b2, c2, d2, w2, ks2⟩ := nx
        rw [Tree.av] at hbn
        have w1 : IntKind.i64.wrap ((s1.at_ : Int) + 1) = (s1.at_ : Int) + 1 := wrap_id (by omega) (by omega)
        rw [hl] at hlv
        have e0 : ¬ 0 = M := by omega
        have e1 : ¬ 1 = M := by omega
        have e2 : ¬ 2 = M := by omega
        simp only [rdc, RS.next] at hbn
        unfold rdc at hlv
        repeat' (first
          | refine aw_seq ?_
          | ((first | refine aw_run [4, 5, 8] ?_ | refine aw_ymix [4, 5, 8] draws (by decide +kernel) ?_); try simp -implicitDefEqProofs (maxSteps := 1000000) [rdc, List.lookup, hlt, hget, tokA, Tok.av, w1, wl, e0, e1, e2])
          | ((first | refine aw_zrun [4, 5, 8] [] draws (by decide +kernel) (by decide +kernel) ?_ | refine zl_skip (by simp) rfl ?_); try simp -implicitDefEqProofs (maxSteps := 1000000) [rdc, List.lookup, hlt, hget, tokA, Tok.av, w1, wl, e0, e1, e2]; repeat first | refine zcurL (by decide +kernel) ?_ | refine zcurH (by decide +kernel) ?_ | refine zcurL' (by decide +kernel) ?_ | refine zcurH' (by decide +kernel) ?_)
          | ((first | refine aw_yrun draws (by kernel_rfl) ?_ | refine awl_skip' [4, 5, 8] rfl ?_ | refine yl_skip rfl ?_ | refine aw_skip ?_ | refine aw_exit ?_); try simp -implicitDefEqProofs (maxSteps := 1000000) [rdc, List.lookup, hlt, hget, tokA, Tok.av, w1, wl, e0, e1, e2])
          | (refine awl_boxK [4, 5, 8] rfl rfl rfl (by first | assumption | kernel_rfl) (hlv) rfl (by repeat (first | exact .nil | refine .cons (.ptr _) ?_ | refine .cons (.cl (by simp)) ?_)) ?_ ?_ ?_ ?_; (iterate 3 (focus (simp [σ0]; done))); simp -implicitDefEqProofs (maxSteps := 1000000) [rdc, List.lookup, hlt, hget, tokA, Tok.av, w1, wl, e0, e1, e2])
          | (refine awl_boxK [4, 5, 8] rfl rfl rfl (by first | assumption | kernel_rfl) (hbn) rfl (by repeat (first | exact .nil | refine .cons (.ptr _) ?_ | refine .cons (.cl (by simp)) ?_)) ?_ ?_ ?_ ?_; (iterate 3 (focus (simp [σ0]; done))); simp -implicitDefEqProofs (maxSteps := 1000000) [rdc, List.lookup, hlt, hget, tokA, Tok.av, w1, wl, e0, e1, e2])
          | (refine aw_cond rfl (fun h => ?_) (fun h => ?_) <;> try (with_reducible first | exact ff_tt h | exact tt_ff h))
          | refine aw_block ?_
          | refine aw_ret (ret_of (.inr rfl) (by simp [Try.results52]; rfl) (Fin.of ?_))
          | refine ret_of (.inl rfl) (by simp [Try.results52]; rfl) (Fin.of ?_))
        refine ⟨m, by omega, mkSt [(0, rdc ts en s2), (1, ZT), (2, [vi 4, vi 0, vi 0, vi 0, vi 0, vi 0, vs p.1.t, .vsl (avs [.mk k n a b c d w ks, .mk k2 n2 a2 b2 c2 d2 w2 ks2])])] [] (M + 1), le_mkSt (by simp [List.lookup, rdc, avs, Tree.av, e0, e1, e2]) (by simp) (by simp), 4, 0, 0, 0, 0, 0, p.1.t, [.mk k n a b c d w ks, .mk k2 n2 a2 b2 c2 d2 w2 ks2], s2, hF, by omega, hat2, M + 1, by omega, ?_⟩
        simp [rdc]
      · rw [if_pos (by simpa using hl)] at hF
        simp only [Option.some.injEq, Prod.mk.injEq] at hF
        obtain ⟨rfl, rfl⟩ := hF
        have hli : ¬ levelP ts s1 = lv := hl
        repeat' (first
          | refine aw_seq ?_
          | ((first | refine aw_run [4, 5, 8] ?_ | refine aw_ymix [4, 5, 8] draws (by decide +kernel) ?_); try simp -implicitDefEqProofs (maxSteps := 1000000) [List.lookup, hli])
          | ((first | refine aw_zrun [4, 5, 8] [] draws (by decide +kernel) (by decide +kernel) ?_ | refine zl_skip (by simp) rfl ?_); try simp -implicitDefEqProofs (maxSteps := 1000000) [List.lookup, hli]; repeat first | refine zcurL (by decide +kernel) ?_ | refine zcurH (by decide +kernel) ?_ | refine zcurL' (by decide +kernel) ?_ | refine zcurH' (by decide +kernel) ?_)
          | ((first | refine aw_yrun draws (by kernel_rfl) ?_ | refine awl_skip' [4, 5, 8] rfl ?_ | refine yl_skip rfl ?_ | refine aw_skip ?_ | refine aw_exit ?_); try simp -implicitDefEqProofs (maxSteps := 1000000) [List.lookup, hli])
          | (refine awl_boxK [4, 5, 8] rfl rfl rfl (by first | assumption | kernel_rfl) (hlv) rfl (by repeat (first | exact .nil | refine .cons (.ptr _) ?_ | refine .cons (.cl (by simp)) ?_)) ?_ ?_ ?_ ?_; (iterate 3 (focus (simp [σ0]; done))); simp -implicitDefEqProofs (maxSteps := 1000000) [List.lookup, hli])
          | (refine aw_cond rfl (fun h => ?_) (fun h => ?_) <;> try (with_reducible first | exact ff_tt h | exact tt_ff h))
          | refine aw_block ?_
          | refine aw_ret (ret_of (.inr rfl) (by simp [Try.results52]; rfl) (Fin.close (Fin.of ?_)))
          | refine ret_of (.inl rfl) (by simp [Try.results52]; rfl) (Fin.close (Fin.of ?_)))
        simp [tupOf, Tree.av, List.lookup, ASt.noSl]
set_option maxHeartbeats 8000000 in
set_option maxRecDepth 100000 in
theorem prefix_ok (h2 : ts.length ≤ 100000) (N : Nat) (ihP : ∀ n, n < N → CP ts en n) (ihO : ∀ n, n < N → CO ts en n) : CP ts en N := by
  intro s T s' hF hs
  cases N with
  | zero => cases hF
  | succ N =>
  unfold prefixF at hF
  have hm : BK Try.prog 107 [.ptr 0 0, vi 0, vs bMinus] (rdc ts en s) (vb (markP ts s 0 bMinus)) (rdc ts en s) := rmark5_ok ts en s 0 bMinus hs h2 (by omega)
  by_cases hk : markP ts s 0 bMinus = true
  · rw [if_pos hk] at hF
    rw [hk] at hm
    have hlt := markP_lt hk
    obtain ⟨⟨kid, s1⟩, hq, hF⟩ := Option.bind_eq_some_iff.1 hF
    simp only [Option.some.injEq, Prod.mk.injEq] at hF
    obtain ⟨rfl, rfl⟩ := hF
    obtain ⟨hb, hat⟩ := ihP N (by omega) s.next kid s1 hq hlt
    refine ⟨⟨?_, rdc_cl _ _ _, rdc_cl _ _ _, Tree.cl _⟩, hat⟩
    have w1 : IntKind.i64.wrap ((s.at_ : Int) + 1) = (s.at_ : Int) + 1 := wrap_id (by omega) (by omega)
    obtain ⟨k, n, a, b, c, d, w, ks⟩ := kid
    rw [Tree.av] at hb
    simp only [rdc, RS.next] at hb hm ⊢
    refine bc_of Try.func76 Try.ntmps76 rfl ?_
    simp only [List.length_cons, List.length_nil, List.cons_append, List.nil_append, List.replicate]
    repeat' first | refine aw_M [2, 4] @w1 (And.intro @hm (And.intro @hb trivial)) ?_ | refine aw_cond rfl (fun h => ?_) (fun h => ?_)
    simp [tupOf, ASt.noSl, negT, Tree.av, avs]
  · rw [if_neg hk] at hF
    have hk' : markP ts s 0 bMinus = false := by simpa using hk
    rw [hk'] at hm
    obtain ⟨hb, hat⟩ := ihO N (by omega) s T s' hF hs
    refine ⟨⟨?_, rdc_cl _ _ _, rdc_cl _ _ _, Tree.cl _⟩, hat⟩
    obtain ⟨k, n, a, b, c, d, w, ks⟩ := T
    rw [Tree.av] at hb ⊢
    refine bc_of Try.func76 Try.ntmps76 rfl ?_
    simp only [List.length_cons, List.length_nil, List.cons_append, List.nil_append, List.replicate]
    repeat' first | refine aw_M [2, 4] trivial (And.intro @hm (And.intro @hb trivial)) ?_ | refine aw_cond rfl (fun h => ?_) (fun h => ?_)
    simp [tupOf, ASt.noSl]
end Go.AL
