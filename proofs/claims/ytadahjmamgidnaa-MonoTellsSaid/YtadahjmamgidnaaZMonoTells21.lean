/- Parts of the proof of MonoTells: the logic, contracts, plain laws. -/
import Derived.Test.YtadahjmamgidnaaZMonoTells20
/-! Contracts: gridironref05.Deep. -/
namespace Go.AL
open Go.Proofs
set_option linter.unusedSimpArgs false
set_option linter.unusedVariables false
mutual
def deepT : Tree → Nat
  | .mk _ _ _ _ _ _ _ ks => deeps ks + 1
def deeps : List Tree → Nat
  | [] => 0
  | t :: ts => max (deepT t) (deeps ts)
end
theorem deeps_append : ∀ (l m : List Tree), deeps (l ++ m) = max (deeps l) (deeps m)
  | [], m => by simp [deeps]
  | t :: l, m => by rw [List.cons_append, deeps, deeps, deeps_append l m]; omega
theorem deeps_take {l : List Tree} {i : Nat} (h : i < l.length) : deeps (l.take (i + 1)) = max (deeps (l.take i)) (deepT l[i]) := by
  rw [List.take_add_one, List.getElem?_eq_getElem h, deeps_append]; simp [deeps]
theorem deeps_mem : ∀ {l : List Tree} {t : Tree}, t ∈ l → deepT t ≤ deeps l
  | [], _, h => by cases h
  | u :: l, t, h => by
    rw [deeps]
    rcases List.mem_cons.1 h with rfl | h
    · omega
    · have := deeps_mem h; omega
theorem deeps_le_take {l : List Tree} {i : Nat} : deeps (l.take i) ≤ deeps l := by
  have := deeps_append (l.take i) (l.drop i)
  rw [List.take_append_drop] at this; omega
theorem avs_get {l : List Tree} {i : Nat} (h : i < l.length) : (avs l)[i]? = some l[i].av := by
  rw [avs_map, List.getElem?_map, List.getElem?_eq_getElem h]; rfl
theorem avs_len (l : List Tree) : (avs l).length = l.length := by rw [avs_map, List.length_map]
mutual
/-- No more kids than a machine can count. -/
def Tree.sh : Tree → Prop
  | .mk _ _ _ _ _ _ _ ks => ks.length ≤ 9223372036854775807 ∧ shs ks
def shs : List Tree → Prop
  | [] => True
  | t :: ts => t.sh ∧ shs ts
end
theorem shs_all : ∀ l : List Tree, shs l ↔ ∀ t ∈ l, t.sh
  | [] => by simp [shs]
  | t :: ts => by rw [shs, shs_all ts]; simp
def DeepP (t : Tree) : Prop := t.sh → deepT t ≤ 1000000000000000 → APure Try.prog 53 [t.av] (vi (deepT t : Nat))
@[simp] theorem cls_true (l : List Tree) : (∀ c, c ∈ avs l → Cl c) = True := eq_true (cls l)
set_option maxHeartbeats 8000000 in
set_option maxRecDepth 100000 in
theorem deep_step (k n a b c d : Int) (w : ByteArray) (ks : List Tree) (ih : ∀ t ∈ ks, DeepP t) : DeepP (.mk k n a b c d w ks) := by
  intro hsh hd
  rw [Tree.sh, shs_all] at hsh
  obtain ⟨hlk, hsh⟩ := hsh
  rw [deepT] at hd ⊢
  rw [Tree.av]
  refine apure_of Try.func53 Try.ntmps53 rfl ?_
  simp only [List.length_cons, List.length_nil, List.cons_append, List.nil_append, List.replicate]
  repeat' (first
    | refine aw_seq ?_
    | (refine aw_run [] ?_; try simp -implicitDefEqProofs (maxSteps := 1000000))
    | ((first | refine awl_skip' [] rfl ?_ | refine aw_skip ?_ | refine aw_exit ?_); try simp -implicitDefEqProofs (maxSteps := 1000000))
    | (refine aw_cond rfl (fun h => ?_) (fun h => ?_) <;> try (with_reducible first | exact ff_tt h | exact tt_ff h))
    | refine aw_block ?_
    | refine aw_ret (ret_of (.inr rfl) (by simp [Try.results53]; rfl) (Fin.of ?_))
    | refine ret_of (.inl rfl) (by simp [Try.results53]; rfl) (Fin.of ?_))
  refine aw_loopW [1, 3, 4] (fun m fr σ => ∃ i M : Nat, i + m = ks.length ∧ σ = mkSt [] [] M ∧ fr = frm 24 [(1, .vel [.agg [vi k, vi n, vi a, vi b, vi c, vi d, vs w, .vsl (avs ks)]] 0 0), (3, vi (deeps (ks.take i) : Nat)), (4, vi (i : Nat))]) ks.length ?_ ?_
  · exact ⟨mkSt [] [] 0, le_mkSt (by simp) (by simp) (by simp [σ0]), 0, 0, by omega, rfl, by simp [deeps]⟩
  · rintro m fr σ ⟨i, M, hi, rfl, rfl⟩
    simp
    have hl := avs_len ks
    by_cases hlt : i < ks.length
    · have hlti : (i : Int) < ks.length := by omega
      obtain ⟨t, ht⟩ : ∃ t, ks[i] = t := ⟨_, rfl⟩
      have hmem : t ∈ ks := ht ▸ List.getElem_mem hlt
      have hdt := deeps_mem hmem
      have hr := ih t hmem (hsh t hmem) (by omega)
      have hg := avs_get hlt
      rw [ht] at hg
      have hla : i < (avs ks).length := by omega
      have hg' : (avs ks)[i] = t.av := by rw [List.getElem?_eq_getElem hla] at hg; exact Option.some.inj hg
      have hmx : max ((deeps (ks.take i) : Nat) : Int) (deepT t : Nat) = (deeps (ks.take (i + 1)) : Nat) := by rw [deeps_take hlt, ht]; omega
      have wi : IntKind.i64.wrap ((i : Int) + 1) = (i : Int) + 1 := wrap_id (by omega) (by omega)
      obtain ⟨tk, tn, ta, tb, tc, td, tw, tks⟩ := t
      rw [Tree.av] at hr hg' hg
      repeat' (first
        | refine aw_seq ?_
        | (refine aw_run [] ?_; try simp -implicitDefEqProofs (maxSteps := 1000000) [hl, hlti, hla, hg, hmx, wi])
        | ((first | refine awl_skip' [] rfl ?_ | refine awl_pure_guard [] rfl rfl rfl (by first | assumption | kernel_rfl) rfl (fun hc => by first | exact hr) (by simp) (by simp) (by simp) ?_ | refine awl_pure' [] rfl rfl rfl (by first | assumption | kernel_rfl) rfl (by first | exact hr) (by simp) (by simp) ?_ | refine aw_skip ?_ | refine aw_exit ?_); try simp -implicitDefEqProofs (maxSteps := 1000000) [hl, hlti, hla, hg, hmx, wi])
        | (refine aw_cond rfl (fun h => ?_) (fun h => ?_) <;> try (with_reducible first | exact ff_tt h | exact tt_ff h))
        | refine aw_block ?_
        | refine aw_ret (ret_of (.inr rfl) (by simp [Try.results53]; rfl) (Fin.of ?_))
        | refine ret_of (.inl rfl) (by simp [Try.results53]; rfl) (Fin.of ?_))
      refine ⟨m - 1, by omega, mkSt [] [] M, le_mkSt (by simp) (by simp) (by simp), i + 1, by omega, ⟨M, rfl⟩, ?_, by omega⟩
      rw [deeps_take hlt, ht]
      split <;> omega
    · obtain rfl : m = 0 := by omega
      have hlti : ¬ (i : Int) < ks.length := by omega
      have htk : ks.take i = ks := List.take_of_length_le (by omega)
      have wd : IntKind.i64.wrap ((deeps ks : Int) + 1) = (deeps ks : Int) + 1 := wrap_id (by omega) (by omega)
      repeat' (first
        | refine aw_seq ?_
        | (refine aw_run [] ?_; try simp -implicitDefEqProofs (maxSteps := 1000000) [hl, hlti, htk, wd])
        | ((first | refine awl_skip' [] rfl ?_ | refine aw_skip ?_ | refine aw_exit ?_); try simp -implicitDefEqProofs (maxSteps := 1000000) [hl, hlti, htk, wd])
        | (refine aw_cond rfl (fun h => ?_) (fun h => ?_) <;> try (with_reducible first | exact ff_tt h | exact tt_ff h))
        | refine aw_block ?_
        | refine aw_ret (ret_of (.inr rfl) (by simp [Try.results53]; rfl) (Fin.of ?_))
        | refine ret_of (.inl rfl) (by simp [Try.results53]; rfl) (Fin.of ?_))
      simp [tupOf]
mutual
theorem deep_ok : ∀ t : Tree, DeepP t
  | .mk k n a b c d w ks => deep_step k n a b c d w ks (deepss_ok ks)
theorem deepss_ok : ∀ (l : List Tree), ∀ t ∈ l, DeepP t
  | [], t, h => by cases h
  | u :: l, t, h => by
    exact (List.mem_cons.1 h).elim (fun e => by rw [e]; exact deep_ok u) (fun h => deepss_ok l t h)
end
end Go.AL
/-! The parser's trees are not too deep, nor too wide. -/
namespace Go.AL
open Go.Proofs
set_option linter.unusedSimpArgs false
set_option linter.unusedVariables false
variable {ts : List (Tok × Nat)} {en : Nat}
def dB : Nat → Nat
  | 0 => 1
  | n + 1 => dB n + n + 1
theorem dB_le : ∀ n, n ≤ 10000000 → dB n ≤ n * 10000001 + 1
  | 0, _ => by simp [dB]
  | n + 1, h => by
    have := dB_le n (by omega)
    rw [dB]; omega
theorem dB_pos : ∀ n, 1 ≤ dB n
  | 0 => Nat.le_refl _
  | n + 1 => by rw [dB]; have := dB_pos n; omega
def Fit (n : Nat) (t : Tree) : Prop := deepT t ≤ n ∧ t.sh
theorem Fit.mono {n m : Nat} {t : Tree} (h : Fit n t) (hm : n ≤ m) : Fit m t := ⟨Nat.le_trans h.1 hm, h.2⟩
theorem fit_leaf {n : Nat} (hn : 1 ≤ n) (k m a b c d : Int) (w : ByteArray) : Fit n (.mk k m a b c d w []) := ⟨by simpa [deepT, deeps] using hn, by simp [Tree.sh, shs]⟩
theorem fit_kids {n : Nat} {k m a b c d : Int} {w : ByteArray} {ks : List Tree} (h : ∀ t ∈ ks, Fit n t) (hl : ks.length ≤ 9223372036854775807) : Fit (n + 1) (.mk k m a b c d w ks) := by
  refine ⟨?_, ?_⟩
  · rw [deepT]
    have : ∀ l : List Tree, (∀ t ∈ l, Fit n t) → deeps l ≤ n := by
      intro l
      induction l with
      | nil => intro _; simp [deeps]
      | cons t l ih => intro h; rw [deeps]; have h1 := (h t (.head _)).1; have h2 := ih fun t ht => h t (.tail _ ht); omega
    have := this ks h
    omega
  · rw [Tree.sh, shs_all]; exact ⟨hl, fun t ht => (h t ht).2⟩
theorem fits : ∀ n, n ≤ 10000000 → (∀ lv s q, lineF ts en n lv s = some q → Fit (dB n) q.1) ∧ (∀ lv t s q m, loopF ts en n lv t s = some q → Fit m t → dB n ≤ m → Fit (m + n) q.1) ∧ (∀ s q, prefixF ts en n s = some q → Fit (dB n) q.1) ∧
    (∀ s q, operandF ts en n s = some q → Fit (dB n) q.1) ∧ (∀ w ks s q m, argsF ts en n w ks s = some q → (∀ t ∈ ks, Fit m t) → dB n ≤ m → n + ks.length ≤ 1000000000 → Fit (m + 1) q.1) ∧ (∀ co s q, itemF ts en n co s = some q → Fit (dB n) q.1) := by
  intro n
  induction n with
  | zero => intro _; refine ⟨?_, ?_, ?_, ?_, ?_, ?_⟩ <;> (intros; rename_i h; first | cases h | skip) <;> simp_all [lineF, loopF, prefixF, operandF, argsF, itemF]
  | succ n ih =>
    intro hn
    obtain ⟨hL, hW, hP, hO, hA, hI⟩ := ih (by omega)
    have hB : dB (n + 1) = dB n + n + 1 := rfl
    have hp := dB_pos n
    refine ⟨fun lv s q h => ?_, fun lv t s q m h ht hm => ?_, fun s q h => ?_, fun s q h => ?_, fun w ks s q m h hk hm hl => ?_, fun co s q h => ?_⟩
    · unfold lineF at h
      split at h
      · exact (hP s q h).mono (by omega)
      · obtain ⟨r, hr, h⟩ := Option.bind_eq_some_iff.1 h
        exact (hW lv r.1 r.2 q (dB n) h (hL _ _ r hr) (Nat.le_refl _)).mono (by omega)
    · unfold loopF at h
      split at h
      · obtain rfl := Option.some.inj h; exact ht.mono (by omega)
      · split at h
        · cases h
        · obtain ⟨r, hr, h⟩ := Option.bind_eq_some_iff.1 h
          refine (hW lv _ r.2 q (m + 1) h ?_ (by omega)).mono (by omega)
          unfold opT
          refine fit_kids (fun u hu => ?_) (by simp)
          simp only [List.mem_cons, List.not_mem_nil, or_false] at hu
          rcases hu with rfl | rfl
          · exact ht
          · exact (hL _ _ r hr).mono (by omega)
    · unfold prefixF at h
      split at h
      · obtain ⟨r, hr, h⟩ := Option.bind_eq_some_iff.1 h
        obtain rfl := Option.some.inj h
        refine Fit.mono (n := dB n + 1) ?_ (by omega)
        refine fit_kids (fun u hu => ?_) (by simp)
        simp only [List.mem_cons, List.not_mem_nil, or_false] at hu
        subst hu; exact hP _ r hr
      · exact (hO s q h).mono (by omega)
    · unfold operandF at h
      split at h
      · obtain ⟨r, hr, h⟩ := Option.bind_eq_some_iff.1 h
        obtain rfl := Option.some.inj h
        exact (hL _ _ r hr).mono (by omega)
      · split at h
        · obtain rfl := Option.some.inj h; exact fit_leaf (by omega) ..
        · split at h
          · obtain rfl := Option.some.inj h; exact fit_leaf (by omega) ..
          split at h
          · obtain rfl := Option.some.inj h; exact fit_leaf (by omega) ..
          split at h
          · obtain rfl := Option.some.inj h; exact fit_leaf (by omega) ..
          split at h
          · obtain rfl := Option.some.inj h; exact fit_leaf (by omega) ..
          split at h
          · obtain ⟨a, ha, h⟩ := Option.bind_eq_some_iff.1 h
            obtain ⟨b, hb, h⟩ := Option.bind_eq_some_iff.1 h
            obtain ⟨c, hc, h⟩ := Option.bind_eq_some_iff.1 h
            obtain rfl := Option.some.inj h
            refine Fit.mono (n := dB n + 1) ?_ (by omega)
            refine fit_kids (fun u hu => ?_) (by simp)
            simp only [List.mem_cons, List.not_mem_nil, or_false] at hu
            rcases hu with rfl | rfl | rfl
            · exact hL _ _ a ha
            · exact hL _ _ b hb
            · exact hL _ _ c hc
          · exact (hA _ _ _ q (dB n) h (fun _ h => by cases h) (Nat.le_refl _) (by simp; omega)).mono (by omega)
    · unfold argsF at h
      obtain ⟨r, hr, h⟩ := Option.bind_eq_some_iff.1 h
      have hr := hI _ _ r hr
      have hks : ∀ t ∈ ks ++ [r.1], Fit m t := by
        intro t ht
        rcases List.mem_append.1 ht with ht | ht
        · exact hk t ht
        · simp only [List.mem_cons, List.not_mem_nil, or_false] at ht
          subst ht; exact hr.mono (by omega)
      split at h
      · exact (hA _ _ _ q m h hks (by omega) (by simp; omega)).mono (by omega)
      · obtain rfl := Option.some.inj h
        exact fit_kids hks (by simp; omega)
    · unfold itemF at h
      split at h
      · exact (hL _ _ q h).mono (by omega)
      split at h
      · obtain rfl := Option.some.inj h; exact fit_leaf (by omega) ..
      split at h
      · cases h
      split at h
      · obtain rfl := Option.some.inj h; exact fit_leaf (by omega) ..
      split at h
      · obtain rfl := Option.some.inj h; exact fit_leaf (by omega) ..
      split at h
      · cases h
      split at h
      · obtain rfl := Option.some.inj h; exact fit_leaf (by omega) ..
      · obtain rfl := Option.some.inj h; exact fit_leaf (by omega) ..
end Go.AL
/-! Contracts: gridironref05.Parse. -/
namespace Go.AL
open Go.Proofs
set_option linter.unusedSimpArgs false
set_option linter.unusedVariables false
theorem scanL_len (sz : Nat) : ∀ (n : Nat) (l : List UInt8), (scanL sz n l).1.length ≤ n
  | 0, _ => by simp [scanL]
  | n + 1, [] => by simp [scanL]
  | n + 1, b :: l => by
    unfold scanL
    split
    · have := scanL_len sz n l; omega
    · split
      · simp
      · unfold scanK
        split
        · simp only [List.length_cons]; have := scanL_len sz n ((b :: l).drop (nextT ⟨⟨b :: l⟩⟩ b).len); omega
        · simp
theorem scanS_len (s : ByteArray) : (scanS s).1.length ≤ 200 := by
  unfold scanS
  split
  · simp
  · have := scanL_len s.size s.size s.data.toList; omega
def parseF (s : ByteArray) : Option (Tree × RS) := lineF (scanS s).1 s.size 5000 1 ⟨0, false, 0⟩
def endF (s : ByteArray) (r : RS) : RS := if r.at_ < (scanS s).1.length then failS (scanS s).1 s.size r else r
def parse5 (s : ByteArray) : Tree × Nat × Int :=
  if (scanS s).2.2 ≠ 0 then (zeroT, (scanS s).2.1, (scanS s).2.2) else
  match parseF s with
  | none => (zeroT, 0, 0)
  | some q => if (endF s q.2).fl = true then (zeroT, (endF s q.2).wh, 2) else if 16 < deepT q.1 then (zeroT, 0, 6) else (q.1, 0, 0)
theorem parseF_some (s : ByteArray) : ∃ q, parseF s = some q := by
  have h := scanS_len s
  obtain ⟨q, hq, _⟩ := (ends (ts := (scanS s).1) (en := s.size) 5000).1 1 ⟨0, false, 0⟩ (by omega) (by omega) (by simp [left]; omega)
  exact ⟨q, hq⟩
theorem scanS_big {s : ByteArray} (h : 200 < s.size) : (scanS s).2.2 = 3 := by unfold scanS; rw [if_pos h]
@[simp] theorem toks_cl (l : List (Tok × Nat)) : (∀ (c : AV) (x : Tok) (i : Nat), (x, i) ∈ l → tokA (x, i) = c → Cl c) = True := eq_true fun c x i _ h => h ▸ tok_cl x _
set_option maxHeartbeats 8000000 in
set_option maxRecDepth 100000 in
theorem rparse5_ok (s : ByteArray) (hs : s.size ≤ 281474976710656) : APure Try.prog 39 [vs s] (.tup [(parse5 s).1.av, vi ((parse5 s).2.1 : Nat), vi (parse5 s).2.2]) := by
  have hsc := rscan_ok s hs
  have hlen := scanS_len s
  unfold parse5
  by_cases he : (scanS s).2.2 = 0
  · rw [if_neg (by simpa using he)]
    obtain ⟨⟨T, r⟩, hq⟩ := parseF_some s
    rw [hq]
    have hq' : lineF (scanS s).1 s.size 5000 1 ⟨0, false, 0⟩ = some (T, r) := hq
    obtain ⟨hb, hat⟩ := (parse_all (ts := (scanS s).1) (en := s.size) (by omega) 5000 (by omega)).1 1 ⟨0, false, 0⟩ T r hq' (by omega) (by omega) (by simp)
    have hfit := (fits (ts := (scanS s).1) (en := s.size) 5000 (by omega)).1 1 _ (T, r) hq'
    have hd := deep_ok T hfit.2 (by have h1 : deepT T ≤ dB 5000 := hfit.1; have := dB_le 5000 (by omega); omega)
    have hf := rfail5_ok (scanS s).1 s.size r hat (by omega)
    rw [he] at hsc
    simp only
    obtain ⟨k, n, a, b, c, d, w, ks⟩ := T
    rw [Tree.av] at hb hd
    generalize hS : endF s r = r' at *
    unfold endF at hS
    generalize scanS s = sc at *
    have hb : BK Try.prog 66 [.ptr 0 0, vi 1] [.vsl (sc.1.map tokA), vi 0, vi (s.size : Nat), vb false, vi 0] (.agg [vi k, vi n, vi a, vi b, vi c, vi d, vs w, .vsl (avs ks)]) (rdc sc.1 s.size r) := hb
    generalize deepT (.mk k n a b c d w ks) = dp at *
    by_cases hlt : r.at_ < sc.1.length
    · rw [if_pos hlt] at hS
      rw [hS] at hf
      have hlti : (r.at_ : Int) < sc.1.length := by omega
      obtain ⟨i', fl', wh'⟩ := r'
      clear hS hq hq' hfit hat
      simp only [rdc] at hb hf
      cases fl' with
      | true =>
        refine apure_of Try.func39 Try.ntmps39 rfl ?_
        simp only [List.length_cons, List.length_nil, List.cons_append, List.nil_append, List.replicate]
        repeat' (first
          | refine aw_seq ?_
          | ((first | refine aw_run [2, 9, 25] ?_ | refine aw_ymix [2, 9, 25] draws (by decide +kernel) ?_); try simp -implicitDefEqProofs (maxSteps := 1000000) [hlti])
          | ((first | refine aw_zrun [2, 9, 25] [] draws (by decide +kernel) (by decide +kernel) ?_ | refine zl_skip (by simp) rfl ?_ | refine zl_pure_guard (by simp) rfl rfl rfl (by first | assumption | kernel_rfl) rfl (fun hc => by first | exact hsc | exact hd) (by simp) (by simp) (by simp) ?_ | refine zl_pure (by simp) rfl rfl rfl (by first | assumption | kernel_rfl) rfl (by first | exact hsc | exact hd) (by simp) (by simp) ?_); try simp -implicitDefEqProofs (maxSteps := 1000000) [hlti]; repeat first | refine zcurL (by decide +kernel) ?_ | refine zcurH (by decide +kernel) ?_ | refine zcurL' (by decide +kernel) ?_ | refine zcurH' (by decide +kernel) ?_)
          | ((first | refine aw_yrun draws (by kernel_rfl) ?_ | refine awl_skip' [2, 9, 25] rfl ?_ | refine yl_skip rfl ?_ | refine awl_pure_guard [2, 9, 25] rfl rfl rfl (by first | assumption | kernel_rfl) rfl (fun hc => by first | exact hsc | exact hd) (by simp) (by simp) (by simp) ?_ | refine yl_pureG rfl rfl rfl (by first | assumption | kernel_rfl) rfl (fun hc => by first | exact hsc | exact hd) (by simp) (by simp) (by simp) ?_ | refine awl_pure' [2, 9, 25] rfl rfl rfl (by first | assumption | kernel_rfl) rfl (by first | exact hsc | exact hd) (by simp) (by simp) ?_ | refine yl_pure rfl rfl rfl (by first | assumption | kernel_rfl) rfl (by first | exact hsc | exact hd) (by simp) (by simp) ?_ | refine aw_skip ?_ | refine aw_exit ?_); try simp -implicitDefEqProofs (maxSteps := 1000000) [hlti])
          | (refine awl_boxK [2, 9, 25] rfl rfl rfl (by first | assumption | kernel_rfl) (hb) rfl (by repeat (first | exact .nil | refine .cons (.ptr _) ?_ | refine .cons (.cl (by simp)) ?_)) ?_ ?_ ?_ ?_; (iterate 3 (focus (simp [σ0]; done))); simp -implicitDefEqProofs (maxSteps := 1000000) [hlti])
          | (refine awl_boxK [2, 9, 25] rfl rfl rfl (by first | assumption | kernel_rfl) (hf) rfl (by repeat (first | exact .nil | refine .cons (.ptr _) ?_ | refine .cons (.cl (by simp)) ?_)) ?_ ?_ ?_ ?_; (iterate 3 (focus (simp [σ0]; done))); simp -implicitDefEqProofs (maxSteps := 1000000) [hlti])
          | (refine aw_cond rfl (fun h => ?_) (fun h => ?_) <;> try (with_reducible first | exact ff_tt h | exact tt_ff h))
          | refine aw_block ?_
          | refine aw_ret (ret_of (.inr rfl) (by simp [Try.results39]; rfl) (Fin.close (Fin.of ?_)))
          | refine ret_of (.inl rfl) (by simp [Try.results39]; rfl) (Fin.close (Fin.of ?_)))
        all_goals first | simp [tupOf, zeroT, Tree.av, avs] | simp at *
      | false =>
        by_cases h16 : 16 < dp
        · have h16i : (16 : Int) < dp := by omega
          refine apure_of Try.func39 Try.ntmps39 rfl ?_
          simp only [List.length_cons, List.length_nil, List.cons_append, List.nil_append, List.replicate]
          repeat' (first
            | refine aw_seq ?_
            | ((first | refine aw_run [2, 9, 25] ?_ | refine aw_ymix [2, 9, 25] draws (by decide +kernel) ?_); try simp -implicitDefEqProofs (maxSteps := 1000000) [hlti, h16i])
            | ((first | refine aw_zrun [2, 9, 25] [] draws (by decide +kernel) (by decide +kernel) ?_ | refine zl_skip (by simp) rfl ?_ | refine zl_pure_guard (by simp) rfl rfl rfl (by first | assumption | kernel_rfl) rfl (fun hc => by first | exact hsc | exact hd) (by simp) (by simp) (by simp) ?_ | refine zl_pure (by simp) rfl rfl rfl (by first | assumption | kernel_rfl) rfl (by first | exact hsc | exact hd) (by simp) (by simp) ?_); try simp -implicitDefEqProofs (maxSteps := 1000000) [hlti, h16i]; repeat first | refine zcurL (by decide +kernel) ?_ | refine zcurH (by decide +kernel) ?_ | refine zcurL' (by decide +kernel) ?_ | refine zcurH' (by decide +kernel) ?_)
            | ((first | refine aw_yrun draws (by kernel_rfl) ?_ | refine awl_skip' [2, 9, 25] rfl ?_ | refine yl_skip rfl ?_ | refine awl_pure_guard [2, 9, 25] rfl rfl rfl (by first | assumption | kernel_rfl) rfl (fun hc => by first | exact hsc | exact hd) (by simp) (by simp) (by simp) ?_ | refine yl_pureG rfl rfl rfl (by first | assumption | kernel_rfl) rfl (fun hc => by first | exact hsc | exact hd) (by simp) (by simp) (by simp) ?_ | refine awl_pure' [2, 9, 25] rfl rfl rfl (by first | assumption | kernel_rfl) rfl (by first | exact hsc | exact hd) (by simp) (by simp) ?_ | refine yl_pure rfl rfl rfl (by first | assumption | kernel_rfl) rfl (by first | exact hsc | exact hd) (by simp) (by simp) ?_ | refine aw_skip ?_ | refine aw_exit ?_); try simp -implicitDefEqProofs (maxSteps := 1000000) [hlti, h16i])
            | (refine awl_boxK [2, 9, 25] rfl rfl rfl (by first | assumption | kernel_rfl) (hb) rfl (by repeat (first | exact .nil | refine .cons (.ptr _) ?_ | refine .cons (.cl (by simp)) ?_)) ?_ ?_ ?_ ?_; (iterate 3 (focus (simp [σ0]; done))); simp -implicitDefEqProofs (maxSteps := 1000000) [hlti, h16i])
            | (refine awl_boxK [2, 9, 25] rfl rfl rfl (by first | assumption | kernel_rfl) (hf) rfl (by repeat (first | exact .nil | refine .cons (.ptr _) ?_ | refine .cons (.cl (by simp)) ?_)) ?_ ?_ ?_ ?_; (iterate 3 (focus (simp [σ0]; done))); simp -implicitDefEqProofs (maxSteps := 1000000) [hlti, h16i])
            | (refine aw_cond rfl (fun h => ?_) (fun h => ?_) <;> try (with_reducible first | exact ff_tt h | exact tt_ff h))
            | refine aw_block ?_
            | refine aw_ret (ret_of (.inr rfl) (by simp [Try.results39]; rfl) (Fin.close (Fin.of ?_)))
            | refine ret_of (.inl rfl) (by simp [Try.results39]; rfl) (Fin.close (Fin.of ?_)))
          all_goals first | simp [tupOf, zeroT, Tree.av, avs, h16] | simp at *
        · have h16i : ¬ (16 : Int) < dp := by omega
          refine apure_of Try.func39 Try.ntmps39 rfl ?_
          simp only [List.length_cons, List.length_nil, List.cons_append, List.nil_append, List.replicate]
          repeat' (first
            | refine aw_seq ?_
            | ((first | refine aw_run [2, 9, 25] ?_ | refine aw_ymix [2, 9, 25] draws (by decide +kernel) ?_); try simp -implicitDefEqProofs (maxSteps := 1000000) [hlti, h16i])
            | ((first | refine aw_zrun [2, 9, 25] [] draws (by decide +kernel) (by decide +kernel) ?_ | refine zl_skip (by simp) rfl ?_ | refine zl_pure_guard (by simp) rfl rfl rfl (by first | assumption | kernel_rfl) rfl (fun hc => by first | exact hsc | exact hd) (by simp) (by simp) (by simp) ?_ | refine zl_pure (by simp) rfl rfl rfl (by first | assumption | kernel_rfl) rfl (by first | exact hsc | exact hd) (by simp) (by simp) ?_); try simp -implicitDefEqProofs (maxSteps := 1000000) [hlti, h16i]; repeat first | refine zcurL (by decide +kernel) ?_ | refine zcurH (by decide +kernel) ?_ | refine zcurL' (by decide +kernel) ?_ | refine zcurH' (by decide +kernel) ?_)
            | ((first | refine aw_yrun draws (by kernel_rfl) ?_ | refine awl_skip' [2, 9, 25] rfl ?_ | refine yl_skip rfl ?_ | refine awl_pure_guard [2, 9, 25] rfl rfl rfl (by first | assumption | kernel_rfl) rfl (fun hc => by first | exact hsc | exact hd) (by simp) (by simp) (by simp) ?_ | refine yl_pureG rfl rfl rfl (by first | assumption | kernel_rfl) rfl (fun hc => by first | exact hsc | exact hd) (by simp) (by simp) (by simp) ?_ | refine awl_pure' [2, 9, 25] rfl rfl rfl (by first | assumption | kernel_rfl) rfl (by first | exact hsc | exact hd) (by simp) (by simp) ?_ | refine yl_pure rfl rfl rfl (by first | assumption | kernel_rfl) rfl (by first | exact hsc | exact hd) (by simp) (by simp) ?_ | refine aw_skip ?_ | refine aw_exit ?_); try simp -implicitDefEqProofs (maxSteps := 1000000) [hlti, h16i])
            | (refine awl_boxK [2, 9, 25] rfl rfl rfl (by first | assumption | kernel_rfl) (hb) rfl (by repeat (first | exact .nil | refine .cons (.ptr _) ?_ | refine .cons (.cl (by simp)) ?_)) ?_ ?_ ?_ ?_; (iterate 3 (focus (simp [σ0]; done))); simp -implicitDefEqProofs (maxSteps := 1000000) [hlti, h16i])
            | (refine awl_boxK [2, 9, 25] rfl rfl rfl (by first | assumption | kernel_rfl) (hf) rfl (by repeat (first | exact .nil | refine .cons (.ptr _) ?_ | refine .cons (.cl (by simp)) ?_)) ?_ ?_ ?_ ?_; (iterate 3 (focus (simp [σ0]; done))); simp -implicitDefEqProofs (maxSteps := 1000000) [hlti, h16i])
            | (refine aw_cond rfl (fun h => ?_) (fun h => ?_) <;> try (with_reducible first | exact ff_tt h | exact tt_ff h))
            | refine aw_block ?_
            | refine aw_ret (ret_of (.inr rfl) (by simp [Try.results39]; rfl) (Fin.close (Fin.of ?_)))
            | refine ret_of (.inl rfl) (by simp [Try.results39]; rfl) (Fin.close (Fin.of ?_)))
          all_goals first | simp [tupOf, zeroT, Tree.av, avs, h16] | simp at *
    · rw [if_neg hlt] at hS
      subst hS
      have hlti : ¬ (r.at_ : Int) < sc.1.length := by omega
      obtain ⟨i', fl', wh'⟩ := r
      clear hq hq' hfit hat hf
      simp only [rdc] at hb hlti
      cases fl' with
      | true =>
        refine apure_of Try.func39 Try.ntmps39 rfl ?_
        simp only [List.length_cons, List.length_nil, List.cons_append, List.nil_append, List.replicate]
        repeat' (first
          | refine aw_seq ?_
          | ((first | refine aw_run [2, 9, 25] ?_ | refine aw_ymix [2, 9, 25] draws (by decide +kernel) ?_); try simp -implicitDefEqProofs (maxSteps := 1000000) [hlti])
          | ((first | refine aw_zrun [2, 9, 25] [] draws (by decide +kernel) (by decide +kernel) ?_ | refine zl_skip (by simp) rfl ?_ | refine zl_pure_guard (by simp) rfl rfl rfl (by first | assumption | kernel_rfl) rfl (fun hc => by first | exact hsc | exact hd) (by simp) (by simp) (by simp) ?_ | refine zl_pure (by simp) rfl rfl rfl (by first | assumption | kernel_rfl) rfl (by first | exact hsc | exact hd) (by simp) (by simp) ?_); try simp -implicitDefEqProofs (maxSteps := 1000000) [hlti]; repeat first | refine zcurL (by decide +kernel) ?_ | refine zcurH (by decide +kernel) ?_ | refine zcurL' (by decide +kernel) ?_ | refine zcurH' (by decide +kernel) ?_)
          | ((first | refine aw_yrun draws (by kernel_rfl) ?_ | refine awl_skip' [2, 9, 25] rfl ?_ | refine yl_skip rfl ?_ | refine awl_pure_guard [2, 9, 25] rfl rfl rfl (by first | assumption | kernel_rfl) rfl (fun hc => by first | exact hsc | exact hd) (by simp) (by simp) (by simp) ?_ | refine yl_pureG rfl rfl rfl (by first | assumption | kernel_rfl) rfl (fun hc => by first | exact hsc | exact hd) (by simp) (by simp) (by simp) ?_ | refine awl_pure' [2, 9, 25] rfl rfl rfl (by first | assumption | kernel_rfl) rfl (by first | exact hsc | exact hd) (by simp) (by simp) ?_ | refine yl_pure rfl rfl rfl (by first | assumption | kernel_rfl) rfl (by first | exact hsc | exact hd) (by simp) (by simp) ?_ | refine aw_skip ?_ | refine aw_exit ?_); try simp -implicitDefEqProofs (maxSteps := 1000000) [hlti])
          | (refine awl_boxK [2, 9, 25] rfl rfl rfl (by first | assumption | kernel_rfl) (hb) rfl (by repeat (first | exact .nil | refine .cons (.ptr _) ?_ | refine .cons (.cl (by simp)) ?_)) ?_ ?_ ?_ ?_; (iterate 3 (focus (simp [σ0]; done))); simp -implicitDefEqProofs (maxSteps := 1000000) [hlti])
          | (refine aw_cond rfl (fun h => ?_) (fun h => ?_) <;> try (with_reducible first | exact ff_tt h | exact tt_ff h))
          | refine aw_block ?_
          | refine aw_ret (ret_of (.inr rfl) (by simp [Try.results39]; rfl) (Fin.close (Fin.of ?_)))
          | refine ret_of (.inl rfl) (by simp [Try.results39]; rfl) (Fin.close (Fin.of ?_)))
        all_goals first | simp [tupOf, zeroT, Tree.av, avs] | simp at *
      | false =>
        by_cases h16 : 16 < dp
        · have h16i : (16 : Int) < dp := by omega
          refine apure_of Try.func39 Try.ntmps39 rfl ?_
          simp only [List.length_cons, List.length_nil, List.cons_append, List.nil_append, List.replicate]
          repeat' (first
            | refine aw_seq ?_
            | ((first | refine aw_run [2, 9, 25] ?_ | refine aw_ymix [2, 9, 25] draws (by decide +kernel) ?_); try simp -implicitDefEqProofs (maxSteps := 1000000) [hlti, h16i])
            | ((first | refine aw_zrun [2, 9, 25] [] draws (by decide +kernel) (by decide +kernel) ?_ | refine zl_skip (by simp) rfl ?_ | refine zl_pure_guard (by simp) rfl rfl rfl (by first | assumption | kernel_rfl) rfl (fun hc => by first | exact hsc | exact hd) (by simp) (by simp) (by simp) ?_ | refine zl_pure (by simp) rfl rfl rfl (by first | assumption | kernel_rfl) rfl (by first | exact hsc | exact hd) (by simp) (by simp) ?_); try simp -implicitDefEqProofs (maxSteps := 1000000) [hlti, h16i]; repeat first | refine zcurL (by decide +kernel) ?_ | refine zcurH (by decide +kernel) ?_ | refine zcurL' (by decide +kernel) ?_ | refine zcurH' (by decide +kernel) ?_)
            | ((first | refine aw_yrun draws (by kernel_rfl) ?_ | refine awl_skip' [2, 9, 25] rfl ?_ | refine yl_skip rfl ?_ | refine awl_pure_guard [2, 9, 25] rfl rfl rfl (by first | assumption | kernel_rfl) rfl (fun hc => by first | exact hsc | exact hd) (by simp) (by simp) (by simp) ?_ | refine yl_pureG rfl rfl rfl (by first | assumption | kernel_rfl) rfl (fun hc => by first | exact hsc | exact hd) (by simp) (by simp) (by simp) ?_ | refine awl_pure' [2, 9, 25] rfl rfl rfl (by first | assumption | kernel_rfl) rfl (by first | exact hsc | exact hd) (by simp) (by simp) ?_ | refine yl_pure rfl rfl rfl (by first | assumption | kernel_rfl) rfl (by first | exact hsc | exact hd) (by simp) (by simp) ?_ | refine aw_skip ?_ | refine aw_exit ?_); try simp -implicitDefEqProofs (maxSteps := 1000000) [hlti, h16i])
            | (refine awl_boxK [2, 9, 25] rfl rfl rfl (by first | assumption | kernel_rfl) (hb) rfl (by repeat (first | exact .nil | refine .cons (.ptr _) ?_ | refine .cons (.cl (by simp)) ?_)) ?_ ?_ ?_ ?_; (iterate 3 (focus (simp [σ0]; done))); simp -implicitDefEqProofs (maxSteps := 1000000) [hlti, h16i])
            | (refine aw_cond rfl (fun h => ?_) (fun h => ?_) <;> try (with_reducible first | exact ff_tt h | exact tt_ff h))
            | refine aw_block ?_
            | refine aw_ret (ret_of (.inr rfl) (by simp [Try.results39]; rfl) (Fin.close (Fin.of ?_)))
            | refine ret_of (.inl rfl) (by simp [Try.results39]; rfl) (Fin.close (Fin.of ?_)))
          all_goals first | simp [tupOf, zeroT, Tree.av, avs, h16] | simp at *
        · have h16i : ¬ (16 : Int) < dp := by omega
          refine apure_of Try.func39 Try.ntmps39 rfl ?_
          simp only [List.length_cons, List.length_nil, List.cons_append, List.nil_append, List.replicate]
          repeat' (first
            | refine aw_seq ?_
            | ((first | refine aw_run [2, 9, 25] ?_ | refine aw_ymix [2, 9, 25] draws (by decide +kernel) ?_); try simp -implicitDefEqProofs (maxSteps := 1000000) [hlti, h16i])
            | ((first | refine aw_zrun [2, 9, 25] [] draws (by decide +kernel) (by decide +kernel) ?_ | refine zl_skip (by simp) rfl ?_ | refine zl_pure_guard (by simp) rfl rfl rfl (by first | assumption | kernel_rfl) rfl (fun hc => by first | exact hsc | exact hd) (by simp) (by simp) (by simp) ?_ | refine zl_pure (by simp) rfl rfl rfl (by first | assumption | kernel_rfl) rfl (by first | exact hsc | exact hd) (by simp) (by simp) ?_); try simp -implicitDefEqProofs (maxSteps := 1000000) [hlti, h16i]; repeat first | refine zcurL (by decide +kernel) ?_ | refine zcurH (by decide +kernel) ?_ | refine zcurL' (by decide +kernel) ?_ | refine zcurH' (by decide +kernel) ?_)
            | ((first | refine aw_yrun draws (by kernel_rfl) ?_ | refine awl_skip' [2, 9, 25] rfl ?_ | refine yl_skip rfl ?_ | refine awl_pure_guard [2, 9, 25] rfl rfl rfl (by first | assumption | kernel_rfl) rfl (fun hc => by first | exact hsc | exact hd) (by simp) (by simp) (by simp) ?_ | refine yl_pureG rfl rfl rfl (by first | assumption | kernel_rfl) rfl (fun hc => by first | exact hsc | exact hd) (by simp) (by simp) (by simp) ?_ | refine awl_pure' [2, 9, 25] rfl rfl rfl (by first | assumption | kernel_rfl) rfl (by first | exact hsc | exact hd) (by simp) (by simp) ?_ | refine yl_pure rfl rfl rfl (by first | assumption | kernel_rfl) rfl (by first | exact hsc | exact hd) (by simp) (by simp) ?_ | refine aw_skip ?_ | refine aw_exit ?_); try simp -implicitDefEqProofs (maxSteps := 1000000) [hlti, h16i])
            | (refine awl_boxK [2, 9, 25] rfl rfl rfl (by first | assumption | kernel_rfl) (hb) rfl (by repeat (first | exact .nil | refine .cons (.ptr _) ?_ | refine .cons (.cl (by simp)) ?_)) ?_ ?_ ?_ ?_; (iterate 3 (focus (simp [σ0]; done))); simp -implicitDefEqProofs (maxSteps := 1000000) [hlti, h16i])
            | (refine aw_cond rfl (fun h => ?_) (fun h => ?_) <;> try (with_reducible first | exact ff_tt h | exact tt_ff h))
            | refine aw_block ?_
            | refine aw_ret (ret_of (.inr rfl) (by simp [Try.results39]; rfl) (Fin.close (Fin.of ?_)))
            | refine ret_of (.inl rfl) (by simp [Try.results39]; rfl) (Fin.close (Fin.of ?_)))
          all_goals first | simp [tupOf, zeroT, Tree.av, avs, h16] | simp at *
  · rw [if_pos he]
    generalize scanS s = sc at *
    refine apure_of Try.func39 Try.ntmps39 rfl ?_
    simp only [List.length_cons, List.length_nil, List.cons_append, List.nil_append, List.replicate]
    repeat' (first
      | refine aw_seq ?_
      | ((first | refine aw_run [2, 9] ?_ | refine aw_ymix [2, 9] draws (by decide +kernel) ?_); try simp -implicitDefEqProofs (maxSteps := 1000000) [he])
      | ((first | refine aw_zrun [2, 9] [] draws (by decide +kernel) (by decide +kernel) ?_ | refine zl_skip (by simp) rfl ?_ | refine zl_pure_guard (by simp) rfl rfl rfl (by first | assumption | kernel_rfl) rfl (fun hc => by first | exact hsc) (by simp) (by simp) (by simp) ?_ | refine zl_pure (by simp) rfl rfl rfl (by first | assumption | kernel_rfl) rfl (by first | exact hsc) (by simp) (by simp) ?_); try simp -implicitDefEqProofs (maxSteps := 1000000) [he]; repeat first | refine zcurL (by decide +kernel) ?_ | refine zcurH (by decide +kernel) ?_ | refine zcurL' (by decide +kernel) ?_ | refine zcurH' (by decide +kernel) ?_)
      | ((first | refine aw_yrun draws (by kernel_rfl) ?_ | refine awl_skip' [2, 9] rfl ?_ | refine yl_skip rfl ?_ | refine awl_pure_guard [2, 9] rfl rfl rfl (by first | assumption | kernel_rfl) rfl (fun hc => by first | exact hsc) (by simp) (by simp) (by simp) ?_ | refine yl_pureG rfl rfl rfl (by first | assumption | kernel_rfl) rfl (fun hc => by first | exact hsc) (by simp) (by simp) (by simp) ?_ | refine awl_pure' [2, 9] rfl rfl rfl (by first | assumption | kernel_rfl) rfl (by first | exact hsc) (by simp) (by simp) ?_ | refine yl_pure rfl rfl rfl (by first | assumption | kernel_rfl) rfl (by first | exact hsc) (by simp) (by simp) ?_ | refine aw_skip ?_ | refine aw_exit ?_); try simp -implicitDefEqProofs (maxSteps := 1000000) [he])
      | (refine aw_cond rfl (fun h => ?_) (fun h => ?_) <;> try (with_reducible first | exact ff_tt h | exact tt_ff h))
      | refine aw_block ?_
      | refine aw_ret (ret_of (.inr rfl) (by simp [Try.results39]; rfl) (Fin.close (Fin.of ?_)))
      | refine ret_of (.inl rfl) (by simp [Try.results39]; rfl) (Fin.close (Fin.of ?_)))
    all_goals simp [tupOf, zeroT, Tree.av, avs]
end Go.AL
/-! Contracts: gridironlaw05.Size, within, Fits. -/
namespace Go.AL
open Go.Proofs
set_option linter.unusedSimpArgs false
set_option linter.unusedVariables false
mutual
/-- How many parts it has. -/
def tszT : Tree → Nat
  | .mk _ _ _ _ _ _ _ ks => tszs ks + 1
def tszs : List Tree → Nat
  | [] => 0
  | t :: ts => tszT t + tszs ts
end
theorem tszs_append : ∀ (l m : List Tree), tszs (l ++ m) = tszs l + tszs m
  | [], m => by simp [tszs]
  | t :: l, m => by rw [List.cons_append, tszs, tszs, tszs_append l m]; omega
theorem tszs_take {l : List Tree} {i : Nat} (h : i < l.length) : tszs (l.take (i + 1)) = tszs (l.take i) + tszT l[i] := by
  rw [List.take_add_one, List.getElem?_eq_getElem h, tszs_append]; simp [tszs]
theorem tszs_le_take {l : List Tree} {i : Nat} : tszs (l.take i) ≤ tszs l := by
  have := tszs_append (l.take i) (l.drop i)
  rw [List.take_append_drop] at this; omega
/-- What all kids' trees have, the tree has. -/
theorem Tree.byKids {Q : Tree → Prop} (h : ∀ k n a b c d w ks, (∀ t ∈ ks, Q t) → Q (.mk k n a b c d w ks)) : ∀ t, Q t := by
  have key : ∀ (m : Nat) (t : Tree), tszT t ≤ m → Q t := by
    intro m
    induction m with
    | zero => intro t ht; obtain ⟨k, n, a, b, c, d, w, ks⟩ := t; rw [tszT] at ht; omega
    | succ m ih =>
      intro t ht
      obtain ⟨k, n, a, b, c, d, w, ks⟩ := t
      rw [tszT] at ht
      refine h _ _ _ _ _ _ _ _ fun t hm => ih t ?_
      have : ∀ l : List Tree, t ∈ l → tszT t ≤ tszs l := by
        intro l
        induction l with
        | nil => intro h; cases h
        | cons u l ih2 =>
          intro h
          rw [tszs]
          rcases List.mem_cons.1 h with rfl | h
          · omega
          · have := ih2 h; omega
      have := this ks hm
      omega
  exact fun t => key _ t (Nat.le_refl _)
def cap (x m : Nat) : Nat := min x (m + 1)
def SizeP (t : Tree) : Prop := t.sh → ∀ m : Nat, m ≤ 1000000 → APure Try.prog 37 [t.av, vi (m : Nat)] (vi (cap (tszT t) m : Nat))
set_option maxHeartbeats 8000000 in
set_option maxRecDepth 100000 in
theorem size5_ok : ∀ t, SizeP t := by
  refine Tree.byKids fun k n a b c d w ks ih => ?_
  intro hsh m hm
  rw [Tree.sh, shs_all] at hsh
  obtain ⟨hlk, hsh⟩ := hsh
  rw [tszT, Tree.av]
  refine apure_of Try.func37 Try.ntmps37 rfl ?_
  simp only [List.length_cons, List.length_nil, List.cons_append, List.nil_append, List.replicate]
  repeat' (first
    | refine aw_seq ?_
    | (refine aw_run [] ?_; try simp -implicitDefEqProofs (maxSteps := 1000000))
    | ((first | refine awl_skip' [] rfl ?_ | refine aw_skip ?_ | refine aw_exit ?_); try simp -implicitDefEqProofs (maxSteps := 1000000))
    | (refine aw_cond rfl (fun h => ?_) (fun h => ?_) <;> try (with_reducible first | exact ff_tt h | exact tt_ff h))
    | refine aw_block ?_
    | refine aw_ret (ret_of (.inr rfl) (by simp [Try.results37]; rfl) (Fin.of ?_))
    | refine ret_of (.inl rfl) (by simp [Try.results37]; rfl) (Fin.of ?_))
  refine aw_loopW [1, 2, 5, 6] (fun q fr σ => ∃ i M : Nat, i + q = ks.length ∧ σ = mkSt [] [] M ∧ fr = frm 31 [(1, vi (m : Nat)), (2, .vel [.agg [vi k, vi n, vi a, vi b, vi c, vi d, vs w, .vsl (avs ks)]] 0 0), (5, vi (cap (tszs (ks.take i) + 1) m : Nat)), (6, vi (i : Nat))]) ks.length ?_ ?_
  · exact ⟨mkSt [] [] 0, le_mkSt (by simp) (by simp) (by simp [σ0]), 0, 0, by omega, rfl, by simp [tszs, cap]⟩
  · rintro q fr σ ⟨i, M, hi, rfl, rfl⟩
    obtain ⟨nn, hnn⟩ : ∃ nn, nn = cap (tszs (ks.take i) + 1) m := ⟨_, rfl⟩
    rw [← hnn]
    have hnn' : nn = min (tszs (ks.take i) + 1) (m + 1) := hnn
    simp
    have hl := avs_len ks
    have htk := tszs_le_take (l := ks) (i := i)
    by_cases hlt : i < ks.length
    · have hlti : (i : Int) < ks.length := by omega
      by_cases hnm : nn ≤ m
      · have hnmi : (nn : Int) ≤ m := by omega
        obtain ⟨t, ht⟩ : ∃ t, ks[i] = t := ⟨_, rfl⟩
        have hmem : t ∈ ks := ht ▸ List.getElem_mem hlt
        have hr := ih t hmem (hsh t hmem) (m - nn) (by omega)
        have hg := avs_get hlt
        rw [ht] at hg
        have hla : i < (avs ks).length := by omega
        have hts := tszs_take hlt
        rw [ht] at hts
        have wm : IntKind.i64.wrap ((m : Int) - (nn : Int)) = ((m - nn : Nat) : Int) := by rw [wrap_id (by omega) (by omega)]; omega
        have wi : IntKind.i64.wrap ((i : Int) + 1) = (i : Int) + 1 := wrap_id (by omega) (by omega)
        obtain ⟨rr, hrr⟩ : ∃ rr, rr = cap (tszT t) (m - nn) := ⟨_, rfl⟩
        have hrr' : rr = min (tszT t) (m - nn + 1) := hrr
        rw [← hrr] at hr
        have wn : IntKind.i64.wrap ((nn : Int) + (rr : Int)) = (nn : Int) + (rr : Int) := wrap_id (by omega) (by omega)
        obtain ⟨tk, tn, ta, tb, tc, td, tw, tks⟩ := t
        rw [Tree.av] at hr hg
        repeat' (first
          | refine aw_seq ?_
          | (refine aw_run [] ?_; try simp -implicitDefEqProofs (maxSteps := 1000000) [hl, hlti, hla, hg, hnmi, wm, wi, wn])
          | ((first | refine awl_skip' [] rfl ?_ | refine awl_pure_guard [] rfl rfl rfl (by first | assumption | kernel_rfl) rfl (fun hc => by first | exact hr) (by simp) (by simp) (by simp) ?_ | refine awl_pure' [] rfl rfl rfl (by first | assumption | kernel_rfl) rfl (by first | exact hr) (by simp) (by simp) ?_ | refine aw_skip ?_ | refine aw_exit ?_); try simp -implicitDefEqProofs (maxSteps := 1000000) [hl, hlti, hla, hg, hnmi, wm, wi, wn])
          | (refine aw_cond rfl (fun h => ?_) (fun h => ?_) <;> try (with_reducible first | exact ff_tt h | exact tt_ff h))
          | refine aw_block ?_
          | refine aw_ret (ret_of (.inr rfl) (by simp [Try.results37]; rfl) (Fin.of ?_))
          | refine ret_of (.inl rfl) (by simp [Try.results37]; rfl) (Fin.of ?_))
        refine ⟨q - 1, by omega, mkSt [] [] M, le_mkSt (by simp) (by simp) (by simp), i + 1, by omega, ⟨M, rfl⟩, ?_, by omega⟩
        rw [hts]; unfold cap; omega
      · have hnmi : ¬ (nn : Int) ≤ m := by omega
        have hres : cap (tszs ks + 1) m = nn := by unfold cap; omega
        rw [hres]
        repeat' (first
          | refine aw_seq ?_
          | (refine aw_run [] ?_; try simp -implicitDefEqProofs (maxSteps := 1000000) [hl, hlti, hnmi])
          | ((first | refine awl_skip' [] rfl ?_ | refine aw_skip ?_ | refine aw_exit ?_); try simp -implicitDefEqProofs (maxSteps := 1000000) [hl, hlti, hnmi])
          | (refine aw_cond rfl (fun h => ?_) (fun h => ?_) <;> try (with_reducible first | exact ff_tt h | exact tt_ff h))
          | refine aw_block ?_
          | refine aw_ret (ret_of (.inr rfl) (by simp [Try.results37]; rfl) (Fin.of ?_))
          | refine ret_of (.inl rfl) (by simp [Try.results37]; rfl) (Fin.of ?_))
        simp [tupOf]
    · have hlti : ¬ (i : Int) < ks.length := by omega
      have htk : ks.take i = ks := List.take_of_length_le (by omega)
      rw [htk] at hnn
      rw [← hnn]
      repeat' (first
        | refine aw_seq ?_
        | (refine aw_run [] ?_; try simp -implicitDefEqProofs (maxSteps := 1000000) [hl, hlti])
        | ((first | refine awl_skip' [] rfl ?_ | refine aw_skip ?_ | refine aw_exit ?_); try simp -implicitDefEqProofs (maxSteps := 1000000) [hl, hlti])
        | (refine aw_cond rfl (fun h => ?_) (fun h => ?_) <;> try (with_reducible first | exact ff_tt h | exact tt_ff h))
        | refine aw_block ?_
        | refine aw_ret (ret_of (.inr rfl) (by simp [Try.results37]; rfl) (Fin.of ?_))
        | refine ret_of (.inl rfl) (by simp [Try.results37]; rfl) (Fin.of ?_))
      simp [tupOf]
def withinB : Nat → Tree → Bool
  | 0, _ => false
  | m + 1, .mk _ _ _ _ _ _ _ ks => decide (ks.length ≤ 400) && ks.all (withinB m)
theorem all_take {p : Tree → Bool} {l : List Tree} {i : Nat} (h : i < l.length) (h1 : (l.take i).all p = true) (h2 : p l[i] = true) : (l.take (i + 1)).all p = true := by
  rw [List.take_add_one, List.getElem?_eq_getElem h, List.all_append, h1]; simp [h2]
theorem all_not {p : Tree → Bool} {l : List Tree} {t : Tree} (h : t ∈ l) (h2 : p t = false) : l.all p = false := by
  rw [Bool.eq_false_iff]; intro h3; have := List.all_eq_true.1 h3 t h; rw [h2] at this; cases this
def WithinP (t : Tree) : Prop := t.sh → ∀ m : Nat, m ≤ 1000000 → APure Try.prog 38 [t.av, vi (m : Nat)] (vb (withinB m t))
set_option maxHeartbeats 8000000 in
set_option maxRecDepth 100000 in
theorem within5_ok : ∀ t, WithinP t := by
  refine Tree.byKids fun k n a b c d w ks ih => ?_
  intro hsh m hm
  rw [Tree.sh, shs_all] at hsh
  obtain ⟨hlk, hsh⟩ := hsh
  rw [Tree.av]
  cases m with
  | zero =>
    rw [withinB]
    refine apure_of Try.func38 Try.ntmps38 rfl ?_
    simp only [List.length_cons, List.length_nil, List.cons_append, List.nil_append, List.replicate]
    repeat' (first
      | refine aw_seq ?_
      | (refine aw_run [] ?_; try simp -implicitDefEqProofs (maxSteps := 1000000))
      | ((first | refine awl_skip' [] rfl ?_ | refine aw_skip ?_ | refine aw_exit ?_); try simp -implicitDefEqProofs (maxSteps := 1000000))
      | (refine aw_cond rfl (fun h => ?_) (fun h => ?_) <;> try (with_reducible first | exact ff_tt h | exact tt_ff h))
      | refine aw_block ?_
      | refine aw_ret (ret_of (.inr rfl) (by simp [Try.results38]; rfl) (Fin.of ?_))
      | refine ret_of (.inl rfl) (by simp [Try.results38]; rfl) (Fin.of ?_))
    all_goals simp [tupOf] at *
  | succ m =>
    rw [withinB]
    have m0 : ¬ ((m : Int) + 1 = 0) := by omega
    have hl := avs_len ks
    by_cases hw : ks.length ≤ 400
    · have hwi : ¬ (400 : Int) < (ks.length : Nat) := by omega
      simp only [hw, decide_true, Bool.true_and]
      refine apure_of Try.func38 Try.ntmps38 rfl ?_
      simp only [List.length_cons, List.length_nil, List.cons_append, List.nil_append, List.replicate]
      repeat' (first
        | refine aw_seq ?_
        | (refine aw_run [] ?_; try simp -implicitDefEqProofs (maxSteps := 1000000) [m0, hl, hwi])
        | ((first | refine awl_skip' [] rfl ?_ | refine aw_skip ?_ | refine aw_exit ?_); try simp -implicitDefEqProofs (maxSteps := 1000000) [m0, hl, hwi])
        | (refine aw_cond rfl (fun h => ?_) (fun h => ?_) <;> try (with_reducible first | exact ff_tt h | exact tt_ff h))
        | refine aw_block ?_
        | refine aw_ret (ret_of (.inr rfl) (by simp [Try.results38]; rfl) (Fin.of ?_))
        | refine ret_of (.inl rfl) (by simp [Try.results38]; rfl) (Fin.of ?_))
      refine aw_loopW [1, 2, 5] (fun q fr σ => ∃ i M : Nat, i + q = ks.length ∧ (ks.take i).all (withinB m) = true ∧ σ = mkSt [] [] M ∧ fr = frm 32 [(1, vi (m + 1 : Nat)), (2, .vel [.agg [vi k, vi n, vi a, vi b, vi c, vi d, vs w, .vsl (avs ks)]] 0 0), (5, vi (i : Nat))]) ks.length ?_ ?_
      · exact ⟨mkSt [] [] 0, le_mkSt (by simp) (by simp) (by simp [σ0]), 0, 0, by omega, by simp, rfl, by simp⟩
      · rintro q fr σ ⟨i, M, hi, hal, rfl, rfl⟩
        simp
        by_cases hlt : i < ks.length
        · have hlti : (i : Int) < ks.length := by omega
          obtain ⟨t, ht⟩ : ∃ t, ks[i] = t := ⟨_, rfl⟩
          have hmem : t ∈ ks := ht ▸ List.getElem_mem hlt
          have hr := ih t hmem (hsh t hmem) m (by omega)
          have hg := avs_get hlt
          rw [ht] at hg
          have hla : i < (avs ks).length := by omega
          have wm : IntKind.i64.wrap (m : Int) = (m : Int) := wrap_id (by omega) (by omega)
          have wi : IntKind.i64.wrap ((i : Int) + 1) = (i : Int) + 1 := wrap_id (by omega) (by omega)
          cases hb : withinB m t with
          | true =>
            rw [hb] at hr
            have hal' := all_take (p := withinB m) hlt hal (by rw [ht]; exact hb)
            obtain ⟨tk, tn, ta, tb, tc, td, tw, tks⟩ := t
            rw [Tree.av] at hr hg
            repeat' (first
              | refine aw_seq ?_
              | (refine aw_run [] ?_; try simp -implicitDefEqProofs (maxSteps := 1000000) [hl, hlti, hla, hg, wm, wi])
              | ((first | refine awl_skip' [] rfl ?_ | refine awl_pure_guard [] rfl rfl rfl (by first | assumption | kernel_rfl) rfl (fun hc => by first | exact hr) (by simp) (by simp) (by simp) ?_ | refine awl_pure' [] rfl rfl rfl (by first | assumption | kernel_rfl) rfl (by first | exact hr) (by simp) (by simp) ?_ | refine aw_skip ?_ | refine aw_exit ?_); try simp -implicitDefEqProofs (maxSteps := 1000000) [hl, hlti, hla, hg, wm, wi])
              | (refine aw_cond rfl (fun h => ?_) (fun h => ?_) <;> try (with_reducible first | exact ff_tt h | exact tt_ff h))
              | refine aw_block ?_
              | refine aw_ret (ret_of (.inr rfl) (by simp [Try.results38]; rfl) (Fin.of ?_))
              | refine ret_of (.inl rfl) (by simp [Try.results38]; rfl) (Fin.of ?_))
            exact ⟨q - 1, by omega, mkSt [] [] M, le_mkSt (by simp) (by simp) (by simp), i + 1, by omega, List.all_eq_true.1 hal', ⟨M, rfl⟩, by omega⟩
          | false =>
            rw [hb] at hr
            have hno := all_not (p := withinB m) hmem hb
            obtain ⟨tk, tn, ta, tb, tc, td, tw, tks⟩ := t
            rw [Tree.av] at hr hg
            rw [hno]
            repeat' (first
              | refine aw_seq ?_
              | (refine aw_run [] ?_; try simp -implicitDefEqProofs (maxSteps := 1000000) [hl, hlti, hla, hg, wm, wi])
              | ((first | refine awl_skip' [] rfl ?_ | refine awl_pure_guard [] rfl rfl rfl (by first | assumption | kernel_rfl) rfl (fun hc => by first | exact hr) (by simp) (by simp) (by simp) ?_ | refine awl_pure' [] rfl rfl rfl (by first | assumption | kernel_rfl) rfl (by first | exact hr) (by simp) (by simp) ?_ | refine aw_skip ?_ | refine aw_exit ?_); try simp -implicitDefEqProofs (maxSteps := 1000000) [hl, hlti, hla, hg, wm, wi])
              | (refine aw_cond rfl (fun h => ?_) (fun h => ?_) <;> try (with_reducible first | exact ff_tt h | exact tt_ff h))
              | refine aw_block ?_
              | refine aw_ret (ret_of (.inr rfl) (by simp [Try.results38]; rfl) (Fin.of ?_))
              | refine ret_of (.inl rfl) (by simp [Try.results38]; rfl) (Fin.of ?_))
            simp [tupOf]
        · have hlti : ¬ (i : Int) < ks.length := by omega
          rw [List.take_of_length_le (by omega)] at hal
          rw [hal]
          repeat' (first
            | refine aw_seq ?_
            | (refine aw_run [] ?_; try simp -implicitDefEqProofs (maxSteps := 1000000) [hl, hlti])
            | ((first | refine awl_skip' [] rfl ?_ | refine aw_skip ?_ | refine aw_exit ?_); try simp -implicitDefEqProofs (maxSteps := 1000000) [hl, hlti])
            | (refine aw_cond rfl (fun h => ?_) (fun h => ?_) <;> try (with_reducible first | exact ff_tt h | exact tt_ff h))
            | refine aw_block ?_
            | refine aw_ret (ret_of (.inr rfl) (by simp [Try.results38]; rfl) (Fin.of ?_))
            | refine ret_of (.inl rfl) (by simp [Try.results38]; rfl) (Fin.of ?_))
          simp [tupOf]
    · have hwi : (400 : Int) < (ks.length : Nat) := by omega
      simp only [hw, decide_false, Bool.false_and]
      refine apure_of Try.func38 Try.ntmps38 rfl ?_
      simp only [List.length_cons, List.length_nil, List.cons_append, List.nil_append, List.replicate]
      repeat' (first
        | refine aw_seq ?_
        | (refine aw_run [] ?_; try simp -implicitDefEqProofs (maxSteps := 1000000) [m0, hl, hwi])
        | ((first | refine awl_skip' [] rfl ?_ | refine aw_skip ?_ | refine aw_exit ?_); try simp -implicitDefEqProofs (maxSteps := 1000000) [m0, hl, hwi])
        | (refine aw_cond rfl (fun h => ?_) (fun h => ?_) <;> try (with_reducible first | exact ff_tt h | exact tt_ff h))
        | refine aw_block ?_
        | refine aw_ret (ret_of (.inr rfl) (by simp [Try.results38]; rfl) (Fin.of ?_))
        | refine ret_of (.inl rfl) (by simp [Try.results38]; rfl) (Fin.of ?_))
      all_goals first | simp [tupOf] | simp at *
def fitsB (t : Tree) : Bool := decide (tszT t ≤ 400) && withinB 40 t
set_option maxHeartbeats 8000000 in
set_option maxRecDepth 100000 in
theorem fits5_ok (t : Tree) (h : t.sh) : APure Try.prog 8 [t.av] (vb (fitsB t)) := by
  have h1 := size5_ok t h 400 (by omega)
  have h2 := within5_ok t h 40 (by omega)
  have h1 : APure Try.prog 37 [t.av, vi 400] (vi (cap (tszT t) 400 : Nat)) := h1
  have h2 : APure Try.prog 38 [t.av, vi 40] (vb (withinB 40 t)) := h2
  unfold fitsB
  by_cases hs : tszT t ≤ 400
  · have e : ¬ (400 : Int) < (cap (tszT t) 400 : Nat) := by unfold cap; omega
    simp only [hs, decide_true, Bool.true_and]
    generalize tszT t = z0 at *
    generalize withinB 40 t = wb at *
    obtain ⟨k, n, a, b, c, d, w, ks⟩ := t
    rw [Tree.av] at h1 h2 ⊢
    refine apure_of Try.func8 Try.ntmps8 rfl ?_
    simp only [List.length_cons, List.length_nil, List.cons_append, List.nil_append, List.replicate]
    repeat' (first
      | refine aw_seq ?_
      | (refine aw_run [] ?_; try simp -implicitDefEqProofs (maxSteps := 1000000) [e])
      | ((first | refine awl_skip' [] rfl ?_ | refine awl_pure_guard [] rfl rfl rfl (by first | assumption | kernel_rfl) rfl (fun hc => by first | exact h1 | exact h2) (by simp) (by simp) (by simp) ?_ | refine awl_pure' [] rfl rfl rfl (by first | assumption | kernel_rfl) rfl (by first | exact h1 | exact h2) (by simp) (by simp) ?_ | refine aw_skip ?_ | refine aw_exit ?_); try simp -implicitDefEqProofs (maxSteps := 1000000) [e])
      | (refine aw_cond rfl (fun h => ?_) (fun h => ?_) <;> try (with_reducible first | exact ff_tt h | exact tt_ff h))
      | refine aw_block ?_
      | refine aw_ret (ret_of (.inr rfl) (by simp [Try.results8]; rfl) (Fin.of ?_))
      | refine ret_of (.inl rfl) (by simp [Try.results8]; rfl) (Fin.of ?_))
    all_goals first | simp [tupOf] | simp at *
  · have e : (400 : Int) < (cap (tszT t) 400 : Nat) := by unfold cap; omega
    simp only [hs, decide_false, Bool.false_and]
    generalize tszT t = z0 at *
    obtain ⟨k, n, a, b, c, d, w, ks⟩ := t
    rw [Tree.av] at h1 h2 ⊢
    refine apure_of Try.func8 Try.ntmps8 rfl ?_
    simp only [List.length_cons, List.length_nil, List.cons_append, List.nil_append, List.replicate]
    repeat' (first
      | refine aw_seq ?_
      | (refine aw_run [] ?_; try simp -implicitDefEqProofs (maxSteps := 1000000) [e])
      | ((first | refine awl_skip' [] rfl ?_ | refine awl_pure_guard [] rfl rfl rfl (by first | assumption | kernel_rfl) rfl (fun hc => by first | exact h1 | exact h2) (by simp) (by simp) (by simp) ?_ | refine awl_pure' [] rfl rfl rfl (by first | assumption | kernel_rfl) rfl (by first | exact h1 | exact h2) (by simp) (by simp) ?_ | refine aw_skip ?_ | refine aw_exit ?_); try simp -implicitDefEqProofs (maxSteps := 1000000) [e])
      | (refine aw_cond rfl (fun h => ?_) (fun h => ?_) <;> try (with_reducible first | exact ff_tt h | exact tt_ff h))
      | refine aw_block ?_
      | refine aw_ret (ret_of (.inr rfl) (by simp [Try.results8]; rfl) (Fin.of ?_))
      | refine ret_of (.inl rfl) (by simp [Try.results8]; rfl) (Fin.of ?_))
    all_goals first | simp [tupOf] | simp at *
end Go.AL
