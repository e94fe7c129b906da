/- Parts of the proof of MonoHolds: the logic, contracts, plain laws. -/
import Derived.Test.YtjldlcakinmajaaZMonoHolds18
import Derived.Test.YtjldlcakinmajaaZMonoHolds12
/-! The parser's trees are not too deep, nor too wide. -/
namespace Go.AL
open Go.Proofs
set_option linter.unusedSimpArgs false
set_option linter.unusedVariables false
variable {ts : List (Tok × Nat)} {en : Nat}
def dB : Nat → Nat
  | 0 => 1
  | n + 1 => dB n + n + 1
theorem dB_le : ∀ n, n ≤ 10000000 → dB n ≤ n * 10000001 + 1
  | 0, _ => by simp [dB]
  | n + 1, h => by
    have := dB_le n (by omega)
    rw [dB]; omega
theorem dB_pos : ∀ n, 1 ≤ dB n
  | 0 => Nat.le_refl _
  | n + 1 => by rw [dB]; have := dB_pos n; omega
def Fit (n : Nat) (t : Tree) : Prop := deepT t ≤ n ∧ t.sh
theorem Fit.mono {n m : Nat} {t : Tree} (h : Fit n t) (hm : n ≤ m) : Fit m t := ⟨Nat.le_trans h.1 hm, h.2⟩
theorem fit_leaf {n : Nat} (hn : 1 ≤ n) (k m a b c d : Int) (w : ByteArray) : Fit n (.mk k m a b c d w []) := ⟨by simpa [deepT, deeps] using hn, by simp [Tree.sh, shs]⟩
theorem fit_kids {n : Nat} {k m a b c d : Int} {w : ByteArray} {ks : List Tree} (h : ∀ t ∈ ks, Fit n t) (hl : ks.length ≤ 9223372036854775807) : Fit (n + 1) (.mk k m a b c d w ks) := by
  refine ⟨?_, ?_⟩
  · rw [deepT]
    have : ∀ l : List Tree, (∀ t ∈ l, Fit n t) → deeps l ≤ n := by
      intro l
      induction l with
      | nil => intro _; simp [deeps]
      | cons t l ih => intro h; rw [deeps]; have h1 := (h t (.head _)).1; have h2 := ih fun t ht => h t (.tail _ ht); omega
    have := this ks h
    omega
  · rw [Tree.sh, shs_all]; exact ⟨hl, fun t ht => (h t ht).2⟩
theorem fits : ∀ n, n ≤ 10000000 → (∀ lv s q, lineF ts en n lv s = some q → Fit (dB n) q.1) ∧ (∀ lv t s q m, loopF ts en n lv t s = some q → Fit m t → dB n ≤ m → Fit (m + n) q.1) ∧ (∀ s q, prefixF ts en n s = some q → Fit (dB n) q.1) ∧
    (∀ s q, operandF ts en n s = some q → Fit (dB n) q.1) ∧ (∀ w ks s q m, argsF ts en n w ks s = some q → (∀ t ∈ ks, Fit m t) → dB n ≤ m → n + ks.length ≤ 1000000000 → Fit (m + 1) q.1) ∧ (∀ co s q, itemF ts en n co s = some q → Fit (dB n) q.1) := by
  intro n
  induction n with
  | zero => intro _; refine ⟨?_, ?_, ?_, ?_, ?_, ?_⟩ <;> (intros; rename_i h; first | cases h | skip) <;> simp_all [lineF, loopF, prefixF, operandF, argsF, itemF]
  | succ n ih =>
    intro hn
    obtain ⟨hL, hW, hP, hO, hA, hI⟩ := ih (by omega)
    have hB : dB (n + 1) = dB n + n + 1 := rfl
    have hp := dB_pos n
    refine ⟨fun lv s q h => ?_, fun lv t s q m h ht hm => ?_, fun s q h => ?_, fun s q h => ?_, fun w ks s q m h hk hm hl => ?_, fun co s q h => ?_⟩
    · unfold lineF at h
      split at h
      · exact (hP s q h).mono (by omega)
      · obtain ⟨r, hr, h⟩ := Option.bind_eq_some_iff.1 h
        exact (hW lv r.1 r.2 q (dB n) h (hL _ _ r hr) (Nat.le_refl _)).mono (by omega)
    · unfold loopF at h
      split at h
      · obtain rfl := Option.some.inj h; exact ht.mono (by omega)
      · split at h
        · cases h
        · obtain ⟨r, hr, h⟩ := Option.bind_eq_some_iff.1 h
          refine (hW lv _ r.2 q (m + 1) h ?_ (by omega)).mono (by omega)
          unfold opT
          refine fit_kids (fun u hu => ?_) (by simp)
          simp only [List.mem_cons, List.not_mem_nil, or_false] at hu
          rcases hu with rfl | rfl
          · exact ht
          · exact (hL _ _ r hr).mono (by omega)
    · unfold prefixF at h
      split at h
      · obtain ⟨r, hr, h⟩ := Option.bind_eq_some_iff.1 h
        obtain rfl := Option.some.inj h
        refine Fit.mono (n := dB n + 1) ?_ (by omega)
        refine fit_kids (fun u hu => ?_) (by simp)
        simp only [List.mem_cons, List.not_mem_nil, or_false] at hu
        subst hu; exact hP _ r hr
      · exact (hO s q h).mono (by omega)
    · unfold operandF at h
      split at h
      · obtain ⟨r, hr, h⟩ := Option.bind_eq_some_iff.1 h
        obtain rfl := Option.some.inj h
        exact (hL _ _ r hr).mono (by omega)
      · split at h
        · obtain rfl := Option.some.inj h; exact fit_leaf (by omega) ..
        · split at h
          · obtain rfl := Option.some.inj h; exact fit_leaf (by omega) ..
          split at h
          · obtain rfl := Option.some.inj h; exact fit_leaf (by omega) ..
          split at h
          · obtain rfl := Option.some.inj h; exact fit_leaf (by omega) ..
          split at h
          · obtain rfl := Option.some.inj h; exact fit_leaf (by omega) ..
          split at h
          · obtain ⟨a, ha, h⟩ := Option.bind_eq_some_iff.1 h
            obtain ⟨b, hb, h⟩ := Option.bind_eq_some_iff.1 h
            obtain ⟨c, hc, h⟩ := Option.bind_eq_some_iff.1 h
            obtain rfl := Option.some.inj h
            refine Fit.mono (n := dB n + 1) ?_ (by omega)
            refine fit_kids (fun u hu => ?_) (by simp)
            simp only [List.mem_cons, List.not_mem_nil, or_false] at hu
            rcases hu with rfl | rfl | rfl
            · exact hL _ _ a ha
            · exact hL _ _ b hb
            · exact hL _ _ c hc
          · exact (hA _ _ _ q (dB n) h (fun _ h => by cases h) (Nat.le_refl _) (by simp; omega)).mono (by omega)
    · unfold argsF at h
      obtain ⟨r, hr, h⟩ := Option.bind_eq_some_iff.1 h
      have hr := hI _ _ r hr
      have hks : ∀ t ∈ ks ++ [r.1], Fit m t := by
        intro t ht
        rcases List.mem_append.1 ht with ht | ht
        · exact hk t ht
        · simp only [List.mem_cons, List.not_mem_nil, or_false] at ht
          subst ht; exact hr.mono (by omega)
      split at h
      · exact (hA _ _ _ q m h hks (by omega) (by simp; omega)).mono (by omega)
      · obtain rfl := Option.some.inj h
        exact fit_kids hks (by simp; omega)
    · unfold itemF at h
      split at h
      · exact (hL _ _ q h).mono (by omega)
      split at h
      · obtain rfl := Option.some.inj h; exact fit_leaf (by omega) ..
      split at h
      · cases h
      split at h
      · obtain rfl := Option.some.inj h; exact fit_leaf (by omega) ..
      split at h
      · obtain rfl := Option.some.inj h; exact fit_leaf (by omega) ..
      split at h
      · cases h
      split at h
      · obtain rfl := Option.some.inj h; exact fit_leaf (by omega) ..
      · obtain rfl := Option.some.inj h; exact fit_leaf (by omega) ..
end Go.AL
/-! Contracts: gridironref05.Parse. -/
namespace Go.AL
open Go.Proofs
set_option linter.unusedSimpArgs false
set_option linter.unusedVariables false
theorem scanL_len (sz : Nat) : ∀ (n : Nat) (l : List UInt8), (scanL sz n l).1.length ≤ n
  | 0, _ => by simp [scanL]
  | n + 1, [] => by simp [scanL]
  | n + 1, b :: l => by
    unfold scanL
    split
    · have := scanL_len sz n l; omega
    · split
      · simp
      · unfold scanK
        split
        · simp only [List.length_cons]; have := scanL_len sz n ((b :: l).drop (nextT ⟨⟨b :: l⟩⟩ b).len); omega
        · simp
theorem scanS_len (s : ByteArray) : (scanS s).1.length ≤ 200 := by
  unfold scanS
  split
  · simp
  · have := scanL_len s.size s.size s.data.toList; omega
def parseF (s : ByteArray) : Option (Tree × RS) := lineF (scanS s).1 s.size 5000 1 ⟨0, false, 0⟩
def endF (s : ByteArray) (r : RS) : RS := if r.at_ < (scanS s).1.length then failS (scanS s).1 s.size r else r
def parse5 (s : ByteArray) : Tree × Nat × Int :=
  if (scanS s).2.2 ≠ 0 then (zeroT, (scanS s).2.1, (scanS s).2.2) else
  match parseF s with
  | none => (zeroT, 0, 0)
  | some q => if (endF s q.2).fl = true then (zeroT, (endF s q.2).wh, 2) else if 16 < deepT q.1 then (zeroT, 0, 6) else (q.1, 0, 0)
theorem parseF_some (s : ByteArray) : ∃ q, parseF s = some q := by
  have h := scanS_len s
  obtain ⟨q, hq, _⟩ := (ends (ts := (scanS s).1) (en := s.size) 5000).1 1 ⟨0, false, 0⟩ (by omega) (by omega) (by simp [left]; omega)
  exact ⟨q, hq⟩
@[simp] theorem toks_cl (l : List (Tok × Nat)) : (∀ (c : AV) (x : Tok) (i : Nat), (x, i) ∈ l → tokA (x, i) = c → Cl c) = True := eq_true fun c x i _ h => h ▸ tok_cl x _
set_option maxHeartbeats 8000000 in
set_option maxRecDepth 100000 in
theorem rparse5_ok (s : ByteArray) (hs : s.size ≤ 281474976710656) : APure Try.prog 34 [vs s] (.tup [(parse5 s).1.av, vi ((parse5 s).2.1 : Nat), vi (parse5 s).2.2]) := by
  have hsc := rscan_ok s hs
  have hlen := scanS_len s
  unfold parse5
  by_cases he : (scanS s).2.2 = 0
  · rw [if_neg (by simpa using he)]
    obtain ⟨⟨T, r⟩, hq⟩ := parseF_some s
    rw [hq]
    have hq' : lineF (scanS s).1 s.size 5000 1 ⟨0, false, 0⟩ = some (T, r) := hq
    obtain ⟨hb, hat⟩ := (parse_all (ts := (scanS s).1) (en := s.size) (by omega) 5000 (by omega)).1 1 ⟨0, false, 0⟩ T r hq' (by omega) (by omega) (by simp)
    have hfit := (fits (ts := (scanS s).1) (en := s.size) 5000 (by omega)).1 1 _ (T, r) hq'
    have hd := deep_ok T hfit.2 (by have h1 : deepT T ≤ dB 5000 := hfit.1; have := dB_le 5000 (by omega); omega)
    have hf := rfail5_ok (scanS s).1 s.size r hat (by omega)
    rw [he] at hsc
    simp only
    obtain ⟨k, n, a, b, c, d, w, ks⟩ := T
    rw [Tree.av] at hb hd
    generalize hS : endF s r = r' at *
    unfold endF at hS
    generalize scanS s = sc at *
    have hb : BK Try.prog 52 [.ptr 0 0, vi 1] [.vsl (sc.1.map tokA), vi 0, vi (s.size : Nat), vb false, vi 0] (.agg [vi k, vi n, vi a, vi b, vi c, vi d, vs w, .vsl (avs ks)]) (rdc sc.1 s.size r) := hb
    generalize deepT (.mk k n a b c d w ks) = dp at *
    by_cases hlt : r.at_ < sc.1.length
    · rw [if_pos hlt] at hS
      rw [hS] at hf
      have hlti : (r.at_ : Int) < sc.1.length := by omega
      obtain ⟨i', fl', wh'⟩ := r'
      clear hS hq hq' hfit hat
      simp only [rdc] at hb hf
      cases fl' with
      | true =>
        refine apure_in Try.func34 Try.ntmps34 rfl ?_
        repeat' first | refine aw_V [2, 9, 25] @hlti (And.intro @hsc (And.intro @hd (And.intro @hb (And.intro @hf trivial)))) ?_ | refine aw_cond rfl (fun h => ?_) (fun h => ?_)
        all_goals first | simp [tupOf, zeroT, Tree.av, avs] | simp at *
      | false =>
        by_cases h16 : 16 < dp
        · have h16i : (16 : Int) < dp := by omega
          refine apure_in Try.func34 Try.ntmps34 rfl ?_
          repeat' first | refine aw_V [2, 9, 25] (And.intro @hlti @h16i) (And.intro @hsc (And.intro @hd (And.intro @hb (And.intro @hf trivial)))) ?_ | refine aw_cond rfl (fun h => ?_) (fun h => ?_)
          all_goals first | simp [tupOf, zeroT, Tree.av, avs, h16] | simp at *
        · have h16i : ¬ (16 : Int) < dp := by omega
          refine apure_in Try.func34 Try.ntmps34 rfl ?_
          repeat' first | refine aw_V [2, 9, 25] (And.intro @hlti @h16i) (And.intro @hsc (And.intro @hd (And.intro @hb (And.intro @hf trivial)))) ?_ | refine aw_cond rfl (fun h => ?_) (fun h => ?_)
          all_goals first | simp [tupOf, zeroT, Tree.av, avs, h16] | simp at *
    · rw [if_neg hlt] at hS
      subst hS
      have hlti : ¬ (r.at_ : Int) < sc.1.length := by omega
      obtain ⟨i', fl', wh'⟩ := r
      clear hq hq' hfit hat hf
      simp only [rdc] at hb hlti
      cases fl' with
      | true =>
        refine apure_in Try.func34 Try.ntmps34 rfl ?_
        repeat' first | refine aw_V [2, 9, 25] @hlti (And.intro @hsc (And.intro @hd (And.intro @hb trivial))) ?_ | refine aw_cond rfl (fun h => ?_) (fun h => ?_)
        all_goals first | simp [tupOf, zeroT, Tree.av, avs] | simp at *
      | false =>
        by_cases h16 : 16 < dp
        · have h16i : (16 : Int) < dp := by omega
          refine apure_in Try.func34 Try.ntmps34 rfl ?_
          repeat' first | refine aw_V [2, 9, 25] (And.intro @hlti @h16i) (And.intro @hsc (And.intro @hd (And.intro @hb trivial))) ?_ | refine aw_cond rfl (fun h => ?_) (fun h => ?_)
          all_goals first | simp [tupOf, zeroT, Tree.av, avs, h16] | simp at *
        · have h16i : ¬ (16 : Int) < dp := by omega
          refine apure_in Try.func34 Try.ntmps34 rfl ?_
          repeat' first | refine aw_V [2, 9, 25] (And.intro @hlti @h16i) (And.intro @hsc (And.intro @hd (And.intro @hb trivial))) ?_ | refine aw_cond rfl (fun h => ?_) (fun h => ?_)
          all_goals first | simp [tupOf, zeroT, Tree.av, avs, h16] | simp at *
  · rw [if_pos he]
    generalize scanS s = sc at *
    refine apure_in Try.func34 Try.ntmps34 rfl ?_
    repeat' first | refine aw_V [2, 9] @he (And.intro @hsc trivial) ?_ | refine aw_cond rfl (fun h => ?_) (fun h => ?_)
    all_goals simp [tupOf, zeroT, Tree.av, avs]
end Go.AL
/-! Contracts: gridironlaw05.Size, within, Fits. -/
namespace Go.AL
open Go.Proofs
set_option linter.unusedSimpArgs false
set_option linter.unusedVariables false
mutual
/-- How many parts it has. -/
def tszT : Tree → Nat
  | .mk _ _ _ _ _ _ _ ks => tszs ks + 1
def tszs : List Tree → Nat
  | [] => 0
  | t :: ts => tszT t + tszs ts
end
theorem tszs_append : ∀ (l m : List Tree), tszs (l ++ m) = tszs l + tszs m
  | [], m => by simp [tszs]
  | t :: l, m => by rw [List.cons_append, tszs, tszs, tszs_append l m]; omega
theorem tszs_take {l : List Tree} {i : Nat} (h : i < l.length) : tszs (l.take (i + 1)) = tszs (l.take i) + tszT l[i] := by
  rw [List.take_add_one, List.getElem?_eq_getElem h, tszs_append]; simp [tszs]
theorem tszs_le_take {l : List Tree} {i : Nat} : tszs (l.take i) ≤ tszs l := by
  have := tszs_append (l.take i) (l.drop i)
  rw [List.take_append_drop] at this; omega
/-- What all kids' trees have, the tree has. -/
theorem Tree.byKids {Q : Tree → Prop} (h : ∀ k n a b c d w ks, (∀ t ∈ ks, Q t) → Q (.mk k n a b c d w ks)) : ∀ t, Q t := by
  have key : ∀ (m : Nat) (t : Tree), tszT t ≤ m → Q t := by
    intro m
    induction m with
    | zero => intro t ht; obtain ⟨k, n, a, b, c, d, w, ks⟩ := t; rw [tszT] at ht; omega
    | succ m ih =>
      intro t ht
      obtain ⟨k, n, a, b, c, d, w, ks⟩ := t
      rw [tszT] at ht
      refine h _ _ _ _ _ _ _ _ fun t hm => ih t ?_
      have : ∀ l : List Tree, t ∈ l → tszT t ≤ tszs l := by
        intro l
        induction l with
        | nil => intro h; cases h
        | cons u l ih2 =>
          intro h
          rw [tszs]
          rcases List.mem_cons.1 h with rfl | h
          · omega
          · have := ih2 h; omega
      have := this ks hm
      omega
  exact fun t => key _ t (Nat.le_refl _)
def cap (x m : Nat) : Nat := min x (m + 1)
def SizeP (t : Tree) : Prop := t.sh → ∀ m : Nat, m ≤ 1000000 → APure Try.prog 32 [t.av, vi (m : Nat)] (vi (cap (tszT t) m : Nat))
set_option maxHeartbeats 8000000 in
set_option maxRecDepth 100000 in
theorem size5_ok : ∀ t, SizeP t := by
  refine Tree.byKids fun k n a b c d w ks ih => ?_
  intro hsh m hm
  rw [Tree.sh, shs_all] at hsh
  obtain ⟨hlk, hsh⟩ := hsh
  rw [tszT, Tree.av]
  refine apure_in Try.func32 Try.ntmps32 rfl ?_
  repeat' first | refine aw_N [] trivial trivial ?_ | refine aw_cond rfl (fun h => ?_) (fun h => ?_)
  refine aw_loopW [1, 2, 5, 6] (fun q fr σ => ∃ i M : Nat, i + q = ks.length ∧ σ = mkSt [] [] M ∧ fr = frm 31 [(1, vi (m : Nat)), (2, .vel [.agg [vi k, vi n, vi a, vi b, vi c, vi d, vs w, .vsl (avs ks)]] 0 0), (5, vi (cap (tszs (ks.take i) + 1) m : Nat)), (6, vi (i : Nat))]) ks.length ?_ ?_
  · exact ⟨mkSt [] [] 0, le_mkSt (by simp) (by simp) (by simp [σ0]), 0, 0, by omega, rfl, by simp [tszs, cap]⟩
  · rintro q fr σ ⟨i, M, hi, rfl, rfl⟩
    obtain ⟨nn, hnn⟩ : ∃ nn, nn = cap (tszs (ks.take i) + 1) m := ⟨_, rfl⟩
    rw [← hnn]
    have hnn' : nn = min (tszs (ks.take i) + 1) (m + 1) := hnn
    simp
    have hl := avs_len ks
    have htk := tszs_le_take (l := ks) (i := i)
    by_cases hlt : i < ks.length
    · have hlti : (i : Int) < ks.length := by omega
      by_cases hnm : nn ≤ m
      · have hnmi : (nn : Int) ≤ m := by omega
        obtain ⟨t, ht⟩ : ∃ t, ks[i] = t := ⟨_, rfl⟩
        have hmem : t ∈ ks := ht ▸ List.getElem_mem hlt
        have hr := ih t hmem (hsh t hmem) (m - nn) (by omega)
        have hg := avs_get hlt
        rw [ht] at hg
        have hla : i < (avs ks).length := by omega
        have hts := tszs_take hlt
        rw [ht] at hts
        have wm : IntKind.i64.wrap ((m : Int) - (nn : Int)) = ((m - nn : Nat) : Int) := by rw [wrap_id (by omega) (by omega)]; omega
        have wi : IntKind.i64.wrap ((i : Int) + 1) = (i : Int) + 1 := wrap_id (by omega) (by omega)
        obtain ⟨rr, hrr⟩ : ∃ rr, rr = cap (tszT t) (m - nn) := ⟨_, rfl⟩
        have hrr' : rr = min (tszT t) (m - nn + 1) := hrr
        rw [← hrr] at hr
        have wn : IntKind.i64.wrap ((nn : Int) + (rr : Int)) = (nn : Int) + (rr : Int) := wrap_id (by omega) (by omega)
        obtain ⟨tk, tn, ta, tb, tc, td, tw, tks⟩ := t
        rw [Tree.av] at hr hg
        repeat' first | refine aw_N [] (And.intro @hl (And.intro @hlti (And.intro @hla (And.intro @hg (And.intro @hnmi (And.intro @wm (And.intro @wi @wn))))))) (And.intro @hr trivial) ?_ | refine aw_cond rfl (fun h => ?_) (fun h => ?_)
        refine ⟨q - 1, by omega, mkSt [] [] M, le_mkSt (by simp) (by simp) (by simp), i + 1, by omega, ⟨M, rfl⟩, ?_, by omega⟩
        rw [hts]; unfold cap; omega
      · have hnmi : ¬ (nn : Int) ≤ m := by omega
        have hres : cap (tszs ks + 1) m = nn := by unfold cap; omega
        rw [hres]
        repeat' first | refine aw_N [] (And.intro @hl (And.intro @hlti @hnmi)) trivial ?_ | refine aw_cond rfl (fun h => ?_) (fun h => ?_)
        simp [tupOf]
    · have hlti : ¬ (i : Int) < ks.length := by omega
      have htk : ks.take i = ks := List.take_of_length_le (by omega)
      rw [htk] at hnn
      rw [← hnn]
      repeat' first | refine aw_N [] (And.intro @hl @hlti) trivial ?_ | refine aw_cond rfl (fun h => ?_) (fun h => ?_)
      simp [tupOf]
def withinB : Nat → Tree → Bool
  | 0, _ => false
  | m + 1, .mk _ _ _ _ _ _ _ ks => decide (ks.length ≤ 400) && ks.all (withinB m)
theorem all_take {p : Tree → Bool} {l : List Tree} {i : Nat} (h : i < l.length) (h1 : (l.take i).all p = true) (h2 : p l[i] = true) : (l.take (i + 1)).all p = true := by
  rw [List.take_add_one, List.getElem?_eq_getElem h, List.all_append, h1]; simp [h2]
theorem all_not {p : Tree → Bool} {l : List Tree} {t : Tree} (h : t ∈ l) (h2 : p t = false) : l.all p = false := by
  rw [Bool.eq_false_iff]; intro h3; have := List.all_eq_true.1 h3 t h; rw [h2] at this; cases this
def WithinP (t : Tree) : Prop := t.sh → ∀ m : Nat, m ≤ 1000000 → APure Try.prog 33 [t.av, vi (m : Nat)] (vb (withinB m t))
set_option maxHeartbeats 8000000 in
set_option maxRecDepth 100000 in
theorem within5_ok : ∀ t, WithinP t := by
  refine Tree.byKids fun k n a b c d w ks ih => ?_
  intro hsh m hm
  rw [Tree.sh, shs_all] at hsh
  obtain ⟨hlk, hsh⟩ := hsh
  rw [Tree.av]
  cases m with
  | zero =>
    rw [withinB]
    refine apure_in Try.func33 Try.ntmps33 rfl ?_
    repeat' first | refine aw_N [] trivial trivial ?_ | refine aw_cond rfl (fun h => ?_) (fun h => ?_)
    all_goals simp [tupOf] at *
  | succ m =>
    rw [withinB]
    have m0 : ¬ ((m : Int) + 1 = 0) := by omega
    have hl := avs_len ks
    by_cases hw : ks.length ≤ 400
    · have hwi : ¬ (400 : Int) < (ks.length : Nat) := by omega
      simp only [hw, decide_true, Bool.true_and]
      refine apure_in Try.func33 Try.ntmps33 rfl ?_
      repeat' first | refine aw_N [] (And.intro @m0 (And.intro @hl @hwi)) trivial ?_ | refine aw_cond rfl (fun h => ?_) (fun h => ?_)
      refine aw_loopW [1, 2, 5] (fun q fr σ => ∃ i M : Nat, i + q = ks.length ∧ (ks.take i).all (withinB m) = true ∧ σ = mkSt [] [] M ∧ fr = frm 32 [(1, vi (m + 1 : Nat)), (2, .vel [.agg [vi k, vi n, vi a, vi b, vi c, vi d, vs w, .vsl (avs ks)]] 0 0), (5, vi (i : Nat))]) ks.length ?_ ?_
      · exact ⟨mkSt [] [] 0, le_mkSt (by simp) (by simp) (by simp [σ0]), 0, 0, by omega, by simp, rfl, by simp⟩
      · rintro q fr σ ⟨i, M, hi, hal, rfl, rfl⟩
        simp
        by_cases hlt : i < ks.length
        · have hlti : (i : Int) < ks.length := by omega
          obtain ⟨t, ht⟩ : ∃ t, ks[i] = t := ⟨_, rfl⟩
          have hmem : t ∈ ks := ht ▸ List.getElem_mem hlt
          have hr := ih t hmem (hsh t hmem) m (by omega)
          have hg := avs_get hlt
          rw [ht] at hg
          have hla : i < (avs ks).length := by omega
          have wm : IntKind.i64.wrap (m : Int) = (m : Int) := wrap_id (by omega) (by omega)
          have wi : IntKind.i64.wrap ((i : Int) + 1) = (i : Int) + 1 := wrap_id (by omega) (by omega)
          cases hb : withinB m t with
          | true =>
            rw [hb] at hr
            have hal' := all_take (p := withinB m) hlt hal (by rw [ht]; exact hb)
            obtain ⟨tk, tn, ta, tb, tc, td, tw, tks⟩ := t
            rw [Tree.av] at hr hg
            repeat' first | refine aw_N [] (And.intro @hl (And.intro @hlti (And.intro @hla (And.intro @hg (And.intro @wm @wi))))) (And.intro @hr trivial) ?_ | refine aw_cond rfl (fun h => ?_) (fun h => ?_)
            exact ⟨q - 1, by omega, mkSt [] [] M, le_mkSt (by simp) (by simp) (by simp), i + 1, by omega, List.all_eq_true.1 hal', ⟨M, rfl⟩, by omega⟩
          | false =>
            rw [hb] at hr
            have hno := all_not (p := withinB m) hmem hb
            obtain ⟨tk, tn, ta, tb, tc, td, tw, tks⟩ := t
            rw [Tree.av] at hr hg
            rw [hno]
            repeat' first | refine aw_N [] (And.intro @hl (And.intro @hlti (And.intro @hla (And.intro @hg (And.intro @wm @wi))))) (And.intro @hr trivial) ?_ | refine aw_cond rfl (fun h => ?_) (fun h => ?_)
            simp [tupOf]
        · have hlti : ¬ (i : Int) < ks.length := by omega
          rw [List.take_of_length_le (by omega)] at hal
          rw [hal]
          repeat' first | refine aw_N [] (And.intro @hl @hlti) trivial ?_ | refine aw_cond rfl (fun h => ?_) (fun h => ?_)
          simp [tupOf]
    · have hwi : (400 : Int) < (ks.length : Nat) := by omega
      simp only [hw, decide_false, Bool.false_and]
      refine apure_in Try.func33 Try.ntmps33 rfl ?_
      repeat' first | refine aw_N [] (And.intro @m0 (And.intro @hl @hwi)) trivial ?_ | refine aw_cond rfl (fun h => ?_) (fun h => ?_)
      all_goals first | simp [tupOf] | simp at *
def fitsB (t : Tree) : Bool := decide (tszT t ≤ 400) && withinB 40 t
set_option maxHeartbeats 8000000 in
set_option maxRecDepth 100000 in
theorem fits5_ok (t : Tree) (h : t.sh) : APure Try.prog 7 [t.av] (vb (fitsB t)) := by
  have h1 := size5_ok t h 400 (by omega)
  have h2 := within5_ok t h 40 (by omega)
  have h1 : APure Try.prog 32 [t.av, vi 400] (vi (cap (tszT t) 400 : Nat)) := h1
  have h2 : APure Try.prog 33 [t.av, vi 40] (vb (withinB 40 t)) := h2
  unfold fitsB
  by_cases hs : tszT t ≤ 400
  · have e : ¬ (400 : Int) < (cap (tszT t) 400 : Nat) := by unfold cap; omega
    simp only [hs, decide_true, Bool.true_and]
    generalize tszT t = z0 at *
    generalize withinB 40 t = wb at *
    obtain ⟨k, n, a, b, c, d, w, ks⟩ := t
    rw [Tree.av] at h1 h2 ⊢
    refine apure_in Try.func7 Try.ntmps7 rfl ?_
    repeat' first | refine aw_N [] @e (And.intro @h1 (And.intro @h2 trivial)) ?_ | refine aw_cond rfl (fun h => ?_) (fun h => ?_)
    all_goals first | simp [tupOf] | simp at *
  · have e : (400 : Int) < (cap (tszT t) 400 : Nat) := by unfold cap; omega
    simp only [hs, decide_false, Bool.false_and]
    generalize tszT t = z0 at *
    obtain ⟨k, n, a, b, c, d, w, ks⟩ := t
    rw [Tree.av] at h1 h2 ⊢
    refine apure_in Try.func7 Try.ntmps7 rfl ?_
    repeat' first | refine aw_N [] @e (And.intro @h1 (And.intro @h2 trivial)) ?_ | refine aw_cond rfl (fun h => ?_) (fun h => ?_)
    all_goals first | simp [tupOf] | simp at *
end Go.AL
/-! Contracts: gridironref05.only, Same; gridironref06.uses, count. -/
namespace Go.AL
open Go.Proofs
set_option linter.unusedSimpArgs false
set_option linter.unusedVariables false
def onlyB (t : Tree) (m : Int) : Bool := match t with
  | .mk k n a b c d w ks => (decide (k = 0) || decide (n = 0)) && (decide (k = 1) || decide (k = 6) || (decide (a = 0) && decide (b = 0) && decide (c = 0) && decide (d = 0))) && (decide (k = 4) || decide (k = 5) || decide (w = ⟨#[]⟩)) && decide ((ks.length : Int) = m)
set_option maxHeartbeats 8000000 in
set_option maxRecDepth 100000 in
theorem only_ok (t : Tree) (m : Int) : APure Try.prog 62 [t.av, vi m] (vb (onlyB t m)) := by
  obtain ⟨k, n, a, b, c, d, w, ks⟩ := t
  have hl := avs_len ks
  rw [Tree.av, onlyB]
  refine apure_in Try.func62 Try.ntmps62 rfl ?_
  repeat' first | refine aw_N [] @hl trivial ?_ | refine aw_cond rfl (fun h => ?_) (fun h => ?_)
  simp [tupOf, Bool.and_assoc]
theorem tszs_mem : ∀ {l : List Tree} {t : Tree}, t ∈ l → tszT t ≤ tszs l
  | [], _, h => by cases h
  | u :: l, t, h => by
    rw [tszs]
    rcases List.mem_cons.1 h with rfl | h
    · omega
    · have := tszs_mem h; omega
end Go.AL
/-! Contracts: gridironref05.Same. -/
namespace Go.AL
open Go.Proofs
set_option linter.unusedSimpArgs false
set_option linter.unusedVariables false
end Go.AL
/-! Contracts: gridironref05.all, may, Right. -/
namespace Go.AL
open Go.Proofs
set_option linter.unusedSimpArgs false
set_option linter.unusedVariables false
@[simp] def Tree.kind : Tree → Int
  | .mk k _ _ _ _ _ _ _ => k
def passB (sp co may : Bool) (k : Int) : Bool := may && !(!sp && decide (k = 6)) && !(co && !decide (k = 6) && !decide (k = 2))
def isFn (w : ByteArray) : Bool := decide (w = ⟨#[83, 85, 77]⟩) || decide (w = ⟨#[77, 73, 78]⟩) || decide (w = ⟨#[77, 65, 88]⟩) || decide (w = bCOUNT)
mutual
def mayB : Tree → Bool
  | .mk k n a b c d w ks =>
    if k = 0 then onlyB (.mk k n a b c d w ks) 0 && decide (0 ≤ n)
    else if k = 1 then onlyB (.mk k n a b c d w ks) 0 && rightP a b && (decide (a = c) && decide (b = d))
    else if k = 2 then onlyB (.mk k n a b c d w ks) 0
    else if k = 6 then onlyB (.mk k n a b c d w ks) 0 && wholeP a b c d
    else if k = 3 then onlyB (.mk k n a b c d w ks) 1 && allB false false ks
    else if k = 4 then onlyB (.mk k n a b c d w ks) 2 && allB false false ks && decide (0 < lvl w)
    else if k = 5 then (if w = bIF then onlyB (.mk k n a b c d w ks) ks.length && allB (!decide (w = bIF)) (decide (w = bCOUNT)) ks && decide ((ks.length : Int) = 3)
      else if isFn w = true then onlyB (.mk k n a b c d w ks) ks.length && allB (!decide (w = bIF)) (decide (w = bCOUNT)) ks && decide (0 < (ks.length : Int)) else false)
    else false
def allB (sp co : Bool) : List Tree → Bool
  | [] => true
  | t :: ts => passB sp co (mayB t) t.kind && allB sp co ts
end
def keepB (sp co : Bool) (t : Tree) : Bool := passB sp co (mayB t) t.kind
theorem allB_all (sp co : Bool) : ∀ l : List Tree, allB sp co l = l.all (keepB sp co)
  | [] => by simp [allB]
  | t :: ts => by rw [allB, allB_all sp co ts]; rfl
def MayP (t : Tree) : Prop := t.sh → APure Try.prog 42 [t.av] (vb (mayB t))
set_option maxHeartbeats 8000000 in
set_option maxRecDepth 100000 in
theorem all5_ok (k n a b c d : Int) (w : ByteArray) (ks : List Tree) (ih : ∀ t ∈ ks, MayP t) (hlk : ks.length ≤ 9223372036854775807) (hsh : ∀ t ∈ ks, t.sh) (sp co : Bool) :
    APure Try.prog 65 [.agg [vi k, vi n, vi a, vi b, vi c, vi d, vs w, .vsl (avs ks)], vb sp, vb co] (vb (allB sp co ks)) := by
  have hl := avs_len ks
  rw [allB_all]
  refine apure_in Try.func65 Try.ntmps65 rfl ?_
  repeat' first | refine aw_N [8] @hl trivial ?_ | refine aw_cond rfl (fun h => ?_) (fun h => ?_)
  refine aw_loopW [1, 2, 3, 7] (fun q fr σ => ∃ i M : Nat, i + q = ks.length ∧ (ks.take i).all (keepB sp co) = true ∧ σ = mkSt [] [] M ∧ fr = frm 48 [(1, vb sp), (2, vb co), (3, .vel [.agg [vi k, vi n, vi a, vi b, vi c, vi d, vs w, .vsl (avs ks)]] 0 0), (7, vi (i : Nat))]) ks.length ?_ ?_
  · exact ⟨mkSt [] [] 0, le_mkSt (by simp) (by simp) (by simp [σ0]), 0, 0, by omega, by simp, rfl, by simp⟩
  · rintro q fr σ ⟨i, M, hi, hal, rfl, rfl⟩
    simp -implicitDefEqProofs
    by_cases hlt : i < ks.length
    · have hlti : (i : Int) < ks.length := by omega
      obtain ⟨t, ht⟩ : ∃ t, ks[i] = t := ⟨_, rfl⟩
      have hmem : t ∈ ks := ht ▸ List.getElem_mem hlt
      have hr := ih t hmem (hsh t hmem)
      have hg := avs_get hlt
      rw [ht] at hg
      have hla : i < (avs ks).length := by omega
      have wi : IntKind.i64.wrap ((i : Int) + 1) = (i : Int) + 1 := wrap_id (by omega) (by omega)
      have hyes : passB sp co (mayB t) t.kind = true → (ks.take (i + 1)).all (keepB sp co) = true := fun h => all_take (p := keepB sp co) hlt hal (by rw [ht]; exact h)
      have hno : passB sp co (mayB t) t.kind = false → ks.all (keepB sp co) = false := fun h => all_not (p := keepB sp co) hmem h
      generalize mayB t = mb at *
      obtain ⟨tk, tn, ta, tb, tc, td, tw, tks⟩ := t
      rw [Tree.av] at hr hg
      simp only [Tree.kind] at hyes hno
      repeat' first | refine aw_N [8] (And.intro @hl (And.intro @hlti (And.intro @hla (And.intro @hg @wi)))) (And.intro @hr trivial) ?_ | refine aw_cond rfl (fun h => ?_) (fun h => ?_)
      · rw [hno (by unfold passB; revert h; generalize decide (tk = 6) = x; generalize decide (tk = 2) = y; cases mb <;> cases sp <;> cases co <;> cases x <;> cases y <;> simp)]
        simp [tupOf]
      · have hy := hyes (by unfold passB; revert h; generalize decide (tk = 6) = x; generalize decide (tk = 2) = y; cases mb <;> cases sp <;> cases co <;> cases x <;> cases y <;> simp)
        exact ⟨q - 1, by omega, mkSt [] [] (M + 1), le_mkSt (by simp) (by simp) (by simp), i + 1, by omega, List.all_eq_true.1 hy, ⟨_, rfl⟩, by omega⟩
    · have hlti : ¬ (i : Int) < ks.length := by omega
      rw [List.take_of_length_le (by omega)] at hal
      rw [hal]
      repeat' first | refine aw_N [8] (And.intro @hl @hlti) trivial ?_ | refine aw_cond rfl (fun h => ?_) (fun h => ?_)
      simp [tupOf]
set_option maxHeartbeats 8000000 in
set_option maxRecDepth 100000 in
theorem may5_ok : ∀ t, MayP t := by
  refine Tree.byKids fun k n a b c d w ks ih => ?_
  intro hsh
  rw [Tree.sh, shs_all] at hsh
  obtain ⟨hlk, hsh⟩ := hsh
  have hl := avs_len ks
  have ho := fun m => only_ok (.mk k n a b c d w ks) m
  rw [Tree.av] at ho ⊢
  have ha := fun sp co => all5_ok k n a b c d w ks ih hlk hsh sp co
  rw [mayB]
  have e3 : ∀ x : Int, ((avs ks).length : Int) = x ↔ (ks.length : Int) = x := fun x => by rw [hl]
  by_cases h0 : k = 0
  · rw [if_pos h0]; subst h0
    have ho := ho 0
    generalize onlyB (.mk 0 n a b c d w ks) 0 = ob at *
    refine apure_in Try.func42 Try.ntmps42 rfl ?_
    repeat' first | refine aw_N [] @hl (And.intro @ho trivial) ?_ | refine aw_cond rfl (fun h => ?_) (fun h => ?_)
    all_goals first | (simp [tupOf, Bool.and_assoc]; done) | (simp at *; done) | trace_state
  rw [if_neg h0]
  by_cases h1 : k = 1
  · rw [if_pos h1]; subst h1
    have ho := ho 0
    have hx := rright_ok a b
    generalize onlyB (.mk 1 n a b c d w ks) 0 = ob at *
    generalize rightP a b = rb at *
    refine apure_in Try.func42 Try.ntmps42 rfl ?_
    repeat' first | refine aw_N [] @hl (And.intro @ho (And.intro @hx trivial)) ?_ | refine aw_cond rfl (fun h => ?_) (fun h => ?_)
    all_goals first | (simp [tupOf, Bool.and_assoc]; done) | (simp at *; done) | trace_state
  rw [if_neg h1]
  by_cases h2 : k = 2
  · rw [if_pos h2]; subst h2
    have ho := ho 0
    generalize onlyB (.mk 2 n a b c d w ks) 0 = ob at *
    refine apure_in Try.func42 Try.ntmps42 rfl ?_
    repeat' first | refine aw_N [] @hl (And.intro @ho trivial) ?_ | refine aw_cond rfl (fun h => ?_) (fun h => ?_)
    all_goals first | (simp [tupOf, Bool.and_assoc]; done) | (simp at *; done) | trace_state
  rw [if_neg h2]
  by_cases h6 : k = 6
  · rw [if_pos h6]; subst h6
    have ho := ho 0
    have hx := rwhole_ok a b c d
    generalize onlyB (.mk 6 n a b c d w ks) 0 = ob at *
    generalize wholeP a b c d = wb at *
    refine apure_in Try.func42 Try.ntmps42 rfl ?_
    repeat' first | refine aw_N [] @hl (And.intro @ho (And.intro @hx trivial)) ?_ | refine aw_cond rfl (fun h => ?_) (fun h => ?_)
    all_goals first | (simp [tupOf, Bool.and_assoc]; done) | (simp at *; done) | trace_state
  rw [if_neg h6]
  by_cases h3 : k = 3
  · rw [if_pos h3]; subst h3
    have ho := ho 1
    have ha := ha false false
    generalize onlyB (.mk 3 n a b c d w ks) 1 = ob at *
    generalize allB false false ks = ab at *
    refine apure_in Try.func42 Try.ntmps42 rfl ?_
    repeat' first | refine aw_N [] @hl (And.intro @ho (And.intro @ha trivial)) ?_ | refine aw_cond rfl (fun h => ?_) (fun h => ?_)
    all_goals first | (simp [tupOf, Bool.and_assoc]; done) | (simp at *; done) | trace_state
  rw [if_neg h3]
  by_cases h4 : k = 4
  · rw [if_pos h4]; subst h4
    have ho := ho 2
    have ha := ha false false
    have hx := rlevel_of w
    generalize onlyB (.mk 4 n a b c d w ks) 2 = ob at *
    generalize allB false false ks = ab at *
    generalize lvl w = lw at *
    refine apure_in Try.func42 Try.ntmps42 rfl ?_
    repeat' first | refine aw_N [] @hl (And.intro @ho (And.intro @ha (And.intro @hx trivial))) ?_ | refine aw_cond rfl (fun h => ?_) (fun h => ?_)
    all_goals first | (simp [tupOf, Bool.and_assoc]; done) | (simp at *; done) | trace_state
  rw [if_neg h4]
  by_cases h5 : k = 5
  · rw [if_pos h5]; subst h5
    by_cases w1 : w = bIF
    · subst w1
      rw [if_pos rfl, show (!decide ((bIF : ByteArray) = bIF)) = false by decide, show decide ((bIF : ByteArray) = bCOUNT) = false by decide]
      have ho := ho ks.length
      have ha := ha false false
      generalize onlyB (.mk 5 n a b c d bIF ks) ks.length = ob at *
      generalize allB false false ks = ab at *
      refine apure_in Try.func42 Try.ntmps42 rfl ?_
      repeat' first | refine aw_N [] @hl (And.intro @ho (And.intro @ha trivial)) ?_ | refine aw_cond rfl (fun h => ?_) (fun h => ?_)
      all_goals first | (simp [tupOf, Bool.and_assoc]; done) | (simp at *; done) | trace_state
    by_cases w2 : w = ⟨#[83, 85, 77]⟩
    · subst w2
      rw [if_neg (by decide), if_pos (by decide), show (!decide ((⟨#[83, 85, 77]⟩ : ByteArray) = bIF)) = true by decide, show decide ((⟨#[83, 85, 77]⟩ : ByteArray) = bCOUNT) = false by decide]
      have ho := ho ks.length
      have ha := ha true false
      generalize onlyB (.mk 5 n a b c d ⟨#[83, 85, 77]⟩ ks) ks.length = ob at *
      generalize allB true false ks = ab at *
      refine apure_in Try.func42 Try.ntmps42 rfl ?_
      repeat' first | refine aw_N [] @hl (And.intro @ho (And.intro @ha trivial)) ?_ | refine aw_cond rfl (fun h => ?_) (fun h => ?_)
      all_goals first | (simp [tupOf, Bool.and_assoc]; done) | (simp at *; done) | trace_state
    by_cases w3 : w = ⟨#[77, 73, 78]⟩
    · subst w3
      rw [if_neg (by decide), if_pos (by decide), show (!decide ((⟨#[77, 73, 78]⟩ : ByteArray) = bIF)) = true by decide, show decide ((⟨#[77, 73, 78]⟩ : ByteArray) = bCOUNT) = false by decide]
      have ho := ho ks.length
      have ha := ha true false
      generalize onlyB (.mk 5 n a b c d ⟨#[77, 73, 78]⟩ ks) ks.length = ob at *
      generalize allB true false ks = ab at *
      refine apure_in Try.func42 Try.ntmps42 rfl ?_
      repeat' first | refine aw_N [] @hl (And.intro @ho (And.intro @ha trivial)) ?_ | refine aw_cond rfl (fun h => ?_) (fun h => ?_)
      all_goals first | (simp [tupOf, Bool.and_assoc]; done) | (simp at *; done) | trace_state
    by_cases w4 : w = ⟨#[77, 65, 88]⟩
    · subst w4
      rw [if_neg (by decide), if_pos (by decide), show (!decide ((⟨#[77, 65, 88]⟩ : ByteArray) = bIF)) = true by decide, show decide ((⟨#[77, 65, 88]⟩ : ByteArray) = bCOUNT) = false by decide]
      have ho := ho ks.length
      have ha := ha true false
      generalize onlyB (.mk 5 n a b c d ⟨#[77, 65, 88]⟩ ks) ks.length = ob at *
      generalize allB true false ks = ab at *
      refine apure_in Try.func42 Try.ntmps42 rfl ?_
      repeat' first | refine aw_N [] @hl (And.intro @ho (And.intro @ha trivial)) ?_ | refine aw_cond rfl (fun h => ?_) (fun h => ?_)
      all_goals first | (simp [tupOf, Bool.and_assoc]; done) | (simp at *; done) | trace_state
    by_cases w5 : w = bCOUNT
    · subst w5
      rw [if_neg (by decide), if_pos (by decide), show (!decide ((bCOUNT : ByteArray) = bIF)) = true by decide, show decide ((bCOUNT : ByteArray) = bCOUNT) = true by decide]
      have ho := ho ks.length
      have ha := ha true true
      generalize onlyB (.mk 5 n a b c d bCOUNT ks) ks.length = ob at *
      generalize allB true true ks = ab at *
      refine apure_in Try.func42 Try.ntmps42 rfl ?_
      repeat' first | refine aw_N [] @hl (And.intro @ho (And.intro @ha trivial)) ?_ | refine aw_cond rfl (fun h => ?_) (fun h => ?_)
      all_goals first | (simp [tupOf, Bool.and_assoc]; done) | (simp at *; done) | trace_state
    have hnf : ¬ isFn w = true := by simp [isFn, w2, w3, w4, w5]
    rw [if_neg w1, if_neg hnf]
    have ho := ho ks.length
    have ha := ha true false
    generalize onlyB (.mk 5 n a b c d w ks) ks.length = ob at *
    generalize allB true false ks = ab at *
    refine apure_in Try.func42 Try.ntmps42 rfl ?_
    repeat' first | refine aw_N [] (And.intro @hl (And.intro @w1 (And.intro @w2 (And.intro @w3 (And.intro @w4 @w5))))) (And.intro @ho (And.intro @ha trivial)) ?_ | refine aw_cond rfl (fun h => ?_) (fun h => ?_)
    all_goals first | (simp [tupOf, Bool.and_assoc]; done) | (simp at *; done) | trace_state
  rw [if_neg h5]
  refine apure_in Try.func42 Try.ntmps42 rfl ?_
  repeat' first | refine aw_N [] (And.intro @h0 (And.intro @h1 (And.intro @h2 (And.intro @h3 (And.intro @h4 (And.intro @h5 @h6)))))) trivial ?_ | refine aw_cond rfl (fun h => ?_) (fun h => ?_)
  all_goals first | simp [tupOf] | simp at *
end Go.AL
/-! Contracts: gridironref05.Right; gridironref06.Uses, Size, Bads. -/
namespace Go.AL
open Go.Proofs
set_option linter.unusedSimpArgs false
set_option linter.unusedVariables false
def rightB (t : Tree) : Bool := decide (deepT t ≤ 16) && !decide (t.kind = 6) && mayB t
theorem deep_le_size : ∀ t : Tree, deepT t ≤ tszT t := by
  refine Tree.byKids fun k n a b c d w ks ih => ?_
  have : ∀ l : List Tree, (∀ t ∈ l, deepT t ≤ tszT t) → deeps l ≤ tszs l := by
    intro l
    induction l with
    | nil => intro _; simp [deeps]
    | cons t l ih2 => intro h; rw [deeps, tszs]; have h1 := h t (.head _); have h2 := ih2 fun t ht => h t (.tail _ ht); omega
  have := this ks ih
  rw [deepT, tszT]; omega
set_option maxHeartbeats 8000000 in
set_option maxRecDepth 100000 in
theorem rright5_ok (t : Tree) (h : t.sh) (hd : deepT t ≤ 1000000000000000) : APure Try.prog 12 [t.av] (vb (rightB t)) := by
  have hd := deep_ok t h hd
  have hm := may5_ok t h
  unfold rightB
  generalize hz : deepT t = dz at *
  generalize mayB t = mb at *
  obtain ⟨k, n, a, b, c, d, w, ks⟩ := t
  rw [Tree.av] at hd hm ⊢
  simp only [Tree.kind]
  clear hz
  by_cases h16 : dz ≤ 16
  · have hi : ¬ (16 : Int) < dz := by omega
    by_cases h6 : k = 6
    · subst h6
      refine apure_in Try.func12 Try.ntmps12 rfl ?_
      repeat' first | refine aw_N [] @hi (And.intro @hd (And.intro @hm trivial)) ?_ | refine aw_cond rfl (fun h => ?_) (fun h => ?_)
      all_goals first | (simp [tupOf]; done) | (simp at *; done) | trace_state
    · simp only [h16, h6, decide_true, decide_false, Bool.not_false, Bool.true_and]
      refine apure_in Try.func12 Try.ntmps12 rfl ?_
      repeat' first | refine aw_N [] (And.intro @hi @h6) (And.intro @hd (And.intro @hm trivial)) ?_ | refine aw_cond rfl (fun h => ?_) (fun h => ?_)
      all_goals first | (simp [tupOf]; done) | (simp at *; done) | trace_state
  · have hi : (16 : Int) < dz := by omega
    simp only [h16, decide_false, Bool.false_and]
    refine apure_in Try.func12 Try.ntmps12 rfl ?_
    repeat' first | refine aw_N [] @hi (And.intro @hd (And.intro @hm trivial)) ?_ | refine aw_cond rfl (fun h => ?_) (fun h => ?_)
    all_goals first | (simp [tupOf]; done) | (simp at *; done) | trace_state
end Go.AL
/-! Contracts: gridironref06.moved, Shift. -/
namespace Go.AL
open Go.Proofs
set_option linter.unusedSimpArgs false
set_option linter.unusedVariables false
theorem len_le_tszs : ∀ l : List Tree, l.length ≤ tszs l
  | [] => by simp
  | t :: ts => by have := len_le_tszs ts; rw [tszs, List.length_cons]; obtain ⟨k, n, a, b, c, d, w, ks⟩ := t; rw [tszT]; omega
end Go.AL
/-! Contracts: gridironref06.Shift; shape.reads. -/
namespace Go.AL
open Go.Proofs
set_option linter.unusedSimpArgs false
set_option linter.unusedVariables false
end Go.AL
/-! Contracts: syntax.bare, fits. -/
namespace Go.AL
open Go.Proofs
set_option linter.unusedSimpArgs false
set_option linter.unusedVariables false
def bareT : Tree → Tree
  | .mk k n a b c d w ks => .mk k (if k = 0 then n else 0) (if k = 1 ∨ k = 6 then a else 0) (if k = 1 ∨ k = 6 then b else 0) (if k = 1 ∨ k = 6 then c else 0) (if k = 1 ∨ k = 6 then d else 0) (if k = 4 ∨ k = 5 then w else ⟨#[]⟩) ks
set_option maxHeartbeats 8000000 in
set_option maxRecDepth 100000 in
theorem bare_ok (t : Tree) : APure Try.prog 109 [t.av] (bareT t).av := by
  obtain ⟨k, n, a, b, c, d, w, ks⟩ := t
  rw [bareT, Tree.av, Tree.av]
  by_cases h0 : k = 0
  · subst h0
    refine apure_in Try.func109 Try.ntmps109 rfl ?_
    repeat' (first
      | refine aw_seq ?_
      | (refine aw_run [2, 3] ?_; try simp -implicitDefEqProofs (maxSteps := 1000000) [List.lookup])
      | ((first | refine awl_skip' [2, 3] rfl ?_ | refine aw_skip ?_ | refine aw_exit ?_); try simp -implicitDefEqProofs (maxSteps := 1000000) [List.lookup])
      | (refine aw_cond rfl (fun h => ?_) (fun h => ?_) <;> try (with_reducible first | exact ff_tt h | exact tt_ff h))
      | refine aw_block ?_
      | refine aw_ret (ret_of (.inr rfl) (by simp [Try.results109]; rfl) (Fin.close (Fin.of ?_)))
      | refine ret_of (.inl rfl) (by simp [Try.results109]; rfl) (Fin.close (Fin.of ?_)))
    all_goals first | (simp [tupOf, List.lookup]; done) | (simp at *; done) | trace_state
  by_cases h1 : k = 1
  · subst h1
    refine apure_in Try.func109 Try.ntmps109 rfl ?_
    repeat' (first
      | refine aw_seq ?_
      | (refine aw_run [2, 3] ?_; try simp -implicitDefEqProofs (maxSteps := 1000000) [List.lookup])
      | ((first | refine awl_skip' [2, 3] rfl ?_ | refine aw_skip ?_ | refine aw_exit ?_); try simp -implicitDefEqProofs (maxSteps := 1000000) [List.lookup])
      | (refine aw_cond rfl (fun h => ?_) (fun h => ?_) <;> try (with_reducible first | exact ff_tt h | exact tt_ff h))
      | refine aw_block ?_
      | refine aw_ret (ret_of (.inr rfl) (by simp [Try.results109]; rfl) (Fin.close (Fin.of ?_)))
      | refine ret_of (.inl rfl) (by simp [Try.results109]; rfl) (Fin.close (Fin.of ?_)))
    all_goals first | (simp [tupOf, List.lookup]; done) | (simp at *; done) | trace_state
  by_cases h6 : k = 6
  · subst h6
    refine apure_in Try.func109 Try.ntmps109 rfl ?_
    repeat' (first
      | refine aw_seq ?_
      | (refine aw_run [2, 3] ?_; try simp -implicitDefEqProofs (maxSteps := 1000000) [List.lookup])
      | ((first | refine awl_skip' [2, 3] rfl ?_ | refine aw_skip ?_ | refine aw_exit ?_); try simp -implicitDefEqProofs (maxSteps := 1000000) [List.lookup])
      | (refine aw_cond rfl (fun h => ?_) (fun h => ?_) <;> try (with_reducible first | exact ff_tt h | exact tt_ff h))
      | refine aw_block ?_
      | refine aw_ret (ret_of (.inr rfl) (by simp [Try.results109]; rfl) (Fin.close (Fin.of ?_)))
      | refine ret_of (.inl rfl) (by simp [Try.results109]; rfl) (Fin.close (Fin.of ?_)))
    all_goals first | (simp [tupOf, List.lookup]; done) | (simp at *; done) | trace_state
  by_cases h4 : k = 4
  · subst h4
    refine apure_in Try.func109 Try.ntmps109 rfl ?_
    repeat' (first
      | refine aw_seq ?_
      | (refine aw_run [2, 3] ?_; try simp -implicitDefEqProofs (maxSteps := 1000000) [List.lookup])
      | ((first | refine awl_skip' [2, 3] rfl ?_ | refine aw_skip ?_ | refine aw_exit ?_); try simp -implicitDefEqProofs (maxSteps := 1000000) [List.lookup])
      | (refine aw_cond rfl (fun h => ?_) (fun h => ?_) <;> try (with_reducible first | exact ff_tt h | exact tt_ff h))
      | refine aw_block ?_
      | refine aw_ret (ret_of (.inr rfl) (by simp [Try.results109]; rfl) (Fin.close (Fin.of ?_)))
      | refine ret_of (.inl rfl) (by simp [Try.results109]; rfl) (Fin.close (Fin.of ?_)))
    all_goals first | (simp [tupOf, List.lookup]; done) | (simp at *; done) | trace_state
  by_cases h5 : k = 5
  · subst h5
    refine apure_in Try.func109 Try.ntmps109 rfl ?_
    repeat' (first
      | refine aw_seq ?_
      | (refine aw_run [2, 3] ?_; try simp -implicitDefEqProofs (maxSteps := 1000000) [List.lookup])
      | ((first | refine awl_skip' [2, 3] rfl ?_ | refine aw_skip ?_ | refine aw_exit ?_); try simp -implicitDefEqProofs (maxSteps := 1000000) [List.lookup])
      | (refine aw_cond rfl (fun h => ?_) (fun h => ?_) <;> try (with_reducible first | exact ff_tt h | exact tt_ff h))
      | refine aw_block ?_
      | refine aw_ret (ret_of (.inr rfl) (by simp [Try.results109]; rfl) (Fin.close (Fin.of ?_)))
      | refine ret_of (.inl rfl) (by simp [Try.results109]; rfl) (Fin.close (Fin.of ?_)))
    all_goals first | (simp [tupOf, List.lookup]; done) | (simp at *; done) | trace_state
  refine apure_in Try.func109 Try.ntmps109 rfl ?_
  repeat' first | refine aw_M [2, 3] (And.intro @h0 (And.intro @h1 (And.intro @h6 (And.intro @h4 @h5)))) trivial ?_ | refine aw_cond rfl (fun h => ?_) (fun h => ?_)
  all_goals first | (simp [tupOf, h0, h1, h6, h4, h5]; done) | (simp at *; done) | trace_state
def fitsK (t u : Tree) : Bool := match t with
  | .mk k _ _ _ _ _ w _ => if k = 5 ∧ w = bCOUNT then decide (u.kind = 6) || decide (u.kind = 2) else if k = 5 ∧ w ≠ bIF then true else !decide (u.kind = 6)
set_option maxHeartbeats 8000000 in
set_option maxRecDepth 100000 in
theorem fits_ok (t u : Tree) : APure Try.prog 79 [t.av, u.av] (vb (fitsK t u)) := by
  obtain ⟨k, n, a, b, c, d, w, ks⟩ := t
  obtain ⟨uk, un, ua, ub, uc, ud, uw, uks⟩ := u
  rw [fitsK, Tree.av, Tree.av]
  simp only [Tree.kind]
  by_cases h5 : k = 5
  · subst h5
    by_cases hc : w = bCOUNT
    · subst hc
      rw [if_pos ⟨rfl, rfl⟩]
      refine apure_in Try.func79 Try.ntmps79 rfl ?_
      repeat' (first
        | refine aw_seq ?_
        | (refine aw_run [] ?_; try simp -implicitDefEqProofs (maxSteps := 1000000) [List.lookup])
        | ((first | refine awl_skip' [] rfl ?_ | refine aw_skip ?_ | refine aw_exit ?_); try simp -implicitDefEqProofs (maxSteps := 1000000) [List.lookup])
        | (refine aw_cond rfl (fun h => ?_) (fun h => ?_) <;> try (with_reducible first | exact ff_tt h | exact tt_ff h))
        | refine aw_block ?_
        | refine aw_ret (ret_of (.inr rfl) (by simp [Try.results79]; rfl) (Fin.of ?_))
        | refine ret_of (.inl rfl) (by simp [Try.results79]; rfl) (Fin.of ?_))
      all_goals first | rfl | (simp [tupOf, List.lookup]; done) | (simp at *; done) | trace_state
    · rw [if_neg (fun h => hc h.2)]
      by_cases hi : w = bIF
      · subst hi
        rw [if_neg (fun h => h.2 rfl)]
        refine apure_in Try.func79 Try.ntmps79 rfl ?_
        repeat' (first
          | refine aw_seq ?_
          | (refine aw_run [] ?_; try simp -implicitDefEqProofs (maxSteps := 1000000) [List.lookup])
          | ((first | refine awl_skip' [] rfl ?_ | refine aw_skip ?_ | refine aw_exit ?_); try simp -implicitDefEqProofs (maxSteps := 1000000) [List.lookup])
          | (refine aw_cond rfl (fun h => ?_) (fun h => ?_) <;> try (with_reducible first | exact ff_tt h | exact tt_ff h))
          | refine aw_block ?_
          | refine aw_ret (ret_of (.inr rfl) (by simp [Try.results79]; rfl) (Fin.of ?_))
          | refine ret_of (.inl rfl) (by simp [Try.results79]; rfl) (Fin.of ?_))
        all_goals first | rfl | (simp [tupOf, List.lookup]; done) | (simp at *; done) | trace_state
      · rw [if_pos ⟨rfl, hi⟩]
        refine apure_in Try.func79 Try.ntmps79 rfl ?_
        repeat' first | refine aw_N [] (And.intro @hc @hi) trivial ?_ | refine aw_cond rfl (fun h => ?_) (fun h => ?_)
        all_goals first | rfl | (simp [tupOf, hc, hi]; done) | (simp at *; done) | trace_state
  · rw [if_neg (fun h => h5 h.1), if_neg (fun h => h5 h.1)]
    refine apure_in Try.func79 Try.ntmps79 rfl ?_
    repeat' first | refine aw_N [] @h5 trivial ?_ | refine aw_cond rfl (fun h => ?_) (fun h => ?_)
    all_goals first | rfl | (simp [tupOf, h5]; done) | (simp at *; done) | trace_state
end Go.AL
/-! Contracts: slices.Index, slices.Contains of texts. -/
namespace Go.AL
open Go.Proofs
set_option linter.unusedSimpArgs false
set_option linter.unusedVariables false
def idxS (v : ByteArray) : List ByteArray → Nat → Int
  | [], _ => -1
  | x :: l, i => if v = x then (i : Int) else idxS v l (i + 1)
theorem idxS_iff (v : ByteArray) : ∀ (l : List ByteArray) (i : Nat), 0 ≤ idxS v l i ↔ v ∈ l
  | [], i => by simp [idxS]
  | x :: l, i => by
    rw [idxS]
    split
    · rename_i h; subst h; simp
    · rename_i h; rw [idxS_iff v l (i + 1)]; simp [h]
set_option maxHeartbeats 8000000 in
set_option maxRecDepth 100000 in
theorem sindex_ok (l : List ByteArray) (v : ByteArray) (hl : l.length ≤ 1000000000) : APure Try.prog 171 [.vsl (l.map vs), vs v] (vi (idxS v l 0)) := by
  refine apure_in Try.func171 Try.ntmps171 rfl ?_
  repeat' first | refine aw_N [] trivial trivial ?_ | refine aw_cond rfl (fun h => ?_) (fun h => ?_)
  refine aw_loopW [0, 1, 7, 8] (fun q fr σ => ∃ i M : Nat, i + q = l.length ∧ idxS v (l.drop i) i = idxS v l 0 ∧ σ = mkSt [] [] M ∧ fr = frm 19 [(0, .vsl (l.map vs)), (1, vs v), (7, vi (l.length : Nat)), (8, vi (i : Nat))]) l.length ?_ ?_
  · exact ⟨mkSt [] [] 0, le_mkSt (by simp) (by simp) (by simp [σ0]), 0, 0, by omega, by simp, rfl, by simp⟩
  · rintro q fr σ ⟨i, M, hi, hx, rfl, rfl⟩
    simp -implicitDefEqProofs
    by_cases hlt : i < l.length
    · have hlti : (i : Int) < l.length := by omega
      obtain ⟨t, ht⟩ : ∃ t, l[i] = t := ⟨_, rfl⟩
      have wi : IntKind.i64.wrap ((i : Int) + 1) = (i : Int) + 1 := wrap_id (by omega) (by omega)
      rw [List.drop_eq_getElem_cons hlt, ht, idxS] at hx
      by_cases hv : v = t
      · rw [if_pos hv] at hx
        rw [← hx]
        subst hv
        repeat' first | refine aw_N [] (And.intro @hlt (And.intro @hlti (And.intro @ht @wi))) trivial ?_ | refine aw_cond rfl (fun h => ?_) (fun h => ?_)
        all_goals first | rfl | (simp [tupOf]; done) | trace_state
      · rw [if_neg hv] at hx
        repeat' first | refine aw_N [] (And.intro @hlt (And.intro @hlti (And.intro @ht (And.intro @wi @hv)))) trivial ?_ | refine aw_cond rfl (fun h => ?_) (fun h => ?_)
        all_goals first | exact ⟨q - 1, by omega, mkSt [] [] M, le_mkSt (by simp) (by simp) (by simp), i + 1, by omega, hx, ⟨M, rfl⟩, by omega⟩ | trace_state
    · have hlti : ¬ (i : Int) < l.length := by omega
      rw [List.drop_eq_nil_of_le (by omega), idxS] at hx
      rw [← hx]
      repeat' first | refine aw_N [] (And.intro @hlt @hlti) trivial ?_ | refine aw_cond rfl (fun h => ?_) (fun h => ?_)
      all_goals first | rfl | (simp [tupOf]; done) | trace_state
set_option maxHeartbeats 8000000 in
set_option maxRecDepth 100000 in
theorem scontains_ok (l : List ByteArray) (v : ByteArray) (hl : l.length ≤ 1000000000) : APure Try.prog 153 [.vsl (l.map vs), vs v] (vb (decide (0 ≤ idxS v l 0))) := by
  have hi := sindex_ok l v hl
  generalize idxS v l 0 = x at *
  refine apure_in Try.func153 Try.ntmps153 rfl ?_
  repeat' first | refine aw_N [] trivial (And.intro @hi trivial) ?_ | refine aw_cond rfl (fun h => ?_) (fun h => ?_)
  all_goals first | rfl | (simp [tupOf]; done) | trace_state
end Go.AL
