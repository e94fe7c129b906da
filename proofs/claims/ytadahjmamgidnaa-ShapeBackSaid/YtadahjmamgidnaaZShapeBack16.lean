/- Parts of the proof of ShapeBack: the logic, contracts, plain laws. -/
import Derived.Test.YtadahjmamgidnaaZShapeBack15
import Derived.Test.YtadahjmamgidnaaZShapeBack9
/-! append of nothing; all that is one's own stays as it is. -/
namespace Go.AL
open Go.RowKit (Below)
set_option linter.unusedVariables false
set_option linter.unusedSimpArgs false
variable {P : Program} {σ : ASt} {R : AV → ASt → Prop} {D : List Deferred} {Q : Exit → List AV → ASt → Prop} {fr : List AV} {ops : Array Oper} {o : Oper} {ρ : Operand → AV}
theorem run_append0 {t el ty : TypeId} {n : Nat} {g : Bool} (ht : P.underlying t = some (.slice el)) (hn : tsize P el = some (n, g)) {b a : Option Addr} {l c c2 : Nat} (hle : l ≤ c) (w : World) :
    (Builtin.append_ #[t, t] ty #[.slice b l c, .slice a 0 c2]).run P w = .ok (.slice b l c) w := by
  unfold Builtin.append_
  have h1 := run_underlying' ht w
  have h2 := run_sizeOf' hn w
  cases a <;> cases b <;> simp [h1, h2, Builtin.lenOf, Builtin.firstCells, loadCells, loadCellsFrom, storeCells, hle]
theorem opq_append0 {s x : Operand} {t el : TypeId} (ho : o.op = .call { callee := .builtin .append, args := #[s, x], argTypes := #[t, t] }) {b off k n : Nat} {g : Bool}
    (hs : ρ s = .hsl b off k) (hx : ρ x = .vsl [] ∨ ∃ c, ρ x = .p (.slice none 0 c)) (hel : telemT P t = some el) (hn : tsize P el = some (n, g)) (hr : R (.hsl b off k) σ) : OpQ P o ρ σ R := by
  have ht : P.underlying t = some (.slice el) := by
    unfold telemT at hel
    split at hel
    · rename_i h; rw [h]; simpa using hel
    · cases hel
  refine opq_v (s := fun e => Builtin.append_ #[t, t] o.type #[e s, e x]) (fun e => execOp_append e ho) _ hr fun G e w he hw => ?_
  have h1 := he s
  rw [hs] at h1
  have h2 := he x
  have h3 : ∃ a c2, e x = .slice a 0 c2 := by
    rcases hx with hx | ⟨c, hx⟩
    · rw [hx] at h2
      generalize e x = v at h2
      generalize hys : ([] : List AV) = ys at h2
      cases h2 with
      | vnil a cap => exact ⟨_, _, rfl⟩
      | vsl xs β o s cap val hcap hs h hr => subst hys; exact ⟨_, _, rfl⟩
    · rw [hx] at h2
      generalize e x = v at h2
      cases h2; exact ⟨_, _, rfl⟩
  obtain ⟨a, c2, h3⟩ := h3
  rw [h3]
  generalize e s = v at h1
  cases h1 with
  | hsl _ _ _ β o s cap h hle => exact ⟨_, run_append0 ht hn (by omega) w, .hsl b off k β o s cap h hle⟩
  | hend _ _ a β o s cap h hle => exact ⟨_, run_append0 ht hn (by omega) w, .hend b off a β o s cap h hle⟩
  | hnil _ a h => exact ⟨_, run_append0 ht hn (by omega) w, .hnil b a h⟩
theorem awl_append0 {rest : List Oper} {s x : Operand} {t el : TypeId} (mu : List Nat) (ho : o.op = .call { callee := .builtin .append, args := #[s, x], argTypes := #[t, t] }) (hw : awanted ops o fr = some true) {b off k n : Nat} {g : Bool}
    (hs : aev fr s = .hsl b off k) (hx : aev fr x = .vsl [] ∨ ∃ c, aev fr x = .p (.slice none 0 c)) (hel : telemT P t = some el) (hn : tsize P el = some (n, g))
    (hk2 : Shut (ARun P D ops Q mu rest (aput fr o.dst (.hsl b off k)) σ)) : AWL P D ops Q (o :: rest) fr σ :=
  awl_cons hw (opq_append0 ho hs hx hel hn (awl_run' mu hk2))
theorem zl_append0 {mu imp : List Nat} {l : List Oper} {K : List AV → ASt → Prop} {i : Nat} {old : List ASt} {pd : List Pend} {rest : List Oper} {s x : Operand} {t el : TypeId} (hz : zst mu imp o = true) (ho : o.op = .call { callee := .builtin .append, args := #[s, x], argTypes := #[t, t] }) (hg : o.guard = none) {b off k n : Nat} {g : Bool}
    (hs : aev fr s = .hsl b off k) (hx : aev fr x = .vsl [] ∨ ∃ c, aev fr x = .p (.slice none 0 c)) (hel : telemT P t = some el) (hn : tsize P el = some (n, g))
    (hk2 : pendOk P mu imp l (old.length + 1) σ pd ∧ Shut (ZRun P mu imp l K (i + 1) rest (aput fr o.dst (.hsl b off k)) σ (σ :: old) pd)) : ZS P mu imp l K i (o :: rest) fr σ old pd := by
  intro hok
  unfold ZL; rw [if_pos hz]
  refine ⟨_, _, yldT_opq hg fun ρ hρ => ?_, pendOk_yld hok hk2.1, zl_run hk2.2.out hok⟩
  have h1 : ρ s = aev fr s := hρ s (by rw [ho]; simp [Op.operands, Call.operands])
  have h2 : ρ x = aev fr x := hρ x (by rw [ho]; simp [Op.operands, Call.operands])
  exact opq_append0 ho (by rw [h1]; exact hs) (by rw [h2]; exact hx) hel hn ⟨rfl, rfl⟩
/-! ### all slices of one's own stay as they are from now on -/
def ASt.shut (σ : ASt) : ASt where
  bx b := (σ.bx b).map fun cs => cs.map (clo0 σ)
  mp b := σ.mp b
  sl _ := none
  next := σ.next
theorem SimW.shut {G σ w} (h : SimW G σ w) : ∃ G', Le G w G' w ∧ SimW G' σ.shut w ∧ ∀ v u, Rep G w v u → Rep G' w (clo σ v) u := by
  obtain ⟨G', h1, h2, h3⟩ := h.close
  refine ⟨G', h1, ?_, h3⟩
  have own : ∀ β k, Owns G' σ.shut β k → Owns G' σ.noSl β k := by
    intro β k ho
    cases ho with
    | bx b β cs e g =>
      obtain ⟨cs0, e0, _⟩ := Option.map_eq_some_iff.1 e
      exact .bx b β cs0 e0 g
    | mp b β es e g => exact .mp b β es e g
    | sl b β r xs e g => cases e
  refine ⟨h2.base, fun b cs e => ?_, fun b es e => h2.mp b es e, fun b xs e => (nomatch e), fun β k ho => ?_, h2.stIn, fun b hb => ?_⟩
  · obtain ⟨cs0, e0, rfl⟩ := Option.map_eq_some_iff.1 e
    obtain ⟨β, arr, el, g1, g2, g3, g4⟩ := h2.bx b cs0 e0
    obtain ⟨β', arr', el', k1, k2, k3, k4⟩ := h.bx b cs0 e0
    obtain rfl : β' = β := Option.some.inj ((h1.bx _ _ k1).symm.trans g1)
    rw [g2] at k2
    obtain ⟨rfl, rfl⟩ : arr = arr' ∧ el = el' := by simpa using k2
    refine ⟨β', arr, el, g1, g2, by rw [List.length_map]; exact g3, fun i c v hc hv => ?_⟩
    rw [List.getElem?_map] at hc
    obtain ⟨c0, hc0, rfl⟩ := Option.map_eq_some_iff.1 hc
    have hr := k4 i c0 v hc0 hv
    -- one cell
    have key : ∀ c0 : AV, Rep G w c0 v → Rep G' w (clo0 σ c0) v := by
      intro c0 hr
      by_cases ha : (∃ l, c0 = .agg l) ∨ ∃ l, c0 = .tup l
      · have : clo0 σ c0 = c0 := by
          rcases ha with ⟨l, rfl⟩ | ⟨l, rfl⟩ <;> rfl
        rw [this]; exact hr.mono h1
      · have : clo σ c0 = clo0 σ c0 := by
          cases c0 <;> first | rfl | (exfalso; exact ha (.inl ⟨_, rfl⟩)) | (exfalso; exact ha (.inr ⟨_, rfl⟩))
        rw [← this]; exact h3 _ _ hr
    exact key c0 hr
  · have ho' := own β k ho
    exact ⟨(h2.own β k ho').1, fun k' hk' => (h2.own β k ho').2.1 k' (own _ _ hk'), (h2.own β k ho').2.2⟩
  · obtain ⟨f1, f2, f3, f4, f5, f6⟩ := h2.fresh b hb
    refine ⟨f1, f2, f3, ?_, f5, rfl⟩
    have f4' : σ.bx b = none := f4
    show (σ.bx b).map _ = none
    rw [f4']; rfl
theorem aw_shut {c : Code} (h : AW P D c Q (fr.map (clo σ)) σ.shut) : AW P D c Q fr σ := by
  intro _ _ G a w hs
  obtain ⟨G', h1, h2, h3⟩ := hs.w.shut
  refine wp_mono (h _ inferInstance G' a w ⟨⟨by simpa using hs.tmps.1, fun i c v hc hv => ?_⟩, hs.defers.mono h1, h2⟩) fun e a w h => lift_le h1 h
  rw [List.getElem?_map] at hc
  obtain ⟨c', hc', rfl⟩ := Option.map_eq_some_iff.1 hc
  exact h3 _ _ (hs.tmps.2 i c' v hc' hv)
attribute [simp] ASt.shut
end Go.AL
/-! gridironref05's reading, as a function. -/
namespace Go.AL
open Go.Proofs
set_option linter.unusedSimpArgs false
set_option linter.unusedVariables false
def zeroT : Tree := .mk 0 0 0 0 0 0 ⟨#[]⟩ []
def numT (n : Int) : Tree := .mk 0 n 0 0 0 0 ⟨#[]⟩ []
def readT (c r : Int) : Tree := .mk 1 0 c r c r ⟨#[]⟩ []
def badT : Tree := .mk 2 0 0 0 0 0 ⟨#[]⟩ []
def negT (t : Tree) : Tree := .mk 3 0 0 0 0 0 ⟨#[]⟩ [t]
def opT (w : ByteArray) (t u : Tree) : Tree := .mk 4 0 0 0 0 0 w [t, u]
def callT (w : ByteArray) (l : List Tree) : Tree := .mk 5 0 0 0 0 0 w l
def spanT (a b c d : Int) : Tree := .mk 6 0 a b c d ⟨#[]⟩ []
abbrev bOpen : ByteArray := ⟨#[40]⟩
abbrev bShut : ByteArray := ⟨#[41]⟩
abbrev bComma : ByteArray := ⟨#[44]⟩
abbrev bColon : ByteArray := ⟨#[58]⟩
abbrev bMinus : ByteArray := ⟨#[45]⟩
abbrev bIF : ByteArray := ⟨#[73, 70]⟩
abbrev bCOUNT : ByteArray := ⟨#[67, 79, 85, 78, 84]⟩
/-- The next token, if it has not failed. -/
def curT (ts : List (Tok × Nat)) (s : RS) : Option Tok := if s.fl = true then none else (ts[s.at_]?).map (·.1)
/-- The range of two tokens' places. -/
def tokSpan (x y : Tok) : Tree := spanT (z (spanP x.c x.r y.c y.r) (min x.c y.c)) (z (spanP x.c x.r y.c y.r) (min x.r y.r)) (z (spanP x.c x.r y.c y.r) (max x.c y.c)) (z (spanP x.c x.r y.c y.r) (max x.r y.r))
mutual
def lineF (ts : List (Tok × Nat)) (en : Nat) : Nat → Nat → RS → Option (Tree × RS)
  | 0, _, _ => none
  | n + 1, lv, s => if 3 < lv then prefixF ts en n s else (lineF ts en n (lv + 1) s).bind fun q => loopF ts en n lv q.1 q.2
def loopF (ts : List (Tok × Nat)) (en : Nat) : Nat → Nat → Tree → RS → Option (Tree × RS)
  | 0, _, _, _ => none
  | n + 1, lv, out, s => if levelP ts s ≠ lv then some (out, s) else
    match ts[s.at_]? with
    | none => none
    | some p => (lineF ts en n (lv + 1) s.next).bind fun q => loopF ts en n lv (opT p.1.t out q.1) q.2
def prefixF (ts : List (Tok × Nat)) (en : Nat) : Nat → RS → Option (Tree × RS)
  | 0, _ => none
  | n + 1, s => if markP ts s 0 bMinus = true then (prefixF ts en n s.next).bind fun q => some (negT q.1, q.2) else operandF ts en n s
def operandF (ts : List (Tok × Nat)) (en : Nat) : Nat → RS → Option (Tree × RS)
  | 0, _ => none
  | n + 1, s => if markP ts s 0 bOpen = true then (lineF ts en n 1 s.next).bind fun q => some (q.1, mustS ts en q.2 bShut) else
    match curT ts s with
    | none => some (zeroT, failS ts en s)
    | some x => if x.k = 5 then some (zeroT, failS ts en s) else if x.k = 1 then some (numT x.n, s.next) else if x.k = 2 then some (readT x.c x.r, s.next) else if x.k = 3 then some (badT, s.next)
      else if x.t = bIF then (lineF ts en n 1 (mustS ts en s.next bOpen)).bind fun a => (lineF ts en n 1 (mustS ts en a.2 bComma)).bind fun b => (lineF ts en n 1 (mustS ts en b.2 bComma)).bind fun c =>
        some (callT bIF [a.1, b.1, c.1], mustS ts en c.2 bShut)
      else argsF ts en n x.t [] (mustS ts en s.next bOpen)
def argsF (ts : List (Tok × Nat)) (en : Nat) : Nat → ByteArray → List Tree → RS → Option (Tree × RS)
  | 0, _, _, _ => none
  | n + 1, w, ks, s => (itemF ts en n (decide (w = bCOUNT)) s).bind fun q => if markP ts q.2 0 bComma = true then argsF ts en n w (ks ++ [q.1]) q.2.next else some (callT w (ks ++ [q.1]), mustS ts en q.2 bShut)
def itemF (ts : List (Tok × Nat)) (en : Nat) : Nat → Bool → RS → Option (Tree × RS)
  | 0, _, _ => none
  | n + 1, co, s => if co = false ∧ (endP ts s = false ∨ markP ts s 1 bColon = false) then lineF ts en n 1 s else if endP ts s = false then some (zeroT, failS ts en s) else
    match ts[s.at_]? with
    | none => none
    | some a => if markP ts s 1 bColon = false ∧ a.1.k = 3 then some (badT, s.next) else if endP ts (mustS ts en s.next bColon) = false then some (zeroT, failS ts en (mustS ts en s.next bColon)) else
      match ts[(mustS ts en s.next bColon).at_]? with
      | none => none
      | some b => if a.1.k = 3 ∨ b.1.k = 3 then some (badT, (mustS ts en s.next bColon).next) else some (tokSpan a.1 b.1, (mustS ts en s.next bColon).next)
end
end Go.AL
/-! Contracts: gridironref05.Reader.line, prefix. -/
namespace Go.AL
open Go.Proofs
set_option linter.unusedSimpArgs false
set_option linter.unusedVariables false
variable {ts : List (Tok × Nat)} {en : Nat}
theorem failS_at (s : RS) : (failS ts en s).at_ = s.at_ := by unfold failS; split <;> rfl
theorem mustS_at {s : RS} {m : ByteArray} (h : s.at_ ≤ ts.length) : (mustS ts en s m).at_ ≤ ts.length := by
  unfold mustS
  split
  · rename_i hm; exact markP_lt hm
  · rw [failS_at]; exact h
theorem levelP_lt {s : RS} (h : levelP ts s ≠ 0) : s.fl = false ∧ ∃ p, ts[s.at_]? = some p ∧ p.1.k = 5 := by
  unfold levelP at h
  split at h
  · exact absurd rfl h
  · rename_i hf
    refine ⟨by simpa using hf, ?_⟩
    split at h
    · rename_i p hp
      split at h
      · rename_i hk; exact ⟨p, hp, hk⟩
      · exact absurd rfl h
    · exact absurd rfl h
def CL (ts : List (Tok × Nat)) (en n : Nat) : Prop := ∀ (lv : Nat) (s : RS) (T : Tree) (s' : RS), lineF ts en n lv s = some (T, s') → 1 ≤ lv → lv ≤ 4 → s.at_ ≤ ts.length →
  BK Try.prog 66 [.ptr 0 0, vi (lv : Nat)] (rdc ts en s) T.av (rdc ts en s') ∧ s'.at_ ≤ ts.length
def CP (ts : List (Tok × Nat)) (en n : Nat) : Prop := ∀ (s : RS) (T : Tree) (s' : RS), prefixF ts en n s = some (T, s') → s.at_ ≤ ts.length →
  BK Try.prog 95 [.ptr 0 0] (rdc ts en s) T.av (rdc ts en s') ∧ s'.at_ ≤ ts.length
def CO (ts : List (Tok × Nat)) (en n : Nat) : Prop := ∀ (s : RS) (T : Tree) (s' : RS), operandF ts en n s = some (T, s') → s.at_ ≤ ts.length →
  BK Try.prog 131 [.ptr 0 0] (rdc ts en s) T.av (rdc ts en s') ∧ s'.at_ ≤ ts.length
def CI (ts : List (Tok × Nat)) (en n : Nat) : Prop := ∀ (co : Bool) (s : RS) (T : Tree) (s' : RS), itemF ts en n co s = some (T, s') → s.at_ ≤ ts.length →
  BK Try.prog 161 [.ptr 0 0, vb co] (rdc ts en s) T.av (rdc ts en s') ∧ s'.at_ ≤ ts.length
/-- The loop stays within the tokens. -/
theorem loop_at (n : Nat) (ih : ∀ m, m < n → CL ts en m) : ∀ m, m ≤ n → ∀ (lv : Nat) (out : Tree) (s : RS) (T : Tree) (s' : RS), loopF ts en m lv out s = some (T, s') → 1 ≤ lv → lv ≤ 3 → s.at_ ≤ ts.length → s'.at_ ≤ ts.length := by
  intro m
  induction m with
  | zero => intro _ lv out s T s' h; cases h
  | succ m ihm =>
    intro hm lv out s T s' h h1 h3 hs
    unfold loopF at h
    split at h
    · simp only [Option.some.injEq, Prod.mk.injEq] at h; rw [← h.2]; exact hs
    · rename_i hl
      split at h
      · cases h
      · rename_i p hp
        obtain ⟨q, hq, h⟩ := Option.bind_eq_some_iff.1 h
        have hlt : s.at_ < ts.length := (List.getElem?_eq_some_iff.1 hp).1
        have := (ih m (by omega) (lv + 1) s.next q.1 q.2 hq (by omega) (by omega) (by show s.at_ + 1 ≤ ts.length; omega)).2
        exact ihm (by omega) lv _ _ T s' h h1 h3 this
/-- No tree at all, as it stands in a new variable. -/
@[simp] def ZT : List AV := [.p (.int .i64 0), .p (.int .i64 0), .p (.int .i64 0), .p (.int .i64 0), .p (.int .i64 0), .p (.int .i64 0), .p (.string ⟨#[]⟩), .p (.slice none 0 0)]
set_option maxHeartbeats 8000000 in
set_option maxRecDepth 100000 in
theorem line_ok (h2 : ts.length ≤ 100000) (N : Nat) (ihL : ∀ n, n < N → CL ts en n) (ihP : ∀ n, n < N → CP ts en n) : CL ts en N := by
  intro lv s T s' hF hv1 hv4 hs
  cases N with
  | zero => cases hF
  | succ N =>
  unfold lineF at hF
  have wl : IntKind.i64.wrap ((lv : Int) + 1) = ((lv + 1 : Nat) : Int) := by rw [wrap_id (by omega) (by omega)]; omega
  by_cases hv : 3 < lv
  · rw [if_pos hv] at hF
    obtain ⟨hp, hat⟩ := ihP N (by omega) s T s' hF hs
    have hvi : (3 : Int) < lv := by omega
    refine ⟨⟨?_, rdc_cl _ _ _, rdc_cl _ _ _, T.cl⟩, hat⟩
    obtain ⟨k, n, a, b, c, d, w, ks⟩ := T
    rw [Tree.av] at hp ⊢
    refine bc_of Try.func66 Try.ntmps66 rfl ?_
    simp only [List.length_cons, List.length_nil, List.cons_append, List.nil_append, List.replicate]
    repeat' (first
      | refine aw_seq ?_
      | ((first | refine aw_run [4, 5, 8] ?_ | refine aw_ymix [4, 5, 8] draws (by decide +kernel) ?_); try simp -implicitDefEqProofs (maxSteps := 1000000) [hvi])
      | ((first | refine aw_zrun [4, 5, 8] [] draws (by decide +kernel) (by decide +kernel) ?_ | refine zl_skip (by simp) rfl ?_); try simp -implicitDefEqProofs (maxSteps := 1000000) [hvi]; repeat first | refine zcurL (by decide +kernel) ?_ | refine zcurH (by decide +kernel) ?_ | refine zcurL' (by decide +kernel) ?_ | refine zcurH' (by decide +kernel) ?_)
      | ((first | refine aw_yrun draws (by kernel_rfl) ?_ | refine awl_skip' [4, 5, 8] rfl ?_ | refine yl_skip rfl ?_ | refine aw_skip ?_ | refine aw_exit ?_); try simp -implicitDefEqProofs (maxSteps := 1000000) [hvi])
      | (refine awl_boxK [4, 5, 8] rfl rfl rfl (by first | assumption | kernel_rfl) (hp) rfl (by repeat (first | exact .nil | refine .cons (.ptr _) ?_ | refine .cons (.cl (by simp)) ?_)) ?_ ?_ ?_ ?_; (iterate 3 (focus (simp [σ0]; done))); simp -implicitDefEqProofs (maxSteps := 1000000) [hvi])
      | (refine aw_cond rfl (fun h => ?_) (fun h => ?_) <;> try (with_reducible first | exact ff_tt h | exact tt_ff h))
      | refine aw_block ?_
      | refine aw_ret (ret_of (.inr rfl) (by simp [Try.results66]; rfl) (Fin.close (Fin.of ?_)))
      | refine ret_of (.inl rfl) (by simp [Try.results66]; rfl) (Fin.close (Fin.of ?_)))
    simp [tupOf, ASt.noSl]
  · rw [if_neg hv] at hF
    obtain ⟨⟨out, s1⟩, hq, hF⟩ := Option.bind_eq_some_iff.1 hF
    simp only at hF
    obtain ⟨hb, hat1⟩ := ihL N (by omega) (lv + 1) s out s1 hq (by omega) (by omega) hs
    have hat := loop_at (ts := ts) (en := en) (N + 1) ihL N (by omega) lv out s1 T s' hF hv1 (by omega) hat1
    have hvi : ¬ (3 : Int) < lv := by omega
    refine ⟨⟨?_, rdc_cl _ _ _, rdc_cl _ _ _, T.cl⟩, hat⟩
    obtain ⟨k, n, a, b, c, d, w, ks⟩ := out
    rw [Tree.av] at hb
    refine bc_of Try.func66 Try.ntmps66 rfl ?_
    simp only [List.length_cons, List.length_nil, List.cons_append, List.nil_append, List.replicate]
    repeat' (first
      | refine aw_seq ?_
      | ((first | refine aw_run [4, 5, 8] ?_ | refine aw_ymix [4, 5, 8] draws (by decide +kernel) ?_); try simp -implicitDefEqProofs (maxSteps := 1000000) [hvi, wl])
      | ((first | refine aw_zrun [4, 5, 8] [] draws (by decide +kernel) (by decide +kernel) ?_ | refine zl_skip (by simp) rfl ?_); try simp -implicitDefEqProofs (maxSteps := 1000000) [hvi, wl]; repeat first | refine zcurL (by decide +kernel) ?_ | refine zcurH (by decide +kernel) ?_ | refine zcurL' (by decide +kernel) ?_ | refine zcurH' (by decide +kernel) ?_)
      | ((first | refine aw_yrun draws (by kernel_rfl) ?_ | refine awl_skip' [4, 5, 8] rfl ?_ | refine yl_skip rfl ?_ | refine aw_skip ?_ | refine aw_exit ?_); try simp -implicitDefEqProofs (maxSteps := 1000000) [hvi, wl])
      | (refine awl_boxK [4, 5, 8] rfl rfl rfl (by first | assumption | kernel_rfl) (hb) rfl (by repeat (first | exact .nil | refine .cons (.ptr _) ?_ | refine .cons (.cl (by simp)) ?_)) ?_ ?_ ?_ ?_; (iterate 3 (focus (simp [σ0]; done))); simp -implicitDefEqProofs (maxSteps := 1000000) [hvi, wl])
      | (refine aw_cond rfl (fun h => ?_) (fun h => ?_) <;> try (with_reducible first | exact ff_tt h | exact tt_ff h))
      | refine aw_block ?_
      | refine aw_ret (ret_of (.inr rfl) (by simp [Try.results66]; rfl) (Fin.of ?_))
      | refine ret_of (.inl rfl) (by simp [Try.results66]; rfl) (Fin.of ?_))
    refine aw_loopW [0, 1, 4, 5] (fun m fr σ => ∃ (k n a b c d : Int) (w : ByteArray) (ks : List Tree) (s1 : RS) (M : Nat), loopF ts en m lv (.mk k n a b c d w ks) s1 = some (T, s') ∧ m ≤ N ∧ s1.at_ ≤ ts.length ∧ 3 ≤ M ∧
      σ = mkSt [(0, rdc ts en s1), (1, ZT), (2, [vi k, vi n, vi a, vi b, vi c, vi d, vs w, .vsl (avs ks)])] [] M ∧ fr = frm 50 [(0, .ptr 0 0), (1, vi (lv : Nat)), (4, .ptr 1 0), (5, .ptr 2 0)]) N ?_ ?_
    · exact ⟨mkSt [(0, rdc ts en s1), (1, ZT), (2, [vi k, vi n, vi a, vi b, vi c, vi d, vs w, .vsl (avs ks)])] [] 3, le_mkSt (by simp [ZT]) (by simp) (by simp), k, n, a, b, c, d, w, ks, s1, 3, hF, Nat.le_refl _, hat1, by omega, rfl, by simp⟩
    · clear hF hq hb hat1
      rintro m fr σ ⟨k, n, a, b, c, d, w, ks, s1, M, hF, hmN, hat1, hM, rfl, rfl⟩
      simp
      have hlv := rlevel5_ok ts en s1 hat1 h2
      cases m with
      | zero => cases hF
      | succ m =>
      unfold loopF at hF
      by_cases hl : levelP ts s1 = lv
      · rw [if_neg (by simpa using hl)] at hF
        obtain ⟨hfl, p, hp, hpk⟩ := levelP_lt (ts := ts) (s := s1) (by omega)
        rw [hp] at hF
        simp only at hF
        obtain ⟨⟨nx, s2⟩, hq, hF⟩ := Option.bind_eq_some_iff.1 hF
        simp only at hF
        have hlt : s1.at_ < ts.length := (List.getElem?_eq_some_iff.1 hp).1
        obtain ⟨hbn, hat2⟩ := ihL m (by omega) (lv + 1) s1.next nx s2 hq (by omega) (by omega) (by show s1.at_ + 1 ≤ ts.length; omega)
        have hget : ts[s1.at_] = p := by rw [List.getElem?_eq_getElem hlt] at hp; exact Option.some.inj hp
        obtain ⟨k2, n2, a2, b2, c2, d2, w2, ks2⟩ := nx
        rw [Tree.av] at hbn
        have w1 : IntKind.i64.wrap ((s1.at_ : Int) + 1) = (s1.at_ : Int) + 1 := wrap_id (by omega) (by omega)
        rw [hl] at hlv
        have e0 : ¬ 0 = M := by omega
        have e1 : ¬ 1 = M := by omega
        have e2 : ¬ 2 = M := by omega
        simp only [rdc, RS.next] at hbn
        unfold rdc at hlv
        repeat' (first
          | refine aw_seq ?_
          | ((first | refine aw_run [4, 5, 8] ?_ | refine aw_ymix [4, 5, 8] draws (by decide +kernel) ?_); try simp -implicitDefEqProofs (maxSteps := 1000000) [rdc, List.lookup, hlt, hget, tokA, Tok.av, w1, wl, e0, e1, e2])
          | ((first | refine aw_zrun [4, 5, 8] [] draws (by decide +kernel) (by decide +kernel) ?_ | refine zl_skip (by simp) rfl ?_); try simp -implicitDefEqProofs (maxSteps := 1000000) [rdc, List.lookup, hlt, hget, tokA, Tok.av, w1, wl, e0, e1, e2]; repeat first | refine zcurL (by decide +kernel) ?_ | refine zcurH (by decide +kernel) ?_ | refine zcurL' (by decide +kernel) ?_ | refine zcurH' (by decide +kernel) ?_)
          | ((first | refine aw_yrun draws (by kernel_rfl) ?_ | refine awl_skip' [4, 5, 8] rfl ?_ | refine yl_skip rfl ?_ | refine aw_skip ?_ | refine aw_exit ?_); try simp -implicitDefEqProofs (maxSteps := 1000000) [rdc, List.lookup, hlt, hget, tokA, Tok.av, w1, wl, e0, e1, e2])
          | (refine awl_boxK [4, 5, 8] rfl rfl rfl (by first | assumption | kernel_rfl) (hlv) rfl (by repeat (first | exact .nil | refine .cons (.ptr _) ?_ | refine .cons (.cl (by simp)) ?_)) ?_ ?_ ?_ ?_; (iterate 3 (focus (simp [σ0]; done))); simp -implicitDefEqProofs (maxSteps := 1000000) [rdc, List.lookup, hlt, hget, tokA, Tok.av, w1, wl, e0, e1, e2])
          | (refine awl_boxK [4, 5, 8] rfl rfl rfl (by first | assumption | kernel_rfl) (hbn) rfl (by repeat (first | exact .nil | refine .cons (.ptr _) ?_ | refine .cons (.cl (by simp)) ?_)) ?_ ?_ ?_ ?_; (iterate 3 (focus (simp [σ0]; done))); simp -implicitDefEqProofs (maxSteps := 1000000) [rdc, List.lookup, hlt, hget, tokA, Tok.av, w1, wl, e0, e1, e2])
          | (refine aw_cond rfl (fun h => ?_) (fun h => ?_) <;> try (with_reducible first | exact ff_tt h | exact tt_ff h))
          | refine aw_block ?_
          | refine aw_ret (ret_of (.inr rfl) (by simp [Try.results66]; rfl) (Fin.of ?_))
          | refine ret_of (.inl rfl) (by simp [Try.results66]; rfl) (Fin.of ?_))
        refine ⟨m, by omega, mkSt [(0, rdc ts en s2), (1, ZT), (2, [vi 4, vi 0, vi 0, vi 0, vi 0, vi 0, vs p.1.t, .vsl (avs [.mk k n a b c d w ks, .mk k2 n2 a2 b2 c2 d2 w2 ks2])])] [] (M + 1), le_mkSt (by simp [List.lookup, rdc, avs, Tree.av, e0, e1, e2]) (by simp) (by simp), 4, 0, 0, 0, 0, 0, p.1.t, [.mk k n a b c d w ks, .mk k2 n2 a2 b2 c2 d2 w2 ks2], s2, hF, by omega, hat2, M + 1, by omega, ?_⟩
        simp [rdc]
      · rw [if_pos (by simpa using hl)] at hF
        simp only [Option.some.injEq, Prod.mk.injEq] at hF
        obtain ⟨rfl, rfl⟩ := hF
        have hli : ¬ levelP ts s1 = lv := hl
        repeat' (first
          | refine aw_seq ?_
          | ((first | refine aw_run [4, 5, 8] ?_ | refine aw_ymix [4, 5, 8] draws (by decide +kernel) ?_); try simp -implicitDefEqProofs (maxSteps := 1000000) [List.lookup, hli])
          | ((first | refine aw_zrun [4, 5, 8] [] draws (by decide +kernel) (by decide +kernel) ?_ | refine zl_skip (by simp) rfl ?_); try simp -implicitDefEqProofs (maxSteps := 1000000) [List.lookup, hli]; repeat first | refine zcurL (by decide +kernel) ?_ | refine zcurH (by decide +kernel) ?_ | refine zcurL' (by decide +kernel) ?_ | refine zcurH' (by decide +kernel) ?_)
          | ((first | refine aw_yrun draws (by kernel_rfl) ?_ | refine awl_skip' [4, 5, 8] rfl ?_ | refine yl_skip rfl ?_ | refine aw_skip ?_ | refine aw_exit ?_); try simp -implicitDefEqProofs (maxSteps := 1000000) [List.lookup, hli])
          | (refine awl_boxK [4, 5, 8] rfl rfl rfl (by first | assumption | kernel_rfl) (hlv) rfl (by repeat (first | exact .nil | refine .cons (.ptr _) ?_ | refine .cons (.cl (by simp)) ?_)) ?_ ?_ ?_ ?_; (iterate 3 (focus (simp [σ0]; done))); simp -implicitDefEqProofs (maxSteps := 1000000) [List.lookup, hli])
          | (refine aw_cond rfl (fun h => ?_) (fun h => ?_) <;> try (with_reducible first | exact ff_tt h | exact tt_ff h))
          | refine aw_block ?_
          | refine aw_ret (ret_of (.inr rfl) (by simp [Try.results66]; rfl) (Fin.close (Fin.of ?_)))
          | refine ret_of (.inl rfl) (by simp [Try.results66]; rfl) (Fin.close (Fin.of ?_)))
        simp [tupOf, Tree.av, List.lookup, ASt.noSl]
set_option maxHeartbeats 8000000 in
set_option maxRecDepth 100000 in
theorem prefix_ok (h2 : ts.length ≤ 100000) (N : Nat) (ihP : ∀ n, n < N → CP ts en n) (ihO : ∀ n, n < N → CO ts en n) : CP ts en N := by
  intro s T s' hF hs
  cases N with
  | zero => cases hF
  | succ N =>
  unfold prefixF at hF
  have hm : BK Try.prog 130 [.ptr 0 0, vi 0, vs bMinus] (rdc ts en s) (vb (markP ts s 0 bMinus)) (rdc ts en s) := rmark5_ok ts en s 0 bMinus hs h2 (by omega)
  by_cases hk : markP ts s 0 bMinus = true
  · rw [if_pos hk] at hF
    rw [hk] at hm
    have hlt := markP_lt hk
    obtain ⟨⟨kid, s1⟩, hq, hF⟩ := Option.bind_eq_some_iff.1 hF
    simp only [Option.some.injEq, Prod.mk.injEq] at hF
    obtain ⟨rfl, rfl⟩ := hF
    obtain ⟨hb, hat⟩ := ihP N (by omega) s.next kid s1 hq hlt
    refine ⟨⟨?_, rdc_cl _ _ _, rdc_cl _ _ _, Tree.cl _⟩, hat⟩
    have w1 : IntKind.i64.wrap ((s.at_ : Int) + 1) = (s.at_ : Int) + 1 := wrap_id (by omega) (by omega)
    obtain ⟨k, n, a, b, c, d, w, ks⟩ := kid
    rw [Tree.av] at hb
    simp only [rdc, RS.next] at hb hm ⊢
    refine bc_of Try.func95 Try.ntmps95 rfl ?_
    simp only [List.length_cons, List.length_nil, List.cons_append, List.nil_append, List.replicate]
    repeat' (first
      | refine aw_seq ?_
      | (refine aw_run [2, 4] ?_; try simp -implicitDefEqProofs (maxSteps := 1000000) [w1])
      | ((first | refine awl_skip' [2, 4] rfl ?_ | refine aw_skip ?_ | refine aw_exit ?_); try simp -implicitDefEqProofs (maxSteps := 1000000) [w1])
      | (refine awl_boxK [2, 4] rfl rfl rfl (by first | assumption | kernel_rfl) (hm) rfl (by repeat (first | exact .nil | refine .cons (.ptr _) ?_ | refine .cons (.cl (by simp)) ?_)) ?_ ?_ ?_ ?_; (iterate 3 (focus (simp [σ0]; done))); simp -implicitDefEqProofs (maxSteps := 1000000) [w1])
      | (refine awl_boxK [2, 4] rfl rfl rfl (by first | assumption | kernel_rfl) (hb) rfl (by repeat (first | exact .nil | refine .cons (.ptr _) ?_ | refine .cons (.cl (by simp)) ?_)) ?_ ?_ ?_ ?_; (iterate 3 (focus (simp [σ0]; done))); simp -implicitDefEqProofs (maxSteps := 1000000) [w1])
      | (refine aw_cond rfl (fun h => ?_) (fun h => ?_) <;> try (with_reducible first | exact ff_tt h | exact tt_ff h))
      | refine aw_block ?_
      | refine aw_ret (ret_of (.inr rfl) (by simp [Try.results95]; rfl) (Fin.close (Fin.of ?_)))
      | refine ret_of (.inl rfl) (by simp [Try.results95]; rfl) (Fin.close (Fin.of ?_)))
    simp [tupOf, ASt.noSl, negT, Tree.av, avs]
  · rw [if_neg hk] at hF
    have hk' : markP ts s 0 bMinus = false := by simpa using hk
    rw [hk'] at hm
    obtain ⟨hb, hat⟩ := ihO N (by omega) s T s' hF hs
    refine ⟨⟨?_, rdc_cl _ _ _, rdc_cl _ _ _, Tree.cl _⟩, hat⟩
    obtain ⟨k, n, a, b, c, d, w, ks⟩ := T
    rw [Tree.av] at hb ⊢
    refine bc_of Try.func95 Try.ntmps95 rfl ?_
    simp only [List.length_cons, List.length_nil, List.cons_append, List.nil_append, List.replicate]
    repeat' (first
      | refine aw_seq ?_
      | (refine aw_run [2, 4] ?_; try simp -implicitDefEqProofs (maxSteps := 1000000))
      | ((first | refine awl_skip' [2, 4] rfl ?_ | refine aw_skip ?_ | refine aw_exit ?_); try simp -implicitDefEqProofs (maxSteps := 1000000))
      | (refine awl_boxK [2, 4] rfl rfl rfl (by first | assumption | kernel_rfl) (hm) rfl (by repeat (first | exact .nil | refine .cons (.ptr _) ?_ | refine .cons (.cl (by simp)) ?_)) ?_ ?_ ?_ ?_; (iterate 3 (focus (simp [σ0]; done))); simp -implicitDefEqProofs (maxSteps := 1000000))
      | (refine awl_boxK [2, 4] rfl rfl rfl (by first | assumption | kernel_rfl) (hb) rfl (by repeat (first | exact .nil | refine .cons (.ptr _) ?_ | refine .cons (.cl (by simp)) ?_)) ?_ ?_ ?_ ?_; (iterate 3 (focus (simp [σ0]; done))); simp -implicitDefEqProofs (maxSteps := 1000000))
      | (refine aw_cond rfl (fun h => ?_) (fun h => ?_) <;> try (with_reducible first | exact ff_tt h | exact tt_ff h))
      | refine aw_block ?_
      | refine aw_ret (ret_of (.inr rfl) (by simp [Try.results95]; rfl) (Fin.close (Fin.of ?_)))
      | refine ret_of (.inl rfl) (by simp [Try.results95]; rfl) (Fin.close (Fin.of ?_)))
    simp [tupOf, ASt.noSl]
end Go.AL
