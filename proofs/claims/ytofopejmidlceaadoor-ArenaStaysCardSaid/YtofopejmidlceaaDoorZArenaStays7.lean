/- Parts of the proof of ArenaStays: the logic, contracts, plain laws. -/
import Derived.Test.YtofopejmidlceaaDoorZArenaStays6
import Derived.Deep.Slices
/-! Loops: what a frame keeps. -/
namespace Go.AL
set_option linter.unusedVariables false
set_option linter.unusedSimpArgs false
variable {P : Program} {σ : ASt} {D : List Deferred} {Q : Exit → List AV → ASt → Prop} {fr : List AV}
attribute [simp] shut_ynil shut_ycons stOp preSt postSt
/-- Of the slots, those named stay known. -/
def keep (ks : List Nat) : Nat → List AV → List AV
  | _, [] => []
  | i, v :: l => (if ks.contains i then v else .any) :: keep ks (i + 1) l
theorem keep_len (ks : List Nat) : ∀ (l : List AV) (i : Nat), (keep ks i l).length = l.length
  | [], _ => rfl
  | v :: l, i => by simp [keep, keep_len ks l]
theorem keep_idx (ks : List Nat) : ∀ (l : List AV) (i j : Nat) (c : AV), (keep ks i l)[j]? = some c → l[j]? = some c ∨ c = .any
  | [], _, _, _, h => by simp [keep] at h
  | v :: l, i, 0, c, h => by
    simp only [keep, List.getElem?_cons_zero, Option.some.injEq] at h
    split at h
    · exact .inl (by simp [h])
    · exact .inr h.symm
  | v :: l, i, j + 1, c, h => by
    simp only [keep, List.getElem?_cons_succ] at h ⊢
    exact keep_idx ks l (i + 1) j c h
theorem Sim.keep {G D a w} (ks : List Nat) (h : Sim G fr σ D a w) : Sim G (keep ks 0 fr) σ D a w := by
  refine ⟨⟨by rw [keep_len]; exact h.tmps.1, fun i c v hc hv => ?_⟩, h.defers, h.w⟩
  rcases keep_idx ks fr 0 i c hc with e | rfl
  · exact h.tmps.2 i c v e hv
  · exact .any _
theorem aw_keep {c : Code} (ks : List Nat) (h : AW P D c Q (keep ks 0 fr) σ) : AW P D c Q fr σ := fun r i G a w hs => h r i G a w (hs.keep ks)
/-- A frame of so many slots, of which these are known. -/
def frm (n : Nat) (ps : List (Nat × AV)) : List AV := ps.foldl (fun l p => fset l p.1 p.2) (List.replicate n .any)
end Go.AL
/-! An operation of plain values that the evaluator doesn't know: by the machine's own run. -/
namespace Go.AL
set_option linter.unusedVariables false
set_option linter.unusedSimpArgs false
variable {P : Program} {σ : ASt} {R : AV → ASt → Prop} {D : List Deferred} {Q : Exit → List AV → ASt → Prop} {fr : List AV} {ops : Array Oper}
/-- A pure call, next in a run. -/
theorem awl_pure' {o : Oper} {rest : List Oper} {f : Operand} {aa : Array Operand} {ts : Array TypeId} (mu : List Nat) (ho : o.op = .call { callee := .value f, args := aa, argTypes := ts }) (hw : awanted ops o fr = some true)
    {F : FuncId} {first cap : List AV} (hf : acallee (aev fr f) = some (F, first, cap)) (hc : callable P F = true) {args : List AV} (ha : first ++ aa.toList.map (aev fr) ++ cap = args) {r : AV} (h : APure P F args r) (hcl : ∀ a ∈ args, Cl a) (hr : Cl r)
    (hk : Shut (ARun P D ops Q mu rest (aput fr o.dst r) σ)) : AWL P D ops Q (o :: rest) fr σ :=
  awl_pure ho hw hf hc ha h hcl hr (awl_run' mu hk)
/-- A guarded one, next in a run. -/
theorem awl_opq_guard {o : Oper} {rest : List Oper} {c : Bool} (hc : gcond ops o fr = some c) {r : AV} (h : c = true → OpQ P o (fun x => strip c (aev fr x)) σ fun r' σ' => r' = r ∧ σ' = σ) (hk : AWL P D ops Q rest (aput fr o.dst (.opt c r)) σ) : AWL P D ops Q (o :: rest) fr σ := by
  intro G a w hs
  have hw := gcond_spec hc hs
  unfold wpList
  cases c with
  | false =>
    rw [if_neg (by rw [hw]; simp)]
    exact hk G (a.put o.dst undef) w (hs.put o.dst (.opt false r undef (fun e => by cases e) (fun _ => rfl)))
  | true =>
    rw [if_pos hw]
    have hq := h rfl G a.eval w (fun x => strip_rep rfl (hs.ev x)) hs.w
    unfold wpO
    have key : ∀ v w', Outc G w (fun r' σ' => r' = r ∧ σ' = σ) v w' → wpList P ops (lift G w D Q) rest (a.put o.dst v) w' := by
      rintro v w' ⟨r', G', σ', hl, hw', hr, rfl, rfl⟩
      have := hk G' (a.put o.dst v) w' ((hs.le hl hw').put o.dst (.opt true r' v (fun _ => hr) (fun e => by cases e)))
      exact wpList_weaken (fun e a w h => lift_le hl h) rest _ _ this
    generalize (execOp a.eval o).run P w = n at hq
    cases n with
    | halt => exact hq.elim
    | ok n w' =>
      cases n with
      | value v => exact key v w' hq
      | skip => exact key undef w' hq
      | enter f args =>
        refine Calls.mono hq fun e w'' he => ?_
        cases e with
        | returned v => exact key v w'' he
        | panicked c => exact he.elim
        | outgrown => exact he.elim
      | round l f tmps assign body =>
        refine RoundIn.mono hq fun e w'' he => ?_
        cases e with
        | returned v => exact key v w'' he
        | panicked c => exact he.elim
        | outgrown => exact he.elim
      | _ => exact hq.elim
/-- Without its guard. -/
def peel : AV → AV
  | .opt _ v => v
  | v => v
def okS (c : Bool) : AV → Bool
  | .opt b _ => impB c b
  | _ => true
theorem strip_peel {c : Bool} {x : AV} (h : okS c x = true) : strip c x = peel x := by
  cases x with
  | opt b v => simp only [strip, peel]; rw [show impB c b = true from h]; rfl
  | _ => rfl
theorem strip_mapL {c : Bool} {l : List Operand} (h : ∀ x ∈ l, okS c (aev fr x) = true) : (l.map fun x => strip c (aev fr x)) = l.map fun x => peel (aev fr x) :=
  List.map_congr_left fun x hx => strip_peel (h x hx)
theorem awl_pure_guard {o : Oper} {rest : List Oper} {f : Operand} {aa : Array Operand} {ts : Array TypeId} (mu : List Nat) (ho : o.op = .call { callee := .value f, args := aa, argTypes := ts }) {c : Bool} (hg : gcond ops o fr = some c)
    {F : FuncId} {first cap : List AV} (hf : acallee (peel (aev fr f)) = some (F, first, cap)) (hc : callable P F = true) {args : List AV} (ha : first ++ aa.toList.map (fun x => peel (aev fr x)) ++ cap = args) {r : AV} (h : c = true → APure P F args r)
    (hok : okS c (aev fr f) = true ∧ ∀ x ∈ aa.toList, okS c (aev fr x) = true) (hcl : ∀ a ∈ args, Cl a) (hr : Cl r)
    (hk : Shut (ARun P D ops Q mu rest (aput fr o.dst (.opt c r)) σ)) : AWL P D ops Q (o :: rest) fr σ :=
  awl_opq_guard hg (fun e => opq_pure ho (by rw [strip_peel hok.1]; exact hf) hc (by rw [strip_mapL hok.2]; exact ha) (h e) hcl hr fun _ _ => rfl) (awl_run' mu hk)
theorem yl_pureG {K : List AV → Prop} {o : Oper} {rest : List Oper} {f : Operand} {aa : Array Operand} {ts : Array TypeId} (ho : o.op = .call { callee := .value f, args := aa, argTypes := ts }) {c : Bool} (hg : gcond ops o fr = some c)
    {F : FuncId} {first cap : List AV} (hf : acallee (peel (aev fr f)) = some (F, first, cap)) (hc : callable P F = true) {args : List AV} (ha : first ++ aa.toList.map (fun x => peel (aev fr x)) ++ cap = args) {r : AV} (h : c = true → APure P F args r)
    (hok : okS c (aev fr f) = true ∧ ∀ x ∈ aa.toList, okS c (aev fr x) = true) (hcl : ∀ a ∈ args, Cl a) (hr : Cl r)
    (hk : Shut (YRun P ops σ K rest (aput fr o.dst (.opt c r)))) : YL P ops σ K (o :: rest) fr :=
  yl_pure_guard ho hg (by rw [strip_peel hok.1]; exact hf) hc (by rw [strip_mapL hok.2]; exact ha) h hcl hr hk
attribute [simp] okS peel
theorem awl_skip' {o : Oper} {rest : List Oper} (mu : List Nat) (hw : awanted ops o fr = some false) (hk : Shut (ARun P D ops Q mu rest (aput fr o.dst (.p undef)) σ)) : AWL P D ops Q (o :: rest) fr σ := awl_skip hw (awl_run' mu hk)
@[simp high] theorem apick2_true (x y : AV) : apick2 true x y = x := by unfold apick2; split <;> simp [bpick]
@[simp high] theorem apick2_false (x y : AV) : apick2 false x y = y := by unfold apick2; split <;> simp [bpick]
/-! ### what is closed -/
@[simp] theorem cl_p (x : Value) : Cl (.p x) := .p x
@[simp] theorem cl_any : Cl .any := .any
@[simp] theorem cl_agg (l : List AV) : Cl (.agg l) ↔ ∀ c ∈ l, Cl c := ⟨fun h => by cases h; assumption, .agg l⟩
@[simp] theorem cl_tup (l : List AV) : Cl (.tup l) ↔ ∀ c ∈ l, Cl c := ⟨fun h => by cases h; assumption, .tup l⟩
@[simp] theorem cl_vsl (l : List AV) : Cl (.vsl l) ↔ ∀ c ∈ l, Cl c := ⟨fun h => by cases h; assumption, .vsl l⟩
@[simp] theorem cl_vel (l : List AV) (i o : Nat) : Cl (.vel l i o) ↔ ∀ c ∈ l, Cl c := ⟨fun h => by cases h; assumption, .vel l i o⟩
@[simp] theorem cl_ifc (t : TypeId) (v : AV) : Cl (.ifc t v) ↔ Cl v := ⟨fun h => by cases h; assumption, .ifc t v⟩
@[simp] theorem cl_opt (b : Bool) (v : AV) : Cl (.opt b v) ↔ Cl v := ⟨fun h => by cases h; assumption, .opt b v⟩
@[simp] theorem cl_fn (f : Fn) (a b : List AV) : Cl (.fn f a b) ↔ (∀ c ∈ a, Cl c) ∧ ∀ c ∈ b, Cl c := ⟨fun h => by cases h with | fn _ _ _ h1 h2 => exact ⟨h1, h2⟩, fun h => .fn f a b h.1 h.2⟩
@[simp] theorem cl_vmp (ks vs : List AV) : Cl (.vmp ks vs) ↔ (∀ c ∈ ks, Cl c) ∧ ∀ c ∈ vs, Cl c := ⟨fun h => by cases h with | vmp _ _ h1 h2 => exact ⟨h1, h2⟩, fun h => .vmp ks vs h.1 h.2⟩
@[simp] theorem σ0_next : σ0.next = 0 := rfl
end Go.AL
/-! Lists that grow. -/
namespace Go.AL
set_option linter.unusedVariables false
set_option linter.unusedSimpArgs false
variable {P : Program} {σ : ASt} {R : AV → ASt → Prop} {D : List Deferred} {Q : Exit → List AV → ASt → Prop} {fr : List AV} {ops : Array Oper}
attribute [simp] ASt.addBx ASt.addMp ASt.addSl ASt.dropSl upd asrc undef
theorem aw_weak {c : Code} {τ : ASt} (l : τ.Le σ) (h : AW P D c Q fr τ) : AW P D c Q fr σ := fun r i G a w hs => h r i G a w (hs.less l)
theorem aw_loopW {c : Code} (ks : List Nat) (I : Nat → List AV → ASt → Prop) (n : Nat) (h0 : ∃ τ, ASt.Le τ σ ∧ I n (keep ks 0 fr) τ)
    (round : ∀ n fr σ, I n fr σ → AW P D c (thenA (fun fr' σ' => ∃ m, m < n ∧ ∃ τ, ASt.Le τ σ' ∧ I m (keep ks 0 fr') τ) Q) fr σ) : AW P D (.loop c) Q fr σ := by
  refine aw_loop (fun n fr σ => ∃ τ, ASt.Le τ σ ∧ I n (keep ks 0 fr) τ) n h0 fun n fr σ h => ?_
  obtain ⟨τ, hl, hI⟩ := h
  exact aw_weak hl (aw_keep ks (round n _ τ hI))
theorem awl_append {o : Oper} {rest : List Oper} {s x : Operand} {t el : TypeId} (mu : List Nat) (ho : o.op = .call { callee := .builtin .append, args := #[s, x], argTypes := #[t, t] }) (hw : awanted ops o fr = some true) {b off k : Nat} {xs ys : List AV} {n by_ : Nat} {g : Bool} {z : AV}
    (hs : aev fr s = .hsl b off k) (hb : σ.sl b = some xs) (hk : off + k ≤ xs.length) (hx : asrc σ (aev fr x) = some ys) (hne : ys ≠ []) (ht : telem P t = some (n, g, by_)) (hel : telemT P t = some el) (hz : tzero P el = some z) (hzn : z.cells.length = n)
    (hxs : ∀ y ∈ xs, y.cells.length = n) (hys : ∀ y ∈ ys, y.cells.length = n ∧ y.okv = true) (hB : (k + ys.length) * by_ ≤ 140737488355328) (hS : k + ys.length ≤ 9223372036854775807)
    (hk2 : Shut (ARun P D ops Q mu rest (aput fr o.dst (.hsl σ.next 0 (k + ys.length))) ((σ.dropSl b).addSl ((xs.drop off).take k ++ ys)))) : AWL P D ops Q (o :: rest) fr σ :=
  awl_cons hw (opq_append ho hs hb hk hx hne ht hel hz hzn hxs hys hB hS (awl_run' mu hk2))
/-- Some boxes and slices of the function's own, by their numbers, and nothing else. -/
def mkSt (bs ss : List (Nat × List AV)) (n : Nat) : ASt := ⟨fun b => bs.lookup b, fun _ => none, fun b => ss.lookup b, n⟩
theorem lookup_mem {α : Type} : ∀ {l : List (Nat × α)} {b : Nat} {c : α}, l.lookup b = some c → (b, c) ∈ l
  | [], _, _, h => by cases h
  | (x, y) :: l, b, c, h => by
    rw [List.lookup_cons] at h
    split at h
    · rename_i hb
      obtain rfl := Option.some.inj h
      obtain rfl : b = x := by simpa using hb
      exact List.mem_cons_self
    · exact List.mem_cons_of_mem _ (lookup_mem h)
theorem le_mkSt {bs ss : List (Nat × List AV)} {n : Nat} (h1 : ∀ p ∈ bs, σ.bx p.1 = some p.2) (h2 : ∀ p ∈ ss, σ.sl p.1 = some p.2) (hn : σ.next ≤ n) : (mkSt bs ss n).Le σ where
  bx := fun b cs e => h1 (b, cs) (lookup_mem e)
  mp := fun _ _ e => nomatch e
  sl := fun b cs e => h2 (b, cs) (lookup_mem e)
  next := hn
@[simp] theorem mkSt_bx (bs ss : List (Nat × List AV)) (n b : Nat) : (mkSt bs ss n).bx b = bs.lookup b := rfl
@[simp] theorem mkSt_sl (bs ss : List (Nat × List AV)) (n b : Nat) : (mkSt bs ss n).sl b = ss.lookup b := rfl
@[simp] theorem mkSt_mp (bs ss : List (Nat × List AV)) (n b : Nat) : (mkSt bs ss n).mp b = none := rfl
@[simp] theorem mkSt_next (bs ss : List (Nat × List AV)) (n : Nat) : (mkSt bs ss n).next = n := rfl
/-- No slice is the empty one. -/
theorem Fin.vnil {c : Nat} (h : Fin R (.vsl []) σ) : Fin R (.p (.slice none 0 c)) σ := fun G w v hw hr => h G w v hw (by cases hr; exact .vnil none c)
theorem ff_tt {C : Prop} (h : false = true) : C := nomatch h
theorem tt_ff {C : Prop} (h : true = false) : C := nomatch h
end Go.AL
/-! From a contract to the machine's own call. -/
namespace Go.AL
open Go.RowKit (Below)
set_option linter.unusedVariables false
/-- All that was there at first stays. -/
def G0 (w : World) : Ghost := ⟨w.heap.size, fun β _ => β < w.heap.size, fun _ => none, fun _ => none, fun _ => none⟩
theorem repL_nil {G : Ghost} {w : World} : RepL G w [] [] := ⟨rfl, fun i c v h => by cases h⟩
theorem repL_cons {G : Ghost} {w : World} {c : AV} {v : Value} {cs : List AV} {vs : List Value} (h : Rep G w c v) (t : RepL G w cs vs) : RepL G w (c :: cs) (v :: vs) :=
  ⟨by simp [t.1], fun i c' v' a b => by
    cases i with
    | zero => cases a; cases b; exact h
    | succ i => exact t.2 i c' v' a b⟩
theorem simW_G0 {w : World} (hI : Init w) : SimW (G0 w) σ0 w where
  base := ⟨Nat.le_refl _, w, hI, Nat.le_refl _, Below.refl _ _⟩
  bx := fun _ _ e => nomatch e
  mp := fun _ _ e => nomatch e
  sl := fun _ _ e => nomatch e
  own := fun β k ho => by cases ho <;> rename_i e _ <;> cases e
  stIn := fun _ _ h => h
  fresh := fun _ _ => ⟨rfl, rfl, rfl, rfl, rfl, rfl⟩
theorem APure.calls {P : Program} {f : FuncId} {args : List AV} {vs : Array Value} {r : Value} (h : APure P f args (.p r)) {w : World} (hI : Init w) (hv : RepL (G0 w) w args vs.toList) :
    Calls P f vs w fun e w' => e = .returned r ∧ Below w.heap.size w w' := by
  refine Calls.mono (h.out (G0 w) w vs hv (simW_G0 hI)) fun e w' he => ?_
  cases e with
  | returned v =>
    obtain ⟨r', G1, σ1, hl, _, hr, rfl⟩ := (show Outc (G0 w) w _ v w' from he)
    cases hr
    exact ⟨rfl, hl.below⟩
  | _ => exact he.elim
end Go.AL
/-! Maps. -/
namespace Go.AL
open Go.RowKit (Below)
set_option linter.unusedVariables false
set_option linter.unusedSimpArgs false
variable {P : Program} {σ : ASt} {R : AV → ASt → Prop} {o : Oper} {ρ : Operand → AV} {D : List Deferred} {Q : Exit → List AV → ASt → Prop} {fr : List AV} {ops : Array Oper}
/-- A key's kind, and the elements' type. -/
def tmap (P : Program) (t : TypeId) : Option (TypeDesc × TypeId) :=
  match P.underlying t with
  | some (.map k e) => match P.underlying k with
    | some .string => some (.string, e)
    | some .bool => some (.bool, e)
    | some (.int ik) => some (.int ik, e)
    | _ => none
  | _ => none
def keyD : TypeDesc → Bool
  | .string | .bool | .int _ => true
  | _ => false
theorem tmap_spec {t : TypeId} {d : TypeDesc} {el : TypeId} (h : tmap P t = some (d, el)) : ∃ k, P.underlying t = some (.map k el) ∧ P.underlying k = some d ∧ keyD d = true := by
  unfold tmap at h
  split at h
  · rename_i k e hk
    split at h
    · rename_i hd; simp only [Option.some.injEq, Prod.mk.injEq] at h; obtain ⟨rfl, rfl⟩ := h; exact ⟨k, hk, hd, rfl⟩
    · rename_i hd; simp only [Option.some.injEq, Prod.mk.injEq] at h; obtain ⟨rfl, rfl⟩ := h; exact ⟨k, hk, hd, rfl⟩
    · rename_i ik hd; simp only [Option.some.injEq, Prod.mk.injEq] at h; obtain ⟨rfl, rfl⟩ := h; exact ⟨k, hk, hd, rfl⟩
    · cases h
  · cases h
theorem run_checkKey {k : TypeId} {d : TypeDesc} (hk : P.underlying k = some d) (hd : keyD d = true) (b : Bool) (n : Nat) (v : Value) (w : World) : (Instr.checkKey b (n + 1) k v).run P w = .ok () w := by
  unfold Instr.checkKey
  rw [Sem.run_bind, run_underlying' hk, Result.andThen_ok]
  cases d <;> first | (cases v <;> rfl) | cases hd
/-- Are two keys one? -/
def akey (d : TypeDesc) (a b : AV) : Option Bool :=
  match d, a, b with
  | .int _, .p (.int k a), .p (.int k' b) => if k = k' then some (decide (a = b)) else none
  | .string, .p (.string a), .p (.string b) => some (decide (a = b))
  | .bool, .p (.bool a), .p (.bool b) => some (decide (a = b))
  | _, _, _ => none
theorem beq_bytes (a b : ByteArray) : (a == b) = decide (a = b) := by
  obtain ⟨x⟩ := a
  obtain ⟨y⟩ := b
  show (x == y) = _
  rw [Bool.eq_iff_iff]
  simp
theorem akey_spec {d : TypeDesc} {x : Value} {k : AV} {b : Bool} (h : akey d (.p x) k = some b) : ∃ y, k = .p y ∧ Instr.sameNow d x y = some b ∧ (b = true → x = y) := by
  unfold akey at h
  split at h
  · rename_i hx; cases hx
    split at h
    · rename_i hk; subst hk
      obtain rfl := Option.some.inj h
      exact ⟨_, rfl, by simp [Instr.sameNow]; rfl, fun hh => by rw [of_decide_eq_true hh]⟩
    · cases h
  · rename_i hx; cases hx
    obtain rfl := Option.some.inj h
    exact ⟨_, rfl, by simp [Instr.sameNow, beq_bytes], fun hh => by rw [of_decide_eq_true hh]⟩
  · rename_i hx; cases hx
    obtain rfl := Option.some.inj h
    exact ⟨_, rfl, by simp [Instr.sameNow]; rfl, fun hh => by rw [of_decide_eq_true hh]⟩
  · cases h
def amfind (d : TypeDesc) (k : AV) : List (AV × AV) → Nat → Option (Option (Nat × AV))
  | [], _ => some none
  | e :: es, i =>
    match akey d k e.1 with
    | some true => some (some (i, e.2))
    | some false => amfind d k es (i + 1)
    | none => none
theorem findNow_spec {G : Ghost} {w : World} {d : TypeDesc} {kv : Value} : ∀ (es : List (AV × AV)) (ents : List MapEntry) (i : Nat) (r : Option (Nat × AV)), es.length = ents.length →
    (∀ (n : Nat) k x (e : MapEntry), es[n]? = some (k, x) → ents[n]? = some e → Rep G w k e.key ∧ Rep G w x e.val) → amfind d (.p kv) es i = some r →
    match r with
    | none => Instr.findNow d kv ents i = some none
    | some (j, x) => ∃ e, i ≤ j ∧ ents[j - i]? = some e ∧ Rep G w x e.val ∧ Instr.findNow d kv ents i = some (some (j, e.val))
  | [], [], i, r, _, _, h => by
    obtain rfl := Option.some.inj h
    rfl
  | (k, x) :: es, e :: ents, i, r, hl, hr, h => by
    obtain ⟨h1, h2⟩ := hr 0 k x e rfl rfl
    have hk : ∀ b, akey d (.p kv) k = some b → Instr.sameNow d kv e.key = some b := by
      intro b hb
      obtain ⟨y, rfl, hs, _⟩ := akey_spec hb
      cases h1
      exact hs
    unfold amfind at h
    simp only at h
    cases hq : akey d (.p kv) k with
    | none => rw [hq] at h; cases h
    | some b =>
      rw [hq] at h
      have hb := hk b hq
      cases b with
      | true =>
        obtain rfl := Option.some.inj h
        refine ⟨e, Nat.le_refl _, by simp, h2, ?_⟩
        unfold Instr.findNow
        rw [hb]
      | false =>
        have ih := findNow_spec es ents (i + 1) r (by simpa using hl) (fun n k x e a b => hr (n + 1) k x e a b) h
        cases r with
        | none =>
          show Instr.findNow d kv (e :: ents) i = some none
          unfold Instr.findNow
          rw [hb]
          exact ih
        | some jx =>
          obtain ⟨j, y⟩ := jx
          obtain ⟨e', hij, he, hre, hf⟩ := ih
          refine ⟨e', by omega, ?_, hre, ?_⟩
          · rw [show j - i = (j - (i + 1)) + 1 by omega]; exact he
          · unfold Instr.findNow
            rw [hb]
            exact hf
theorem run_findKey {k : TypeId} {d : TypeDesc} (hk : P.underlying k = some d) {kv : Value} {ents : List MapEntry} {r : Option (Nat × Value)} (h : Instr.findNow d kv ents 0 = some r) (w : World) : (Instr.findKey k kv ents).run P w = .ok r w := by
  simp [Instr.findKey, run_underlying' hk, h]
theorem opq_makeMap {t : TypeId} (ho : o.op = .makeMap t none) (hr : R (.map σ.next) (σ.addMp [])) : OpQ P o ρ σ R := by
  intro G e w he hw
  have hb := below_alloc' w (.map #[] 0)
  have run : (execOp e o).run P w = .ok (.value (.map (some w.heap.size))) (w.alloc (.map #[] 0)) := by
    simp only [execOp, ho, Instr.makeMap, Option.map_none]
    rfl
  rw [run]
  exact ⟨_, _, _, Le.addMp hw hb w.heap.size, hw.addMp hb (Nat.le_refl _) (fun _ => .inl ⟨w.heap.size, #[], 0, upd_same _ _ _, heap_alloc_new w _, rfl, by simp, by simp⟩), .map _ _ (upd_same _ _ _), hr⟩
theorem mp_map {G : Ghost} {w : World} {b : Nat} {es : List (AV × AV)} {d : TypeDesc} {kv : Value} {r : Option (Nat × AV)} (h : MpOK G w b es) (hf : amfind d (.p kv) es 0 = some r) :
    ∃ μ ents clock, G.mp b = some μ ∧ w.heap[μ]? = some (.map ents clock) ∧ ents.size = es.length ∧
    (∀ (i : Nat) k x (e : MapEntry), es[i]? = some (k, x) → ents[i]? = some e → Rep G w k e.key ∧ Rep G w x e.val ∧ e.born < clock) ∧ (∀ (i j : Nat) (e e' : MapEntry), ents[i]? = some e → ents[j]? = some e' → e.born = e'.born → i = j) := by
  rcases h with h | ⟨μ, ob, ofr, _, _, _, rfl⟩
  · exact h
  · unfold obE amfind at hf
    have : akey d (.p kv) noV = none := by unfold akey; cases d <;> cases kv <;> rfl
    simp only [this] at hf
    cases hf
theorem obE_inj {o o' : Obj} {fr fr' : List AV} (h : obE o fr = obE o' fr') : o = o' ∧ fr = fr' := by
  unfold obE at h
  simpa using h
theorem mp_ob {G : Ghost} {w : World} {b : Nat} {o : Obj} {fr : List AV} (h : MpOK G w b (obE o fr)) : ∃ μ o', G.mp b = some μ ∧ w.heap[μ]? = some o' ∧ ObR G w o' fr ∧ erO o' = o := by
  rcases h with ⟨μ, ents, clock, h1, h2, h3, h4, h5⟩ | ⟨μ, o', fr', h1, h2, h3, h4⟩
  · have hl : ents.size = 1 := h3
    obtain ⟨e, he⟩ : ∃ e, ents[0]? = some e := ⟨ents[0], by simp [hl]⟩
    exact (noV_rep (h4 0 _ _ e rfl he).1).elim
  · obtain ⟨e1, rfl⟩ := obE_inj h4
    exact ⟨μ, o', h1, h2, h3, e1.symm⟩
theorem run_setObj {w : World} {r : Nat} {es : Array MapEntry} {c : Nat} {o' : Obj} (h : w.heap[r]? = some (.map es c)) : ∃ w', (setObj r o').run P w = .ok () w' ∧ Touch w w' r ∧ w'.heap[r]? = some o' := by
  refine ⟨{ w with heap := w.heap.set! r o' }, ?_, ⟨rfl, rfl, rfl, by simp, fun k hk => ?_⟩, ?_⟩
  · simp [setObj, Sem.run, h]
  · simp [Array.getElem?_setIfInBounds_ne (fun e => hk e.symm)]
  · obtain ⟨hr, _⟩ := Array.getElem?_eq_some_iff.1 h
    simp [hr]
theorem opq_lookup {t : TypeId} {m k : Operand} {ok : Bool} (ho : o.op = .lookup t m k ok) {d : TypeDesc} {el : TypeId} (ht : tmap P t = some (d, el)) {b : Nat} (hm : ρ m = .map b) {es : List (AV × AV)} (hb : σ.mp b = some es) {kv : Value} (hk : ρ k = .p kv)
    {r : Option (Nat × AV)} (hf : amfind d (.p kv) es 0 = some r) {x : AV} (hx : match r with | some (_, y) => x = y | none => tzero P el = some x) (hr : R (if ok = true then .tup [x, .p (.bool r.isSome)] else x) σ) : OpQ P o ρ σ R := by
  obtain ⟨kt, u1, u2, u3⟩ := tmap_spec ht
  intro G e w he hw
  have hm' := he m
  rw [hm] at hm'
  have hk' := he k
  rw [hk] at hk'
  obtain ⟨μ, ents, clock, g1, g2, g3, g4, g5⟩ := mp_map (hw.mp b es hb) hf
  generalize hem : e m = vm at hm'
  generalize hek : e k = vk at hk'
  cases hk'
  obtain ⟨μ', rfl, g⟩ : ∃ μ', vm = .map (some μ') ∧ G.mp b = some μ' := by cases hm'; exact ⟨_, rfl, by assumption⟩
  obtain rfl := Option.some.inj (g.symm.trans g1)
  have hf := findNow_spec (G := G) (w := w) es ents.toList 0 r (by simp [g3]) (fun n k x e a c => by
    have := g4 n k x e a (by simpa using c)
    exact ⟨this.1, this.2.1⟩) hf
  have key : ∃ v, (execOp e o).run P w = .ok (.value (if ok = true then .tuple #[v, .bool r.isSome] else v)) w ∧ Rep G w x v := by
    cases r with
    | none =>
      obtain ⟨i, v, hi, hv, rfl⟩ := tzero_spec hx
      refine ⟨v, ?_, rep_ofV G w v⟩
      simp [execOp, ho, Instr.lookup, run_underlying' u1, hem, hek, run_getObj_map g2, run_checkKey u2 u3, run_findKey u2 hf, run_zeroValue' hi hv]
    | some jy =>
      obtain ⟨j, y⟩ := jy
      obtain ⟨e', _, he', hre, hf⟩ := hf
      have hx' : x = y := hx
      refine ⟨e'.val, ?_, by rw [hx']; exact hre⟩
      simp [execOp, ho, Instr.lookup, run_underlying' u1, hem, hek, run_getObj_map g2, run_checkKey u2 u3, run_findKey u2 hf]
  obtain ⟨v, run, hrep⟩ := key
  rw [run]
  refine ⟨_, G, σ, Le.refl _ _, hw, ?_, hr⟩
  cases ok with
  | false => exact hrep
  | true =>
    refine .tup _ _ rfl fun i c u a c' => ?_
    match i, a, c' with
    | 0, a, c' => cases a; cases c'; exact hrep
    | 1, a, c' => cases a; cases c'; exact .p _
theorem keyStays {d : TypeDesc} {x : Value} (hd : ∃ b, Instr.sameNow d x x = some b) (w : World) : (Instr.keyThatStays x x).run P w = .ok x w := by
  have : Instr.sameBits 10000 x x = true := by
    obtain ⟨b, h⟩ := hd
    unfold Instr.sameNow at h
    split at h
    · simp [Instr.sameBits]
    · simp [Instr.sameBits, beq_bytes]
    · simp [Instr.sameBits]
    · cases h
  simp [Instr.keyThatStays, this]
/-- A key's value put, new or in place. -/
def amput (d : TypeDesc) (k x : AV) (es : List (AV × AV)) : Option (List (AV × AV)) :=
  (amfind d k es 0).map fun r => match r with
    | none => es ++ [(k, x)]
    | some (j, _) => es.set j (k, x)
theorem amfind_key {d : TypeDesc} {kv : Value} : ∀ (es : List (AV × AV)) (i j : Nat) (x : AV), amfind d (.p kv) es i = some (some (j, x)) → i ≤ j ∧ es[j - i]? = some (.p kv, x) ∧ Instr.sameNow d kv kv = some true
  | [], i, j, x, h => by cases h
  | (k, x0) :: es, i, j, x, h => by
    unfold amfind at h
    simp only at h
    cases hq : akey d (.p kv) k with
    | none => rw [hq] at h; cases h
    | some b =>
      rw [hq] at h
      cases b with
      | true =>
        simp only [Option.some.injEq, Prod.mk.injEq] at h
        obtain ⟨rfl, rfl⟩ := h
        obtain ⟨y, rfl, hs, he⟩ := akey_spec hq
        obtain rfl := he rfl
        exact ⟨Nat.le_refl _, by simp, hs⟩
      | false =>
        obtain ⟨h1, h2, h3⟩ := amfind_key es (i + 1) j x h
        exact ⟨by omega, by rw [show j - i = (j - (i + 1)) + 1 by omega]; exact h2, h3⟩
theorem opq_mapPut {t : TypeId} {m k x : Operand} (ho : o.op = .insert t m k x ∨ o.op = .mapUpdate t m k x) {d : TypeDesc} {el : TypeId} (ht : tmap P t = some (d, el)) {b : Nat} (hm : ρ m = .map b) {es es' : List (AV × AV)} (hb : σ.mp b = some es) {kv : Value} (hk : ρ k = .p kv)
    (hf : amput d (.p kv) (ρ x) es = some es') (hr : R (.p undef) { σ with mp := upd σ.mp b (some es') }) : OpQ P o ρ σ R := by
  obtain ⟨kt, u1, u2, u3⟩ := tmap_spec ht
  intro G e w he hw
  have hm' := he m
  rw [hm] at hm'
  have hk' := he k
  rw [hk] at hk'
  have hx' := he x
  obtain ⟨r, hfd, rfl⟩ := Option.map_eq_some_iff.1 hf
  obtain ⟨μ, ents, clock, g1, g2, g3, g4, g5⟩ := mp_map (hw.mp b es hb) hfd
  generalize hem : e m = vm at hm'
  generalize hek : e k = vk at hk'
  generalize hex : e x = vx at hx'
  cases hk'
  obtain ⟨μ', rfl, g⟩ : ∃ μ', vm = .map (some μ') ∧ G.mp b = some μ' := by cases hm'; exact ⟨_, rfl, by assumption⟩
  obtain rfl := Option.some.inj (g.symm.trans g1)
  have hfn := findNow_spec (G := G) (w := w) es ents.toList 0 r (by simp [g3]) (fun n k x e a c => by
    have := g4 n k x e a (by simpa using c)
    exact ⟨this.1, this.2.1⟩) hfd
  have key : ∃ ents' clock', (execOp e o).run P w = ((setObj μ' (.map ents' clock')).run P w).andThen (fun _ w' => .ok .skip w') ∧ ents'.size = (match r with | none => es ++ [(AV.p kv, ρ x)] | some (j, _) => es.set j (AV.p kv, ρ x)).length ∧
      (∀ (i : Nat) k' x' (e' : MapEntry), (match r with | none => es ++ [(AV.p kv, ρ x)] | some (j, _) => es.set j (AV.p kv, ρ x))[i]? = some (k', x') → ents'[i]? = some e' → Rep G w k' e'.key ∧ Rep G w x' e'.val ∧ e'.born < clock') ∧ (∀ (i j : Nat) (e e' : MapEntry), ents'[i]? = some e → ents'[j]? = some e' → e.born = e'.born → i = j) := by
    cases r with
    | none =>
      refine ⟨ents.push { key := kv, val := vx, born := clock }, clock + 1, ?_, by simp [g3], ?_, ?_⟩
      · rcases ho with ho | ho <;> simp [execOp, ho, Instr.mapUpdate, run_underlying' u1, hem, hek, hex, run_getObj_map g2, run_checkKey u2 u3, run_findKey u2 hfn]
      · intro i k' x' e' a c
        simp only at a
        rw [Array.getElem?_push] at c
        split at c
        · rename_i hi
          obtain rfl := Option.some.inj c
          subst hi
          rw [List.getElem?_append_right (by omega)] at a
          simp [g3] at a
          obtain ⟨rfl, rfl⟩ := a
          exact ⟨.p _, hx', by simp⟩
        · rename_i hi
          have hlt : i < ents.size := (Array.getElem?_eq_some_iff.1 c).1
          rw [List.getElem?_append_left (by omega)] at a
          obtain ⟨q1, q2, q3⟩ := g4 i k' x' e' a c
          exact ⟨q1, q2, by omega⟩
      · intro i j e1 e2 h1 h2 h3
        have old : ∀ (i : Nat) (e : MapEntry), ents[i]? = some e → e.born < clock := fun i e h => by
          have hi : i < es.length := by have := (Array.getElem?_eq_some_iff.1 h).1; omega
          exact (g4 i es[i].1 es[i].2 e (by rw [List.getElem?_eq_getElem hi]) h).2.2
        rw [Array.getElem?_push] at h1 h2
        split at h1
        · split at h2
          · omega
          · obtain rfl := Option.some.inj h1
            have := old _ _ h2
            simp at h3; omega
        · split at h2
          · obtain rfl := Option.some.inj h2
            have := old _ _ h1
            simp at h3; omega
          · exact g5 i j e1 e2 h1 h2 h3
    | some jy =>
      obtain ⟨j, y⟩ := jy
      obtain ⟨e0, _, he0, hre, hfn⟩ := hfn
      obtain ⟨_, hes, hsame⟩ := amfind_key es 0 j y hfd
      simp only [Nat.sub_zero] at he0 hes
      have he0' : ents[j]? = some e0 := by simpa using he0
      obtain ⟨q1, q2, q3⟩ := g4 j _ _ e0 hes he0'
      obtain rfl : kv = e0.key := by cases q1; rfl
      refine ⟨ents.modify j fun e => { e with key := e0.key, val := vx }, clock, ?_, by simp [g3], ?_, ?_⟩
      · rcases ho with ho | ho <;> simp [execOp, ho, Instr.mapUpdate, run_underlying' u1, hem, hek, hex, run_getObj_map g2, run_checkKey u2 u3, run_findKey u2 hfn, he0', keyStays ⟨_, hsame⟩]
      · intro i k' x' e' a c
        simp only at a
        rw [Array.getElem?_modify] at c
        split at c
        · rename_i hi
          subst hi
          rw [he0'] at c
          obtain rfl := Option.some.inj c
          have hlt : j < es.length := (List.getElem?_eq_some_iff.1 hes).1
          rw [List.getElem?_set_self hlt] at a
          simp only [Option.some.injEq, Prod.mk.injEq] at a
          obtain ⟨rfl, rfl⟩ := a
          exact ⟨.p _, hx', q3⟩
        · rename_i hi
          rw [List.getElem?_set_ne hi] at a
          exact g4 i k' x' e' a c
      · intro i j' e1 e2 h1 h2 h3
        have old : ∀ (i : Nat) (e : MapEntry), (ents.modify j fun e => { e with key := e0.key, val := vx })[i]? = some e → ∃ e', ents[i]? = some e' ∧ e'.born = e.born := fun i e h => by
          rw [Array.getElem?_modify] at h
          split at h
          · rename_i hi; subst hi
            rw [he0'] at h
            obtain rfl := Option.some.inj h
            exact ⟨e0, he0', rfl⟩
          · exact ⟨e, h, rfl⟩
        obtain ⟨a1, b1, c1⟩ := old _ _ h1
        obtain ⟨a2, b2, c2⟩ := old _ _ h2
        exact g5 i j' a1 a2 b1 b2 (by rw [c1, c2, h3])
  obtain ⟨ents', clock', run, k1, k2, k3⟩ := key
  obtain ⟨w', hset, htouch, hh⟩ := run_setObj (P := P) (o' := .map ents' clock') g2
  rw [run, hset, Result.andThen_ok]
  have hown : Owns G σ μ' (1, b) := .mp b μ' es hb g
  have hl := Le.touch hw hown htouch
  exact ⟨_, G, _, hl, hw.touch_mp hb g htouch (fun hl => .inl ⟨μ', ents', clock', g, hh, k1, fun i k' x' e' a c => ⟨(k2 i k' x' e' a c).1.mono hl, (k2 i k' x' e' a c).2.1.mono hl, (k2 i k' x' e' a c).2.2⟩, k3⟩), .p _, hr⟩
@[simp] theorem upd_upd {α : Type} (f : Nat → Option α) (b : Nat) (x y : Option α) : upd (upd f b x) b y = upd f b y := by
  funext k; unfold upd; split <;> rfl
theorem awl_makeMap {rest : List Oper} {t : TypeId} (mu : List Nat) (ho : o.op = .makeMap t none) (hw : awanted ops o fr = some true)
    (hk : Shut (ARun P D ops Q mu rest (aput fr o.dst (.map σ.next)) (σ.addMp []))) : AWL P D ops Q (o :: rest) fr σ :=
  awl_cons hw (opq_makeMap ho (awl_run' mu hk))
theorem awl_mapPut {rest : List Oper} {t : TypeId} {m k x : Operand} (mu : List Nat) (ho : o.op = .insert t m k x ∨ o.op = .mapUpdate t m k x) (hw : awanted ops o fr = some true) {d : TypeDesc} {el : TypeId} (ht : tmap P t = some (d, el)) {b : Nat} (hm : aev fr m = .map b) {es es' : List (AV × AV)} (hb : σ.mp b = some es)
    {kv : Value} (hk : aev fr k = .p kv) (hf : amput d (.p kv) (aev fr x) es = some es') (hk2 : Shut (ARun P D ops Q mu rest (aput fr o.dst (.p undef)) { σ with mp := upd σ.mp b (some es') })) : AWL P D ops Q (o :: rest) fr σ :=
  awl_cons hw (opq_mapPut ho ht hm hb hk hf (awl_run' mu hk2))
end Go.AL
/-! Regions that draw their order, in which one variable is made and filled: the others leave all as it is, whenever they come. -/
namespace Go.AL
set_option linter.unusedVariables false
set_option linter.unusedSimpArgs false
variable {P : Program} {σ σ1 σ2 : ASt} {R : AV → ASt → Prop} {D : List Deferred} {Q : Exit → List AV → ASt → Prop} {fr : List AV} {ops : Array Oper} {A S : Nat}
/-- An operation that turns memory. -/
def YldT (P : Program) (ops : Array Oper) (σ τ : ASt) (o : Oper) (fr : List AV) (r : AV) : Prop :=
  ∀ G (a : Act) w, (∀ t ∈ o.looksAt ops, Rep G w (fget fr t) (a.eval (.tmp t))) → SimW G σ w →
    Region.wanted o (yielded ops a.tmps) = true ∧ OutcN P G w (fun r' σ' => r' = r ∧ σ' = τ) ((execOp a.eval o).run P w)
theorem YldT.put {τ : ASt} {o : Oper} {r : AV} {d : Option Tmp} {v : AV} (hd : ∀ x, d = some x → x ∉ o.looksAt ops) : YldT P ops σ τ o (aput fr d v) r ↔ YldT P ops σ τ o fr r := by
  have e : ∀ t ∈ o.looksAt ops, fget (aput fr d v) t = fget fr t := by
    intro t ht
    cases d with
    | none => rfl
    | some x => exact fget_fset_ne fr x t v fun e => hd x rfl (e ▸ ht)
  constructor
  · intro h G a w ha hw
    exact h G a w (fun t ht => by rw [e t ht]; exact ha t ht) hw
  · intro h G a w ha hw
    exact h G a w (fun t ht => by rw [← e t ht]; exact ha t ht) hw
/-- Number i, of which A makes, and S fills. -/
def Y2 (P : Program) (ops : Array Oper) (A S : Nat) (σ σ1 σ2 : ASt) (i : Nat) (o : Oper) (fr : List AV) (r : AV) : Prop :=
  (i = A ∧ YldT P ops σ σ1 o fr r) ∨ (i = S ∧ YldT P ops σ1 σ2 o fr r) ∨ (i ≠ A ∧ i ≠ S ∧ Yld P ops σ o fr r ∧ Yld P ops σ1 o fr r ∧ Yld P ops σ2 o fr r)
theorem Y2.put {i : Nat} {o : Oper} {r : AV} {d : Option Tmp} {v : AV} (hd : ∀ x, d = some x → x ∉ o.looksAt ops) : Y2 P ops A S σ σ1 σ2 i o (aput fr d v) r ↔ Y2 P ops A S σ σ1 σ2 i o fr r := by
  unfold Y2
  rw [YldT.put hd, YldT.put hd, Yld.put hd, Yld.put hd, Yld.put hd]
/-- What memory is, by what is done. -/
def st2 (A S : Nat) (σ σ1 σ2 : ASt) (listed : Array Bool) : ASt := if listed.getD S true = true then σ2 else if listed.getD A true = true then σ1 else σ
/-! ### how it is shown -/
theorem yldT_opq {τ : ASt} {o : Oper} {r : AV} (hg : o.guard = none) (h : ∀ ρ, (∀ x ∈ o.op.operands, ρ x = aev fr x) → OpQ P o ρ σ fun r' σ' => r' = r ∧ σ' = τ) : YldT P ops σ τ o fr r := by
  intro G a w ha hw
  exact ⟨by simp [Region.wanted, hg], h (only o (aev fr)) (fun x hx => (only_eq x hx).symm) G a.eval w (only_rep ha) hw⟩
end Go.AL
/-! Arguments that are slices. -/
namespace Go.AL
open Go.RowKit (Below)
set_option linter.unusedVariables false
theorem cell_lt {W : World} {β o : Nat} {v : Value} (h : W.cell? ⟨β, o, none⟩ = some v) : β < W.heap.size := by
  rcases Nat.lt_or_ge β W.heap.size with h' | h'
  · exact h'
  · unfold World.cell? at h; simp [Array.getElem?_eq_none h'] at h
theorem rep_rows {W : World} {β o k len cap : Nat} (xs : Nat → List Value) (hk : ∀ i, i < len → (xs i).length = k) (hle : len ≤ cap) (F : Nat → AV) (hF : ∀ i, i < len → (F i).cells = (xs i).map AV.p)
    (hc : ∀ i, i < len → ∀ j c, (xs i)[j]? = some c → W.cell? ⟨β, o + (i * k + j), none⟩ = some c) : Rep (G0 W) W (.vsl ((List.range len).map F)) (.slice (some ⟨β, o, none⟩) len cap) := by
  have at_ : ∀ (i j : Nat) c, rowCell ((List.range len).map F) i j = some c → i < len ∧ ∃ u, (xs i)[j]? = some u ∧ c = .p u := by
    intro i j c h
    unfold rowCell at h
    obtain ⟨x, h1, h2⟩ := Option.bind_eq_some_iff.1 h
    rw [List.getElem?_map] at h1
    obtain ⟨i', h3, rfl⟩ := Option.map_eq_some_iff.1 h1
    obtain ⟨hi, rfl⟩ : i < len ∧ i = i' := by
      have := List.getElem?_eq_some_iff.1 h3
      obtain ⟨hl, he⟩ := this
      simp at hl he
      exact ⟨hl, he⟩
    rw [hF i hi, List.getElem?_map] at h2
    obtain ⟨u, h4, rfl⟩ := Option.map_eq_some_iff.1 h2
    exact ⟨hi, u, h4, rfl⟩
  have key := Rep.vsl (G := G0 W) (w := W) ((List.range len).map F) β o k cap (fun i j => (xs i).getD j undef) (by simpa using hle)
    (fun i x hx => by
      rw [List.getElem?_map] at hx
      obtain ⟨i', h3, rfl⟩ := Option.map_eq_some_iff.1 hx
      obtain ⟨hl, he⟩ := List.getElem?_eq_some_iff.1 h3
      simp at hl he
      subst he
      rw [hF i hl, List.length_map]; exact hk i hl)
    (fun i j c h => by
      obtain ⟨hi, u, hu, rfl⟩ := at_ i j c h
      have := hc i hi j u hu
      rw [Nat.add_assoc]
      exact ⟨cell_lt this, by rw [this, List.getD, hu]; rfl⟩)
    (fun i j c h => by
      obtain ⟨hi, u, hu, rfl⟩ := at_ i j c h
      have e : (xs i).getD j undef = u := by rw [List.getD, hu]; rfl
      rw [e]
      exact .p u)
  simpa using key
end Go.AL
/-! What is handed back, closed: slices of the function's own stay as they are; no slice is the empty one. -/
namespace Go.AL
open Go.RowKit (Below)
set_option linter.unusedVariables false
set_option linter.unusedSimpArgs false
variable {P : Program} {σ : ASt} {R : AV → ASt → Prop}
def clo0 (σ : ASt) : AV → AV
  | .p (.slice none 0 _) => .vsl []
  | .hsl b off n => match σ.sl b with
    | some xs => if off + n ≤ xs.length then .vsl ((xs.drop off).take n) else .any
    | none => .hsl b off n
  | v => v
def clo1 (σ : ASt) : AV → AV
  | .agg cs => .agg (cs.map (clo0 σ))
  | v => clo0 σ v
def clo (σ : ASt) : AV → AV
  | .tup cs => .tup (cs.map (clo1 σ))
  | v => clo1 σ v
theorem clo_rep {G G' w} (f0 : ∀ v u, Rep G w v u → Rep G' w (clo0 σ v) u) : ∀ v u, Rep G w v u → Rep G' w (clo σ v) u := by
  have f1 : ∀ v u, Rep G w v u → Rep G' w (clo1 σ v) u := by
    intro v u hr
    by_cases hv : ∃ cs, v = .agg cs
    · obtain ⟨cs, rfl⟩ := hv
      cases hr with
      | agg _ vs hs h =>
        refine .agg _ vs (by simpa using hs) fun i c v hc hv => ?_
        rw [List.getElem?_map] at hc
        obtain ⟨c', hc', rfl⟩ := Option.map_eq_some_iff.1 hc
        exact f0 _ _ (h i c' v hc' hv)
    · have : clo1 σ v = clo0 σ v := by cases v <;> first | rfl | exact absurd ⟨_, rfl⟩ hv
      rw [this]; exact f0 v u hr
  intro v u hr
  by_cases hv : ∃ cs, v = .tup cs
  · obtain ⟨cs, rfl⟩ := hv
    cases hr with
    | tup _ vs hs h =>
      refine .tup _ vs (by simpa using hs) fun i c v hc hv => ?_
      rw [List.getElem?_map] at hc
      obtain ⟨c', hc', rfl⟩ := Option.map_eq_some_iff.1 hc
      exact f1 _ _ (h i c' v hc' hv)
  · have : clo σ v = clo1 σ v := by cases v <;> first | rfl | exact absurd ⟨_, rfl⟩ hv
    rw [this]; exact f1 v u hr
def ASt.noSl (σ : ASt) : ASt := { σ with sl := fun _ => none }
theorem noSl_le (σ : ASt) : (σ.noSl).Le σ := ⟨fun _ _ h => h, fun _ _ h => h, fun _ _ h => (nomatch h), Nat.le_refl _⟩
theorem SimW.close {G σ w} (h : SimW G σ w) : ∃ G', Le G w G' w ∧ SimW G' σ.noSl w ∧ ∀ v u, Rep G w v u → Rep G' w (clo σ v) u := by
  obtain ⟨q, hq⟩ : ∃ q : Nat → Nat → Prop, q = fun γ _ => ∃ b xs r, σ.sl b = some xs ∧ G.sl b = some (some (γ, r)) := ⟨_, rfl⟩
  have hqo : ∀ γ o, q γ o → ∃ b, Owns G σ γ (2, b) := fun γ o e => by
    rw [hq] at e; obtain ⟨b, xs, r, h1, h2⟩ := e; exact ⟨b, .sl b γ r xs h1 h2⟩
  have hl : Le G w (G.addSt q) w := ⟨rfl, fun _ _ e => e, fun _ _ e => e, fun _ _ e => e, fun _ _ e => .inl e, fun γ o e => e.imp id fun e => by
    obtain ⟨b, hb⟩ := hqo γ o e; exact ⟨(h.own _ _ hb).1, (h.own _ _ hb).2.2⟩, fun _ _ _ => rfl, Below.refl _ _⟩
  refine ⟨_, hl, ?_, clo_rep fun v u hr => ?_⟩
  · have hw := h.less (noSl_le σ)
    have hown : ∀ γ k, Owns (G.addSt q) σ.noSl γ k → Owns G σ γ k ∧ k.1 ≠ 2 := by
      intro γ k hk
      cases hk with
      | bx b' β' cs2 h2 g2 => exact ⟨.bx _ _ cs2 h2 g2, by simp⟩
      | mp b' β' cs2 h2 g2 => exact ⟨.mp _ _ cs2 h2 g2, by simp⟩
      | sl b' β' r cs2 h2 g2 => cases h2
    refine ⟨hw.base, fun b' cs e => (hw.bx b' cs e).mono hl fun _ _ => rfl, fun b' cs e => (hw.mp b' cs e).mono hl fun _ _ => rfl, fun b' cs e => (nomatch e), fun γ k hk => ?_, fun γ o e => ?_, hw.fresh⟩
    · have hk1 := hown γ k hk
      refine ⟨(h.own γ k hk1.1).1, fun k' hk' => (h.own γ k hk1.1).2.1 k' (hown _ _ hk').1, fun o e => ?_⟩
      rcases e with e | e
      · exact (h.own γ k hk1.1).2.2 o e
      · obtain ⟨b, hb⟩ := hqo γ o e
        have := (h.own γ _ hk1.1).2.1 _ hb
        exact hk1.2 (by rw [← this])
    · rcases e with e | e
      · exact h.stIn _ _ e
      · obtain ⟨b, hb⟩ := hqo γ o e; exact h.own_lt hb
  · have hr0 := hr.mono hl
    by_cases hv : ∃ cap, v = .p (.slice none 0 cap)
    · obtain ⟨cap, rfl⟩ := hv
      cases hr
      exact .vnil none cap
    by_cases hv2 : ∃ b off n, v = .hsl b off n
    · obtain ⟨b, off, n, rfl⟩ := hv2
      simp only [clo0]
      cases hb : σ.sl b with
      | none => exact hr0
      | some xs =>
        simp only
        split
        · rename_i hin
          have hS := h.sl b xs hb
          cases hr with
          | hsl _ _ _ β' o' s' cap' g hle =>
            rcases hS with ⟨g1, rfl⟩ | ⟨β, o, s, cap, arr, el, g1, g2, g3, g4, g5, g6⟩
            · rw [g1] at g; cases g
            obtain ⟨rfl, rfl, rfl, rfl⟩ : β = β' ∧ o = o' ∧ s = s' ∧ cap = cap' := by rw [g] at g1; simpa using g1.symm
            have hlen : ((xs.drop off).take n).length = n := by simp; omega
            have hc0 : n ≤ cap - off := by omega
            have hc1 : ((xs.drop off).take n).length ≤ cap - off := by rw [hlen]; exact hc0
            have hin2 : ∀ i j c, rowCell ((xs.drop off).take n) i j = some c → rowCell xs (off + i) j = some c ∧ o + (off + i) * s + j < arr.size := by
              intro i j c hc
              obtain ⟨hc2, hi⟩ := rowCell_seg _ _ _ _ _ _ hc
              obtain ⟨h1, h2, h3⟩ := rowCell_lt hc2 g5
              have : xs.length * s ≤ cap * s := Nat.mul_le_mul_right _ g3.2
              exact ⟨hc2, by omega⟩
            have key := Rep.vsl (G := G.addSt q) (w := w) ((xs.drop off).take n) β (o + off * s) s (cap - off) (fun i j => arr.getD (o + (off + i) * s + j) undef) hc1 (fun i x hx => by
              rw [List.getElem?_take] at hx
              split at hx
              · rw [List.getElem?_drop] at hx; exact g5 _ _ hx
              · cases hx) (fun i j c hc => ⟨.inr (by rw [hq]; exact ⟨b, xs, _, hb, g1⟩), by
              obtain ⟨_, hlt⟩ := hin2 i j c hc
              have e : o + off * s + i * s + j = o + (off + i) * s + j := by rw [Nat.add_mul]; omega
              rw [cell_of_heap g2, e]
              simp [hlt]⟩) (fun i j c hc => by
              obtain ⟨hc2, hlt⟩ := hin2 i j c hc
              have := g6 (off + i) j c _ hc2 (Array.getElem?_eq_getElem hlt)
              simp only [Array.getD, hlt, dif_pos]
              exact this.mono hl)
            rw [hlen] at key; exact key
          | hend _ _ a β' o' s' cap' g hle => simp only [List.take_zero]; exact .vnil _ _
          | hnil _ a g => simp only [List.take_zero]; exact .vnil _ _
        · exact .any _
    · have : clo0 σ v = v := by
        cases v with
        | p x =>
          cases x <;> first | rfl | skip
          rename_i a n c
          cases a with
          | none => cases n with
            | zero => exact absurd ⟨_, rfl⟩ hv
            | succ n => rfl
          | some a => rfl
        | hsl b off n => exact absurd ⟨_, _, _, rfl⟩ hv2
        | _ => rfl
      rw [this]; exact hr0
theorem Fin.close {r : AV} (h : Fin R (clo σ r) σ.noSl) : Fin R r σ := by
  intro G w v hw hr
  obtain ⟨G', h1, h2, h3⟩ := hw.close
  obtain ⟨r', G2, σ2, k1, k2, k3, k4⟩ := h G' w v h2 (h3 _ _ hr)
  exact ⟨r', G2, σ2, h1.trans k1, k2, k3, k4⟩
attribute [simp] clo clo1 clo0
end Go.AL
