import Derived.Test.YtfpjojjgoelckaaDoorA15
/-! An operation of plain values that the evaluator doesn't know: by the machine's own run. -/
namespace Go.AL
set_option linter.unusedVariables false
set_option linter.unusedSimpArgs false

variable {P : Program} {σ : ASt} {R : AV → ASt → Prop} {D : List Deferred} {Q : Exit → List AV → ASt → Prop} {fr : List AV} {ops : Array Oper}

theorem opq_conc {o : Oper} {ρ : Operand → AV} {v : Value} (h : ∀ (e : Operand → Value) w, (∀ x y, ρ x = .p y → e x = y) → (execOp e o).run P w = .ok (.value v) w) : OpQ P o ρ σ fun r' σ' => r' = .p v ∧ σ' = σ := by
  intro G e w he hw
  rw [h e w fun x y hxy => by have := he x; rw [hxy] at this; generalize e x = u at this; cases this; rfl]
  exact ⟨.p v, G, σ, Le.refl _ _, hw, .p v, rfl, rfl⟩
theorem awl_conc {o : Oper} {rest : List Oper} (hw : awanted ops o fr = some true) (v : Value) (h : ∀ (e : Operand → Value) w, (∀ x y, aev fr x = .p y → e x = y) → (execOp e o).run P w = .ok (.value v) w)
    (hk : AWL P D ops Q rest (aput fr o.dst (.p v)) σ) : AWL P D ops Q (o :: rest) fr σ :=
  awl_cons hw ((opq_conc h).mono fun r' σ' ⟨e1, e2⟩ => by subst e1; subst e2; exact hk)
theorem yl_conc {K : List AV → Prop} {o : Oper} {rest : List Oper} (hg : o.guard = none) (v : Value) (h : ∀ (e : Operand → Value) w, (∀ x ∈ o.op.operands, ∀ y, aev fr x = .p y → e x = y) → (execOp e o).run P w = .ok (.value v) w)
    (hk : Shut (YRun P ops σ K rest (aput fr o.dst (.p v)))) : YL P ops σ K (o :: rest) fr :=
  ⟨.p v, yld_opq hg fun ρ hρ G e w he hw => by
    rw [h e w fun x hx y hxy => by
      have := he x
      rw [hρ x hx, hxy] at this
      generalize e x = u at this
      cases this; rfl]
    exact ⟨.p v, G, σ, Le.refl _ _, hw, .p v, rfl, rfl⟩, yl_run hk.out⟩
/-- A pure call, next in a run. -/
theorem awl_pure' {o : Oper} {rest : List Oper} {f : Operand} {aa : Array Operand} {ts : Array TypeId} (mu : List Nat) (ho : o.op = .call { callee := .value f, args := aa, argTypes := ts }) (hw : awanted ops o fr = some true)
    {F : FuncId} {first cap : List AV} (hf : acallee (aev fr f) = some (F, first, cap)) (hc : callable P F = true) {args : List AV} (ha : first ++ aa.toList.map (aev fr) ++ cap = args) {r : AV} (h : APure P F args r) (hcl : ∀ a ∈ args, Cl a) (hr : Cl r)
    (hk : Shut (ARun P D ops Q mu rest (aput fr o.dst r) σ)) : AWL P D ops Q (o :: rest) fr σ :=
  awl_pure ho hw hf hc ha h hcl hr (awl_run' mu hk)

/-- A guarded one, next in a run. -/
theorem awl_opq_guard {o : Oper} {rest : List Oper} {c : Bool} (hc : gcond ops o fr = some c) {r : AV} (h : c = true → OpQ P o (fun x => strip c (aev fr x)) σ fun r' σ' => r' = r ∧ σ' = σ) (hk : AWL P D ops Q rest (aput fr o.dst (.opt c r)) σ) : AWL P D ops Q (o :: rest) fr σ := by
  intro G a w hs
  have hw := gcond_spec hc hs
  unfold wpList
  cases c with
  | false =>
    rw [if_neg (by rw [hw]; simp)]
    exact hk G (a.put o.dst undef) w (hs.put o.dst (.opt false r undef (fun e => by cases e) (fun _ => rfl)))
  | true =>
    rw [if_pos hw]
    refine .inl ?_
    have hq := h rfl G a.eval w (fun x => strip_rep rfl (hs.ev x)) hs.w
    unfold Oper.wp
    have key : ∀ v w', Outc G w (fun r' σ' => r' = r ∧ σ' = σ) v w' → wpList P ops (lift G w D Q) rest (a.put o.dst v) w' := by
      rintro v w' ⟨r', G', σ', hl, hw', hr, rfl, rfl⟩
      have := hk G' (a.put o.dst v) w' ((hs.le hl hw').put o.dst (.opt true r' v (fun _ => hr) (fun e => by cases e)))
      exact wpList_weaken (fun e a w h => lift_le hl h) rest _ _ this
    generalize (execOp a.eval o).run P w = n at hq
    cases n with
    | halt => exact hq.elim
    | ok n w' =>
      cases n with
      | value v => exact key v w' hq
      | skip => exact key undef w' hq
      | enter f args =>
        refine Calls.mono hq fun e w'' he => ?_
        cases e with
        | returned v => exact key v w'' he
        | panicked c => exact he.elim
        | outgrown => exact he.elim
      | _ => exact hq.elim
/-- Without its guard. -/
def peel : AV → AV
  | .opt _ v => v
  | v => v
def okS (c : Bool) : AV → Bool
  | .opt b _ => impB c b
  | _ => true
theorem strip_peel {c : Bool} {x : AV} (h : okS c x = true) : strip c x = peel x := by
  cases x with
  | opt b v => simp only [strip, peel]; rw [show impB c b = true from h]; rfl
  | _ => rfl
theorem strip_mapL {c : Bool} {l : List Operand} (h : ∀ x ∈ l, okS c (aev fr x) = true) : (l.map fun x => strip c (aev fr x)) = l.map fun x => peel (aev fr x) :=
  List.map_congr_left fun x hx => strip_peel (h x hx)
theorem awl_pure_guard {o : Oper} {rest : List Oper} {f : Operand} {aa : Array Operand} {ts : Array TypeId} (mu : List Nat) (ho : o.op = .call { callee := .value f, args := aa, argTypes := ts }) {c : Bool} (hg : gcond ops o fr = some c)
    {F : FuncId} {first cap : List AV} (hf : acallee (peel (aev fr f)) = some (F, first, cap)) (hc : callable P F = true) {args : List AV} (ha : first ++ aa.toList.map (fun x => peel (aev fr x)) ++ cap = args) {r : AV} (h : c = true → APure P F args r)
    (hok : okS c (aev fr f) = true ∧ ∀ x ∈ aa.toList, okS c (aev fr x) = true) (hcl : ∀ a ∈ args, Cl a) (hr : Cl r)
    (hk : Shut (ARun P D ops Q mu rest (aput fr o.dst (.opt c r)) σ)) : AWL P D ops Q (o :: rest) fr σ :=
  awl_opq_guard hg (fun e => opq_pure ho (by rw [strip_peel hok.1]; exact hf) hc (by rw [strip_mapL hok.2]; exact ha) (h e) hcl hr fun _ _ => rfl) (awl_run' mu hk)
theorem yl_pureG {K : List AV → Prop} {o : Oper} {rest : List Oper} {f : Operand} {aa : Array Operand} {ts : Array TypeId} (ho : o.op = .call { callee := .value f, args := aa, argTypes := ts }) {c : Bool} (hg : gcond ops o fr = some c)
    {F : FuncId} {first cap : List AV} (hf : acallee (peel (aev fr f)) = some (F, first, cap)) (hc : callable P F = true) {args : List AV} (ha : first ++ aa.toList.map (fun x => peel (aev fr x)) ++ cap = args) {r : AV} (h : c = true → APure P F args r)
    (hok : okS c (aev fr f) = true ∧ ∀ x ∈ aa.toList, okS c (aev fr x) = true) (hcl : ∀ a ∈ args, Cl a) (hr : Cl r)
    (hk : Shut (YRun P ops σ K rest (aput fr o.dst (.opt c r)))) : YL P ops σ K (o :: rest) fr :=
  yl_pure_guard ho hg (by rw [strip_peel hok.1]; exact hf) hc (by rw [strip_mapL hok.2]; exact ha) h hcl hr hk
attribute [simp] okS peel
theorem awl_skip' {o : Oper} {rest : List Oper} (mu : List Nat) (hw : awanted ops o fr = some false) (hk : Shut (ARun P D ops Q mu rest (aput fr o.dst (.p undef)) σ)) : AWL P D ops Q (o :: rest) fr σ := awl_skip hw (awl_run' mu hk)
@[simp high] theorem apick2_true (x y : AV) : apick2 true x y = x := by unfold apick2; split <;> simp [bpick]
@[simp high] theorem apick2_false (x y : AV) : apick2 false x y = y := by unfold apick2; split <;> simp [bpick]
/-! ### what is closed -/
@[simp] theorem cl_p (x : Value) : Cl (.p x) := .p x
@[simp] theorem cl_any : Cl .any := .any
@[simp] theorem cl_agg (l : List AV) : Cl (.agg l) ↔ ∀ c ∈ l, Cl c := ⟨fun h => by cases h; assumption, .agg l⟩
@[simp] theorem cl_tup (l : List AV) : Cl (.tup l) ↔ ∀ c ∈ l, Cl c := ⟨fun h => by cases h; assumption, .tup l⟩
@[simp] theorem cl_vsl (l : List AV) : Cl (.vsl l) ↔ ∀ c ∈ l, Cl c := ⟨fun h => by cases h; assumption, .vsl l⟩
@[simp] theorem cl_vel (l : List AV) (i o : Nat) : Cl (.vel l i o) ↔ ∀ c ∈ l, Cl c := ⟨fun h => by cases h; assumption, .vel l i o⟩
@[simp] theorem cl_ifc (t : TypeId) (v : AV) : Cl (.ifc t v) ↔ Cl v := ⟨fun h => by cases h; assumption, .ifc t v⟩
@[simp] theorem cl_opt (b : Bool) (v : AV) : Cl (.opt b v) ↔ Cl v := ⟨fun h => by cases h; assumption, .opt b v⟩
@[simp] theorem cl_fn (f : Fn) (a b : List AV) : Cl (.fn f a b) ↔ (∀ c ∈ a, Cl c) ∧ ∀ c ∈ b, Cl c := ⟨fun h => by cases h with | fn _ _ _ h1 h2 => exact ⟨h1, h2⟩, fun h => .fn f a b h.1 h.2⟩
@[simp] theorem σ0_next : σ0.next = 0 := rfl
end Go.AL
