/- Parts of the proof of ArenaStays: the logic, contracts, plain laws. -/
import Derived.Test.YtofopejmidlceaaDoorZArenaStays5
import Derived.IntWalk
/-! The run of what is plain: one function over all operations but calls. -/
namespace Go.AL
set_option linter.unusedVariables false
set_option linter.unusedSimpArgs false
variable {P : Program} {σ : ASt} {R : AV → ASt → Prop} {D : List Deferred} {Q : Exit → List AV → ASt → Prop} {fr : List AV}
def abuiltin (P : Program) (σ : ASt) (b : Builtin) (xs : List AV) (ts : List TypeId) : Option Value :=
  match b with
  | .len => match xs, ts with
    | [x], [t] => (alen P σ t x).map fun n => .int .i64 n
    | _, _ => none
  | .min => match xs with
    | [x, y] => amm false x y
    | _ => none
  | .max => match xs with
    | [x, y] => amm true x y
    | _ => none
  | _ => none
/-- What an operation makes (mu: the variables that are written). -/
def aop (P : Program) (mu : List Nat) (o : Oper) (ρ : Operand → AV) (σ : ASt) : Option (AV × ASt) :=
  match o.op with
  | .move x => some (ρ x, σ)
  | .assign x => some (ρ x, σ)
  | .pick c a b => match ρ c with | .p (.bool t) => some (apick t (ρ a) (ρ b), σ) | _ => none
  | .load t x => (aload P σ t (ρ x)).map fun r => (r, σ)
  | .field s x f => (afield P s f (ρ x)).map fun r => (r, σ)
  | .fieldAddr s x f => (afieldAddr P s f (ρ x)).map fun r => (r, σ)
  | .extract x i => match ρ x with | .tup cs => (cs[i]?).map fun r => (r, σ) | _ => none
  | .makeInterface t x => if isIface P t = false then some (.ifc t (ρ x), σ) else none
  | .nilCheck x => if anilCheck (ρ x) = true then some (ρ x, σ) else none
  | .binOp op t x y _ => if tkind P t = 3 → isConstO y = true then (abinS P op t (ρ x) (ρ y)).map fun r => (.p r, σ) else none
  | .unOp op _ x => (aun op (ρ x)).map fun r => (.p r, σ)
  | .convert s d x => (aconvA P s d (ρ x)).map fun r => (r, σ)
  | .index t x i => (aindexS P t (ρ x) (ρ i)).map fun r => (.p r, σ)
  | .indexAddr t x i => (aindexAddr P σ t (ρ x) (ρ i)).map fun r => (r, σ)
  | .slice t x lo hi none => (aslice P σ t (ρ x) (lo.map ρ) (hi.map ρ)).map fun r => (r, σ)
  | .box _ x => if AV.okv (ρ x) = true then (match o.dst with | some d => if d ∈ mu then some (.ptr σ.next 0, σ.addBx (ρ x).cells) else some (.vel [ρ x] 0 0, σ) | none => none) else none
  | .alloc t => (tzero P t).bind fun z => if AV.okv z = true then (match o.dst with | some d => if d ∈ mu then some (.ptr σ.next 0, σ.addBx z.cells) else some (.vel [z] 0 0, σ) | none => none) else none
  | .store t x y => (astore P σ t (ρ x) (ρ y)).map fun τ => (.p undef, τ)
  | .build t ps => (abuild P t (ps.toList.map fun q => (q.1, ρ q.2))).map fun r => (r, σ)
  | .buildSlice t len ps => (abuildS P t len (ps.toList.map fun q => (q.1, ρ q.2))).bind fun es => match o.dst with | some d => if d ∈ mu then some (.hsl σ.next 0 es.length, σ.addSl es) else some (.vsl es, σ) | none => none
  | .makeFunc f aa bs => some (.fn f (aa.toList.map ρ) (bs.toList.map ρ), σ)
  | .call c => match c.callee with
    | .builtin b => (abuiltin P σ b (c.args.toList.map ρ) c.argTypes.toList).map fun r => (.p r, σ)
    | _ => none
  | _ => none
theorem opq_makeFunc {o : Oper} {ρ : Operand → AV} {f : Fn} {aa bs : Array Operand} (ho : o.op = .makeFunc f aa bs) (hr : R (.fn f (aa.toList.map ρ) (bs.toList.map ρ)) σ) : OpQ P o ρ σ R := by
  refine opq_val _ hr fun G e w he hw => ⟨.func f (aa.map e) (bs.map e), by simp [execOp, ho, Instr.makeFunc], .fn f _ _ _ _ (by simp) (by simp) (fun i c v hc hv => ?_) (fun i c v hc hv => ?_)⟩
  · simp only [List.getElem?_map, Option.map_eq_some_iff] at hc
    obtain ⟨a, ha, rfl⟩ := hc
    simp only [Array.getElem?_map, Option.map_eq_some_iff] at hv
    obtain ⟨b, hb, rfl⟩ := hv
    rw [Array.getElem?_toList] at ha
    obtain rfl := Option.some.inj (ha.symm.trans hb)
    exact he _
  · simp only [List.getElem?_map, Option.map_eq_some_iff] at hc
    obtain ⟨a, ha, rfl⟩ := hc
    simp only [Array.getElem?_map, Option.map_eq_some_iff] at hv
    obtain ⟨b, hb, rfl⟩ := hv
    rw [Array.getElem?_toList] at ha
    obtain rfl := Option.some.inj (ha.symm.trans hb)
    exact he _
theorem opq_builtin {o : Oper} {ρ : Operand → AV} {b : Builtin} {args : Array Operand} {ts : Array TypeId} (ho : o.op = .call { callee := .builtin b, args := args, argTypes := ts }) {v : Value} (h : abuiltin P σ b (args.toList.map ρ) ts.toList = some v) (hr : R (.p v) σ) : OpQ P o ρ σ R := by
  obtain ⟨args⟩ := args
  obtain ⟨ts⟩ := ts
  unfold abuiltin at h
  split at h
  · split at h
    · rename_i x t hx ht
      obtain ⟨n, hn, rfl⟩ := Option.map_eq_some_iff.1 h
      cases args with
      | nil => simp at hx
      | cons a args =>
        cases args with
        | nil =>
          simp only [List.map_cons, List.map_nil, List.cons.injEq, and_true] at hx ht
          subst hx
          subst ht
          exact opq_len ho hn hr
        | cons _ _ => simp at hx
    · cases h
  · split at h
    · rename_i x y hx
      cases args with
      | nil => simp at hx
      | cons a args =>
        cases args with
        | nil => simp at hx
        | cons a2 args =>
          cases args with
          | nil =>
            simp only [List.map_cons, List.map_nil, List.cons.injEq, and_true] at hx
            obtain ⟨rfl, rfl⟩ := hx
            exact opq_mm (mx := false) ho h hr
          | cons _ _ => simp at hx
    · cases h
  · split at h
    · rename_i x y hx
      cases args with
      | nil => simp at hx
      | cons a args =>
        cases args with
        | nil => simp at hx
        | cons a2 args =>
          cases args with
          | nil =>
            simp only [List.map_cons, List.map_nil, List.cons.injEq, and_true] at hx
            obtain ⟨rfl, rfl⟩ := hx
            exact opq_mm (mx := true) ho h hr
          | cons _ _ => simp at hx
    · cases h
  · cases h
theorem opq_aop {mu : List Nat} {o : Oper} {ρ : Operand → AV} {r : AV} {τ : ASt} (h : aop P mu o ρ σ = some (r, τ)) (hr : R r τ) : OpQ P o ρ σ R := by
  have one : ∀ {x : Option AV} {f : AV → AV}, (x.map fun r => (f r, σ)) = some (r, τ) → ∃ y, x = some y ∧ f y = r ∧ σ = τ := by
    intro x f h
    obtain ⟨y, hy, he⟩ := Option.map_eq_some_iff.1 h
    simp only [Prod.mk.injEq] at he
    exact ⟨y, hy, he.1, he.2⟩
  have onev : ∀ {x : Option Value}, (x.map fun r => (AV.p r, σ)) = some (r, τ) → ∃ y, x = some y ∧ AV.p y = r ∧ σ = τ := by
    intro x h
    obtain ⟨y, hy, he⟩ := Option.map_eq_some_iff.1 h
    simp only [Prod.mk.injEq] at he
    exact ⟨y, hy, he.1, he.2⟩
  unfold aop at h
  split at h <;> rename_i ho
  · simp only [Option.some.injEq, Prod.mk.injEq] at h
    obtain ⟨rfl, rfl⟩ := h
    exact opq_move (.inl ho) hr
  · simp only [Option.some.injEq, Prod.mk.injEq] at h
    obtain ⟨rfl, rfl⟩ := h
    exact opq_move (.inr ho) hr
  · split at h
    · rename_i hc
      simp only [Option.some.injEq, Prod.mk.injEq] at h
      obtain ⟨rfl, rfl⟩ := h
      exact opq_pick ho hc hr
    · cases h
  · obtain ⟨y, hy, rfl, rfl⟩ := one (f := id) h; exact opq_load ho hy hr
  · obtain ⟨y, hy, rfl, rfl⟩ := one (f := id) h; exact opq_field ho hy hr
  · obtain ⟨y, hy, rfl, rfl⟩ := one (f := id) h; exact opq_fieldAddr ho hy hr
  · split at h
    · rename_i hc
      obtain ⟨y, hy, rfl, rfl⟩ := one (f := id) h; exact opq_extract ho hc hy hr
    · cases h
  · obtain ⟨hi, h⟩ := ite_some' h
    simp only [Option.some.injEq, Prod.mk.injEq] at h
    obtain ⟨rfl, rfl⟩ := h
    exact opq_makeInterface ho hi hr
  · obtain ⟨hi, h⟩ := ite_some' h
    simp only [Option.some.injEq, Prod.mk.injEq] at h
    obtain ⟨rfl, rfl⟩ := h
    exact opq_nilCheck ho hi hr
  · obtain ⟨hi, h⟩ := ite_some' h
    obtain ⟨y, hy, rfl, rfl⟩ := onev h; exact opq_binOpS ho hy hi hr
  · obtain ⟨y, hy, rfl, rfl⟩ := onev h; exact opq_unOp ho hy hr
  · obtain ⟨y, hy, rfl, rfl⟩ := one h; exact opq_convertA ho hy hr
  · obtain ⟨y, hy, rfl, rfl⟩ := onev h; exact opq_indexS ho hy hr
  · obtain ⟨y, hy, rfl, rfl⟩ := one (f := id) h; exact opq_indexAddr ho hy hr
  · obtain ⟨y, hy, rfl, rfl⟩ := one (f := id) h; exact opq_slice ho hy hr
  · obtain ⟨hi, h⟩ := ite_some' h
    split at h
    · split at h
      · simp only [Option.some.injEq, Prod.mk.injEq] at h
        obtain ⟨rfl, rfl⟩ := h
        exact opq_box_mut ho hi hr
      · simp only [Option.some.injEq, Prod.mk.injEq] at h
        obtain ⟨rfl, rfl⟩ := h
        exact opq_box_ro ho hi hr
    · cases h
  · obtain ⟨z, hz, h⟩ := Option.bind_eq_some_iff.1 h
    obtain ⟨hi, h⟩ := ite_some' h
    split at h
    · split at h
      · simp only [Option.some.injEq, Prod.mk.injEq] at h
        obtain ⟨rfl, rfl⟩ := h
        exact opq_alloc_mut ho hz hi hr
      · simp only [Option.some.injEq, Prod.mk.injEq] at h
        obtain ⟨rfl, rfl⟩ := h
        exact opq_alloc_ro ho hz hi hr
    · cases h
  · obtain ⟨y, hy, he⟩ := Option.map_eq_some_iff.1 h
    simp only [Prod.mk.injEq] at he
    obtain ⟨rfl, rfl⟩ := he
    exact opq_store ho hy hr
  · obtain ⟨y, hy, rfl, rfl⟩ := one (f := id) h; exact opq_build ho hy hr
  · obtain ⟨es, hes, h⟩ := Option.bind_eq_some_iff.1 h
    split at h
    · split at h
      · simp only [Option.some.injEq, Prod.mk.injEq] at h
        obtain ⟨rfl, rfl⟩ := h
        exact opq_buildSlice_mut ho hes hr
      · simp only [Option.some.injEq, Prod.mk.injEq] at h
        obtain ⟨rfl, rfl⟩ := h
        exact opq_buildSlice_ro ho hes hr
    · cases h
  · simp only [Option.some.injEq, Prod.mk.injEq] at h
    obtain ⟨rfl, rfl⟩ := h
    exact opq_makeFunc ho hr
  · rename_i c
    split at h
    · rename_i b hb
      obtain ⟨y, hy, rfl, rfl⟩ := onev h
      obtain ⟨ce, args, ts⟩ := c
      have hb : ce = .builtin b := hb
      subst hb
      exact opq_builtin ho hy hr
    · cases h
  · cases h
/-- What an operation makes that leaves what is known as it is. -/
def aopP (P : Program) (o : Oper) (ρ : Operand → AV) (σ : ASt) : Option AV :=
  match o.op with
  | .store _ _ _ => none
  | _ => (aop P [] o ρ σ).map (·.1)
theorem aopP_spec {o : Oper} {ρ : Operand → AV} {r : AV} (h : aopP P o ρ σ = some r) : aop P [] o ρ σ = some (r, σ) := by
  unfold aopP at h
  split at h
  · cases h
  · rename_i hns
    obtain ⟨⟨r', τ⟩, h1, rfl⟩ := Option.map_eq_some_iff.1 h
    rw [h1]
    have : τ = σ := by
      unfold aop at h1
      split at h1
      case h_18 => rename_i t x y ho; exact absurd ho (hns t x y)
      all_goals first
        | (simp only [Option.some.injEq, Prod.mk.injEq] at h1; exact h1.2.symm)
        | (obtain ⟨y, hy, he⟩ := Option.map_eq_some_iff.1 h1; simp only [Prod.mk.injEq] at he; exact he.2.symm)
        | (split at h1 <;> first
            | (simp only [Option.some.injEq, Prod.mk.injEq] at h1; exact h1.2.symm)
            | (obtain ⟨y, hy, he⟩ := Option.map_eq_some_iff.1 h1; simp only [Prod.mk.injEq] at he; exact he.2.symm)
            | (split at h1 <;> first | (simp only [List.not_mem_nil, if_false, Option.some.injEq, Prod.mk.injEq] at h1; exact h1.2.symm) | cases h1)
            | cases h1)
        | (obtain ⟨z, hz, h1⟩ := Option.bind_eq_some_iff.1 h1
           first
           | (obtain ⟨_, h1⟩ := ite_some' h1
              split at h1
              · simp only [List.not_mem_nil, if_false, Option.some.injEq, Prod.mk.injEq] at h1; exact h1.2.symm
              · cases h1)
           | (split at h1
              · simp only [List.not_mem_nil, if_false, Option.some.injEq, Prod.mk.injEq] at h1; exact h1.2.symm
              · cases h1))
        | cases h1
    rw [this]
/-- When it is carried out, if that hangs on one known value. -/
def gcond (ops : Array Oper) (o : Oper) (fr : List AV) : Option Bool :=
  match o.guard with
  | none => none
  | some (j, want) =>
    match (ops[j]?).bind (·.dst) with
    | none => none
    | some d => match fget fr d with
      | .p (.bool b) => some (if want = true then b else !b)
      | .opt c (.p (.bool b)) => some (c && (if want = true then b else !b))
      | .opt false _ => some false
      | _ => none
theorem gcond_spec {ops : Array Oper} {o : Oper} {fr : List AV} {c : Bool} (h : gcond ops o fr = some c) {G w D a} {σ : ASt} (hs : Sim G fr σ D a w) : Region.wanted o (yielded ops a.tmps) = c := by
  unfold gcond at h
  unfold Region.wanted
  cases hg : o.guard with
  | none => rw [hg] at h; cases h
  | some jw =>
    obtain ⟨j, want⟩ := jw
    rw [hg] at h
    simp only at h ⊢
    unfold yielded
    cases hd : (ops[j]?).bind (·.dst) with
    | none => rw [hd] at h; cases h
    | some d =>
      rw [hd] at h
      simp only [Option.bind_some] at h ⊢
      have hr := hs.ev (.tmp d)
      simp only [aev, Act.eval] at hr
      have key : ∀ v, Rep G w (fget fr d) v → ((match v with | .bool b => some b | _ => none : Option Bool) == some want) = c := by
        intro v hr
        split at h
        · rename_i b hf
          rw [hf] at hr
          cases hr
          obtain rfl := Option.some.inj h
          cases b <;> cases want <;> rfl
        · rename_i c' b hf
          rw [hf] at hr
          obtain rfl := Option.some.inj h
          cases hr with
          | opt _ _ _ h1 h0 =>
            cases c' with
            | false => rw [h0 rfl]; rfl
            | true =>
              have := h1 rfl
              cases this
              cases b <;> cases want <;> rfl
        · rename_i v' _ hf
          rw [hf] at hr
          obtain rfl := Option.some.inj h
          cases hr with
          | opt _ _ _ h1 h0 => rw [h0 rfl]; rfl
        · cases h
      have h2 := key _ hr
      rw [Array.getD_eq_getD_getElem?] at h2
      cases hv : a.tmps[d]? with
      | none => rw [hv] at h2; exact h2
      | some v =>
        rw [hv] at h2
        simp only [Option.getD_some] at h2
        cases v <;> exact h2
/-- A step that is not looked into but by its own rules. -/
inductive Shut (p : Prop) : Prop where
  | mk (h : p) : Shut p
theorem Shut.out {p : Prop} (h : Shut p) : p := h.1
/-- As far as it goes. -/
def ARun (P : Program) (D : List Deferred) (ops : Array Oper) (Q : Exit → List AV → ASt → Prop) (mu : List Nat) : List Oper → List AV → ASt → Prop
  | [], fr, σ => Q .normal fr σ
  | o :: rest, fr, σ =>
    match o.guard with
    | none =>
      match aop P mu o (aev fr) σ with
      | some (r, τ) => Shut (ARun P D ops Q mu rest (aput fr o.dst r) τ)
      | none => AWL P D ops Q (o :: rest) fr σ
    | some _ =>
      match gcond ops o fr with
      | some c =>
        match aopP P o (fun x => strip c (aev fr x)) σ with
        | some r => Shut (ARun P D ops Q mu rest (aput fr o.dst (.opt c r)) σ)
        | none => AWL P D ops Q (o :: rest) fr σ
      | none => if awanted ops o fr = some false then Shut (ARun P D ops Q mu rest (aput fr o.dst (.p undef)) σ) else AWL P D ops Q (o :: rest) fr σ
theorem shut_nil {ops : Array Oper} {mu : List Nat} : Shut (ARun P D ops Q mu [] fr σ) ↔ Q .normal fr σ := ⟨fun h => h.1, fun h => ⟨h⟩⟩
theorem shut_cons {ops : Array Oper} {mu : List Nat} {o : Oper} {rest : List Oper} : Shut (ARun P D ops Q mu (o :: rest) fr σ) ↔ (match o.guard with
    | none =>
      match aop P mu o (aev fr) σ with
      | some (r, τ) => Shut (ARun P D ops Q mu rest (aput fr o.dst r) τ)
      | none => AWL P D ops Q (o :: rest) fr σ
    | some _ =>
      match gcond ops o fr with
      | some c =>
        match aopP P o (fun x => strip c (aev fr x)) σ with
        | some r => Shut (ARun P D ops Q mu rest (aput fr o.dst (.opt c r)) σ)
        | none => AWL P D ops Q (o :: rest) fr σ
      | none => if awanted ops o fr = some false then Shut (ARun P D ops Q mu rest (aput fr o.dst (.p undef)) σ) else AWL P D ops Q (o :: rest) fr σ) := ⟨fun h => h.1, fun h => ⟨h⟩⟩
theorem awl_spec {ops : Array Oper} {o : Oper} {rest : List Oper} {c : Bool} (hc : gcond ops o fr = some c) {r : AV} (h : aopP P o (fun x => strip c (aev fr x)) σ = some r) (hk : AWL P D ops Q rest (aput fr o.dst (.opt c r)) σ) : AWL P D ops Q (o :: rest) fr σ := by
  intro G a w hs
  have hw := gcond_spec hc hs
  unfold wpList
  cases c with
  | false =>
    rw [if_neg (by rw [hw]; simp)]
    exact hk G (a.put o.dst undef) w (hs.put o.dst (.opt false r undef (fun e => by cases e) (fun _ => rfl)))
  | true =>
    rw [if_pos hw]
    have hq := opq_aop (R := fun r' σ' => r' = r ∧ σ' = σ) (aopP_spec h) ⟨rfl, rfl⟩ G a.eval w (fun x => strip_rep rfl (hs.ev x)) hs.w
    unfold wpO
    have key : ∀ v w', Outc G w (fun r' σ' => r' = r ∧ σ' = σ) v w' → wpList P ops (lift G w D Q) rest (a.put o.dst v) w' := by
      rintro v w' ⟨r', G', σ', hl, hw', hr, rfl, rfl⟩
      have := hk G' (a.put o.dst v) w' ((hs.le hl hw').put o.dst (.opt true r' v (fun _ => hr) (fun e => by cases e)))
      exact wpList_weaken (fun e a w h => lift_le hl h) rest _ _ this
    generalize (execOp a.eval o).run P w = n at hq
    cases n with
    | halt => exact hq.elim
    | ok n w' =>
      cases n with
      | value v => exact key v w' hq
      | skip => exact key undef w' hq
      | enter f args =>
        refine Calls.mono hq fun e w'' he => ?_
        cases e with
        | returned v => exact key v w'' he
        | panicked c => exact he.elim
        | outgrown => exact he.elim
      | round l f tmps assign body =>
        refine RoundIn.mono hq fun e w'' he => ?_
        cases e with
        | returned v => exact key v w'' he
        | panicked c => exact he.elim
        | outgrown => exact he.elim
      | _ => exact hq.elim
theorem awl_run (mu : List Nat) {ops : Array Oper} : ∀ {l : List Oper} {fr : List AV} {σ : ASt}, ARun P D ops Q mu l fr σ → AWL P D ops Q l fr σ
  | [], fr, σ, h => awl_nil h
  | o :: rest, fr, σ, h => by
    unfold ARun at h
    split at h
    · rename_i hg
      have hw : awanted ops o fr = some true := by unfold awanted; rw [hg]
      split at h
      · rename_i r τ he
        exact awl_cons hw (opq_aop he (awl_run mu h.out))
      · exact h
    · split at h
      · rename_i c hc
        split at h
        · rename_i r he
          exact awl_spec hc he (awl_run mu h.out)
        · exact h
      · split at h
        · rename_i hw
          exact awl_skip hw (awl_run mu h.out)
        · exact h
theorem aw_run (mu : List Nat) {id : Nat} {l : List Oper} (h : Shut (ARun P D l.toArray Q mu l fr σ)) : AW P D (.region id l.toArray false) Q fr σ := aw_region (awl_run mu h.out)
theorem awl_run' (mu : List Nat) {ops : Array Oper} {l : List Oper} (h : Shut (ARun P D ops Q mu l fr σ)) : AWL P D ops Q l fr σ := awl_run mu h.out
/-- A call of a pure function. -/
theorem awl_pure {ops : Array Oper} {o : Oper} {rest : List Oper} {f : Operand} {aa : Array Operand} {ts : Array TypeId} (ho : o.op = .call { callee := .value f, args := aa, argTypes := ts }) (hw : awanted ops o fr = some true)
    {F : FuncId} {first cap : List AV} (hf : acallee (aev fr f) = some (F, first, cap)) (hc : callable P F = true) {args : List AV} (ha : first ++ aa.toList.map (aev fr) ++ cap = args) {r : AV} (h : APure P F args r) (hcl : ∀ a ∈ args, Cl a) (hr : Cl r)
    (hk : AWL P D ops Q rest (aput fr o.dst r) σ) : AWL P D ops Q (o :: rest) fr σ :=
  awl_cons hw (opq_call ho hf hc (by rw [ha]; exact (h.call hcl hr σ).mono fun r' σ' ⟨e1, e2⟩ => by subst e1; subst e2; exact hk))
/-- A call by a contract. -/
theorem awl_call {ops : Array Oper} {o : Oper} {rest : List Oper} {f : Operand} {aa : Array Operand} {ts : Array TypeId} (ho : o.op = .call { callee := .value f, args := aa, argTypes := ts }) (hw : awanted ops o fr = some true)
    {F : FuncId} {first cap : List AV} (hf : acallee (aev fr f) = some (F, first, cap)) (hc : callable P F = true) {R : AV → ASt → Prop} (h : ACall P F (first ++ aa.toList.map (aev fr) ++ cap) σ R)
    (hk : ∀ r τ, R r τ → AWL P D ops Q rest (aput fr o.dst r) τ) : AWL P D ops Q (o :: rest) fr σ :=
  awl_cons hw (opq_call ho hf hc (h.mono hk))
end Go.AL
/-! Regions that draw their order, if what they do leaves what is known as it is: the order of the text serves for all. -/
namespace Go.AL
set_option linter.unusedVariables false
set_option linter.unusedSimpArgs false
variable {P : Program} {σ : ASt} {R : AV → ASt → Prop} {D : List Deferred} {Q : Exit → List AV → ASt → Prop} {fr : List AV} {ops : Array Oper}
theorem aop_congr {mu : List Nat} {o : Oper} {ρ ρ' : Operand → AV} (h : ∀ x ∈ o.op.operands, ρ x = ρ' x) : aop P mu o ρ σ = aop P mu o ρ' σ := by
  have pairs : ∀ ps : Array (Nat × Operand), (∀ x ∈ ps.map (·.2), ρ x = ρ' x) → (ps.toList.map fun q => (q.1, ρ q.2)) = ps.toList.map fun q => (q.1, ρ' q.2) := fun ps hp =>
    List.map_congr_left fun p hm => by rw [hp p.2 (Array.mem_map.2 ⟨p, by simpa using hm, rfl⟩)]
  have lst : ∀ ps : Array Operand, (∀ x ∈ ps, ρ x = ρ' x) → ps.toList.map ρ = ps.toList.map ρ' := fun ps hp => List.map_congr_left fun p hm => hp p (by simpa using hm)
  obtain ⟨dst, op, type, pos, after, guard⟩ := o
  cases op <;> simp only [Op.operands] at h <;> unfold aop <;> dsimp only
  case build t ps => rw [pairs ps fun x hx => h x (by simpa using hx)]
  case buildSlice t n ps => rw [pairs ps fun x hx => h x (by simpa using hx)]
  case makeFunc fn first captured => rw [lst first fun x hx => h x (by simp [hx]), lst captured fun x hx => h x (by simp [hx])]
  case call c =>
    cases hc : c.callee with
    | builtin b => dsimp only; rw [lst c.args fun x hx => h x (by simp [Call.operands, hx])]
    | value f => rfl
    | invoke r m => rfl
  case slice t x lo hi mx => cases lo <;> cases hi <;> cases mx <;> simp_all
  all_goals (first | rfl | (simp_all; done))
theorem aopP_congr {o : Oper} {ρ ρ' : Operand → AV} (h : ∀ x ∈ o.op.operands, ρ x = ρ' x) : aopP P o ρ σ = aopP P o ρ' σ := by
  unfold aopP
  split
  · rfl
  · rw [aop_congr h]
/-- What an operation leaves in its slot, in whatever frame agrees with this one where it looks. -/
def Yld (P : Program) (ops : Array Oper) (σ : ASt) (o : Oper) (fr : List AV) (r : AV) : Prop :=
  ∀ G (a : Act) w, (∀ t ∈ o.looksAt ops, Rep G w (fget fr t) (a.eval (.tmp t))) → SimW G σ w →
    (Region.wanted o (yielded ops a.tmps) = true → OutcN P G w (fun r' σ' => r' = r ∧ σ' = σ) ((execOp a.eval o).run P w)) ∧ (Region.wanted o (yielded ops a.tmps) = false → Rep G w r undef)
theorem looks_op {o : Oper} {t : Nat} (h : Operand.tmp t ∈ o.op.operands) : t ∈ o.looksAt ops :=
  List.mem_append_left _ (List.mem_filterMap.2 ⟨.tmp t, by simpa using h, rfl⟩)
theorem fget_fset_ne : ∀ (l : List AV) (d t : Nat) (v : AV), t ≠ d → fget (fset l d v) t = fget l t
  | [], _, _, _, _ => rfl
  | _ :: _, 0, 0, _, h => absurd rfl h
  | _ :: _, 0, _ + 1, _, _ => rfl
  | _ :: _, _ + 1, 0, _, _ => rfl
  | _ :: l, d + 1, t + 1, v, h => by rw [fset, fget, fget]; exact fget_fset_ne l d t v (by omega)
theorem fset_comm : ∀ (l : List AV) (d e : Nat) (v u : AV), d ≠ e → fset (fset l d v) e u = fset (fset l e u) d v
  | [], _, _, _, _, _ => rfl
  | _ :: _, 0, 0, _, _, h => absurd rfl h
  | _ :: _, 0, _ + 1, _, _, _ => rfl
  | _ :: _, _ + 1, 0, _, _, _ => rfl
  | _ :: l, d + 1, e + 1, v, u, h => by simp only [fset]; rw [fset_comm l d e v u (by omega)]
theorem Yld.put {o : Oper} {r : AV} {d : Option Tmp} {v : AV} (hd : ∀ x, d = some x → x ∉ o.looksAt ops) : Yld P ops σ o (aput fr d v) r ↔ Yld P ops σ o fr r := by
  have e : ∀ t ∈ o.looksAt ops, fget (aput fr d v) t = fget fr t := by
    intro t ht
    cases d with
    | none => rfl
    | some x => exact fget_fset_ne fr x t v fun e => hd x rfl (e ▸ ht)
  constructor
  · intro h G a w ha hw
    exact h G a w (fun t ht => by rw [e t ht]; exact ha t ht) hw
  · intro h G a w ha hw
    exact h G a w (fun t ht => by rw [← e t ht]; exact ha t ht) hw
theorem aput_comm (fr : List AV) {x y : Option Tmp} (v u : AV) (h : ∀ d, x = some d → y ≠ some d) : aput (aput fr x v) y u = aput (aput fr y u) x v := by
  cases x with
  | none => rfl
  | some d =>
    cases y with
    | none => rfl
    | some e => exact fset_comm fr d e v u fun he => h d rfl (he ▸ rfl)
/-- Operation number i comes up. -/
def yOp (P : Program) (ops : Array Oper) (σ : ASt) (i : Nat) (K : List AV → Prop) (fr : List AV) : Prop :=
  match ops[i]? with
  | none => K fr
  | some o => ∃ r, Yld P ops σ o fr r ∧ K (aput fr o.dst r)
def anyY (P : Program) (md : Region.Mode) (ops : Array Oper) (σ : ASt) (K : List AV → Prop) : Nat → Array Bool → List AV → Prop
  | 0, listed, fr => Region.ready md ops listed = [] ∧ K fr
  | fuel + 1, listed, fr => (Region.ready md ops listed = [] → K fr) ∧ ∀ i ∈ Region.ready md ops listed, yOp P ops σ i (anyY P md ops σ K fuel (listed.setIfInBounds i true)) fr
theorem yOp_mono {i : Nat} {K K' : List AV → Prop} (h : ∀ fr, K fr → K' fr) (hh : yOp P ops σ i K fr) : yOp P ops σ i K' fr := by
  unfold yOp at *
  split
  · rename_i ho; simp only [ho] at hh; exact h _ hh
  · rename_i o ho
    simp only [ho] at hh
    obtain ⟨r, h1, h2⟩ := hh
    exact ⟨r, h1, h _ h2⟩
theorem wpAny_of_anyY {md : Region.Mode} {K : List AV → Prop} {D : List Deferred} {Q : Exit → List AV → ASt → Prop} (hK : ∀ fr, K fr → Q .normal fr σ) : ∀ (fuel : Nat) (listed : Array Bool) (fr : List AV) (G : Ghost) (a : Act) (w : World) (G0 : Ghost) (w0 : World),
    Le G0 w0 G w → Sim G fr σ D a w → anyY P md ops σ K fuel listed fr → wpAny P md ops (lift G0 w0 D Q) fuel listed a w
  | 0, _, fr, G, a, w, G0, w0, hl, hs, h => ⟨h.1, G, fr, σ, hl, hs, hK _ h.2⟩
  | fuel + 1, listed, fr, G, a, w, G0, w0, hl, hs, h => by
    refine ⟨fun h0 => ⟨G, fr, σ, hl, hs, hK _ (h.1 h0)⟩, fun i hi => ?_⟩
    have hy := h.2 i hi
    unfold yOp at hy
    unfold wpOp
    split
    · rename_i ho
      simp only [ho] at hy
      exact wpAny_of_anyY hK fuel _ fr G a w G0 w0 hl hs hy
    · rename_i o ho
      simp only [ho] at hy
      obtain ⟨r, hr, hk⟩ := hy
      have hyl := hr G a w (fun t _ => hs.ev (.tmp t)) hs.w
      by_cases hw : Region.wanted o (yielded ops a.tmps) = true
      · rw [if_pos hw]
        have hq := hyl.1 hw
        unfold wpO
        have key : ∀ v w', Outc G w (fun r' σ' => r' = r ∧ σ' = σ) v w' → wpAny P md ops (lift G0 w0 D Q) fuel (listed.setIfInBounds i true) (a.put o.dst v) w' := by
          rintro v w' ⟨r', G', σ', hl', hw', hr', e1, e2⟩
          rw [e1] at hr'
          rw [e2] at hw'
          exact wpAny_of_anyY hK fuel _ _ G' _ w' G0 w0 (hl.trans hl') ((hs.le hl' hw').put o.dst hr') hk
        generalize (execOp a.eval o).run P w = n at hq
        cases n with
        | halt => exact hq.elim
        | ok n w' =>
          cases n with
          | value v => exact key v w' hq
          | skip => exact key undef w' hq
          | enter f args =>
            refine Calls.mono hq fun e w'' he => ?_
            cases e with
            | returned v => exact key v w'' he
            | panicked c => exact he.elim
            | outgrown => exact he.elim
          | round l f tmps assign body =>
            refine RoundIn.mono hq fun e w'' he => ?_
            cases e with
            | returned v => exact key v w'' he
            | panicked c => exact he.elim
            | outgrown => exact he.elim
          | _ => exact hq.elim
      · rw [if_neg hw]
        have hu := hyl.2 (by simpa using hw)
        exact wpAny_of_anyY hK fuel _ _ G _ w G0 w0 hl (hs.put o.dst hu) hk
theorem yOp_put {j : Nat} {oi oj : Oper} {v : AV} (hj : ops[j]? = some oj) (hap : oi.apart ops oj = true) {K : List AV → Prop} (hy : Yld P ops σ oi fr v) (h : yOp P ops σ j K (aput fr oi.dst v)) :
    yOp P ops σ j (fun fr' => Yld P ops σ oi fr' v ∧ K (aput fr' oi.dst v)) fr := by
  obtain ⟨h1, h2, h3⟩ := Oper.apart_spec hap
  unfold yOp at *
  simp only [hj] at *
  obtain ⟨r, hr, hk⟩ := h
  refine ⟨r, (Yld.put h1).1 hr, (Yld.put h3).2 hy, ?_⟩
  rw [← aput_comm fr v r h2]
  exact hk
theorem anyY_first {md : Region.Mode} {K : List AV → Prop} {i : Nat} {oi : Oper} {v : AV} (hi : ops[i]? = some oi) : ∀ (fuel : Nat) (listed : Array Bool) (fr : List AV),
      (∀ j oj, ops[j]? = some oj → j ≠ i → listed.getD j true = false → (∀ e ∈ oj.after, Region.binds md e = true → e.on ≠ i) → oi.apart ops oj = true) →
      i ∈ Region.ready md ops listed → Yld P ops σ oi fr v →
      anyY P md ops σ K fuel (listed.setIfInBounds i true) (aput fr oi.dst v) → anyY P md ops σ K (fuel + 1) listed fr := by
  intro fuel
  have self : ∀ {K : List AV → Prop} {fr}, Yld P ops σ oi fr v → K (aput fr oi.dst v) → yOp P ops σ i K fr := fun hy hk => by
    unfold yOp; simp only [hi]; exact ⟨v, hy, hk⟩
  induction fuel with
  | zero =>
    intro listed fr _ hr hy H
    refine ⟨fun h => (by rw [h] at hr; cases hr), fun j hj => ?_⟩
    by_cases hji : j = i
    · subst hji; exact self hy H
    · have := ready_mono hj hji
      rw [H.1] at this
      cases this
  | succ fuel ih =>
    intro listed fr hfree hr hy H
    refine ⟨fun h => (by rw [h] at hr; cases hr), fun j hj => ?_⟩
    by_cases hji : j = i
    · subst hji; exact self hy H
    · have h1 := H.2 j (ready_mono hj hji)
      obtain ⟨hjun, oj, hoj, hall⟩ := mem_ready.1 hj
      have hnot : ∀ e ∈ oj.after, Region.binds md e = true → e.on ≠ i := fun e he hb heq => by
        have h1 := hall e he hb
        have h0 := (mem_ready.1 hr).1
        rw [heq] at h1
        rcases Nat.lt_or_ge i listed.size with h' | h'
        · simp [h'] at h0 h1; rw [h0] at h1; cases h1
        · simp [Array.getElem?_eq_none h'] at h1
      have h2 := yOp_put hoj (hfree j oj hoj hji hjun hnot) hy h1
      have hfree' : ∀ k ok, ops[k]? = some ok → k ≠ i → (listed.setIfInBounds j true).getD k true = false →
          (∀ e ∈ ok.after, Region.binds md e = true → e.on ≠ i) → oi.apart ops ok = true := fun k ok hk hki hun hno => by
        refine hfree k ok hk hki ?_ hno
        by_cases hjk : j = k
        · subst hjk; exact hjun
        · rw [getD_set_ne true hjk] at hun; exact hun
      refine yOp_mono (fun fr' h3 => ih (listed.setIfInBounds j true) fr' hfree' (ready_mono hr (Ne.symm hji)) h3.1 ?_) h2
      rw [Array.setIfInBounds_comm _ _ hji]
      exact h3.2
/-- The order of the text. -/
def YL (P : Program) (ops : Array Oper) (σ : ASt) (K : List AV → Prop) : List Oper → List AV → Prop
  | [], fr => K fr
  | o :: rest, fr => ∃ r, Yld P ops σ o fr r ∧ YL P ops σ K rest (aput fr o.dst r)
theorem anyY_lex {md : Region.Mode} {K : List AV → Prop} (hs : Region.noSelect ops = true) : ∀ (l : List Oper) (k : Nat) (listed : Array Bool) (fr : List AV), (∀ j, l[j]? = ops[k + j]?) →
    Region.lexFrom md ops l.length k listed = true → YL P ops σ K l fr → anyY P md ops σ K l.length listed fr
  | [], _, _, _, _, hB, h => ⟨by simpa [Region.lexFrom] using hB, h⟩
  | o :: l, k, listed, fr, hl, hB, h => by
    have h0 : ops[k]? = some o := by simpa using (hl 0).symm
    simp only [List.length_cons, Region.lexFrom, Bool.and_eq_true] at hB
    obtain ⟨⟨hr, hf⟩, hB'⟩ := hB
    obtain ⟨r, hy, hK⟩ := h
    exact anyY_first h0 l.length listed fr (Region.free_spec h0 hf) (by simpa using hr) hy
      (anyY_lex hs l (k + 1) _ _ (fun j => by have := hl (j + 1); simpa [Nat.add_assoc, Nat.add_comm 1 j] using this) hB' hK)
theorem aw_draw {id : Nat} {l : List Oper} (hm : P.follows .mixedOrders = true) (hB : Region.lexB .any l.toArray = true) (h : YL P l.toArray σ (fun fr => Q .normal fr σ) l fr) : AW P D (.region id l.toArray true) Q fr σ := by
  intro _ _ G a w hs
  simp only [Region.lexB, Bool.and_eq_true] at hB
  have hb : Go.RowKit.Below w.heap.size w { w with drawn := w.drawn + 1 } := ⟨rfl, rfl, rfl, Nat.le_refl _, fun _ _ => rfl⟩
  have hs2 : Sim G fr σ D a { w with drawn := w.drawn + 1 } := hs.le (Le.grow hs.w hb) (hs.w.grow hb)
  refine wp_region_any hm (wpAny_of_anyY (K := fun fr => Q .normal fr σ) (fun fr h => h) _ _ fr G a _ G w (Le.grow hs.w hb) hs2 ?_)
  have := anyY_lex (md := .any) hB.1 l 0 (Array.replicate l.toArray.size false) fr (by simp) (by simpa using hB.2) h
  simpa using this
/-! ### how it is shown -/
open Classical in
noncomputable def only (o : Oper) (ρ : Operand → AV) : Operand → AV := fun x => if x ∈ o.op.operands then ρ x else .any
theorem only_eq {o : Oper} {ρ : Operand → AV} : ∀ x ∈ o.op.operands, ρ x = only o ρ x := fun x hx => by unfold only; rw [if_pos hx]
theorem only_rep {o : Oper} {G w} {a : Act} (h : ∀ t ∈ o.looksAt ops, Rep G w (fget fr t) (a.eval (.tmp t))) (x : Operand) : Rep G w (only o (aev fr) x) (a.eval x) := by
  unfold only
  split
  · rename_i hx
    cases x with
    | tmp t => exact h t (looks_op hx)
    | const v => exact rep_ofV G w v
    | global g => exact .p _
    | func f => exact .p _
  · exact .any _
theorem only_strip {o : Oper} {G w} {a : Act} (h : ∀ t ∈ o.looksAt ops, Rep G w (fget fr t) (a.eval (.tmp t))) (x : Operand) : Rep G w (only o (fun x => strip true (aev fr x)) x) (a.eval x) := by
  unfold only
  split
  · rename_i hx
    refine strip_rep rfl ?_
    cases x with
    | tmp t => exact h t (looks_op hx)
    | const v => exact rep_ofV G w v
    | global g => exact .p _
    | func f => exact .p _
  · exact .any _
theorem yld_plain {o : Oper} {r : AV} (hg : o.guard = none) (h : aopP P o (aev fr) σ = some r) : Yld P ops σ o fr r := by
  intro G a w ha hw
  have h2 : aopP P o (only o (aev fr)) σ = some r := by rw [← aopP_congr only_eq]; exact h
  refine ⟨fun _ => opq_aop (aopP_spec h2) ⟨rfl, rfl⟩ G a.eval w (only_rep ha) hw, fun hf => ?_⟩
  simp [Region.wanted, hg] at hf
theorem looks_guard {o : Oper} {j d : Nat} {want : Bool} (hg : o.guard = some (j, want)) (hd : (ops[j]?).bind (·.dst) = some d) : d ∈ o.looksAt ops := by
  unfold Oper.looksAt
  rw [hg]
  simp [hd]
theorem gcond_agree {o : Oper} {c : Bool} (h : gcond ops o fr = some c) {G w} {a : Act} (ha : ∀ t ∈ o.looksAt ops, Rep G w (fget fr t) (a.eval (.tmp t))) : Region.wanted o (yielded ops a.tmps) = c := by
  unfold gcond at h
  unfold Region.wanted
  cases hg : o.guard with
  | none => rw [hg] at h; cases h
  | some jw =>
    obtain ⟨j, want⟩ := jw
    rw [hg] at h
    simp only at h ⊢
    unfold yielded
    cases hd : (ops[j]?).bind (·.dst) with
    | none => rw [hd] at h; cases h
    | some d =>
      rw [hd] at h
      simp only [Option.bind_some] at h ⊢
      have hr := ha d (looks_guard hg hd)
      simp only [Act.eval] at hr
      have key : ∀ v, Rep G w (fget fr d) v → ((match v with | .bool b => some b | _ => none : Option Bool) == some want) = c := by
        intro v hr
        split at h
        · rename_i b hf
          rw [hf] at hr
          cases hr
          obtain rfl := Option.some.inj h
          cases b <;> cases want <;> rfl
        · rename_i c' b hf
          rw [hf] at hr
          obtain rfl := Option.some.inj h
          cases hr with
          | opt _ _ _ h1 h0 =>
            cases c' with
            | false => rw [h0 rfl]; rfl
            | true =>
              have := h1 rfl
              cases this
              cases b <;> cases want <;> rfl
        · rename_i v' _ hf
          rw [hf] at hr
          obtain rfl := Option.some.inj h
          cases hr with
          | opt _ _ _ h1 h0 => rw [h0 rfl]; rfl
        · cases h
      have h2 := key _ hr
      rw [Array.getD_eq_getD_getElem?] at h2
      cases hv : a.tmps[d]? with
      | none => rw [hv] at h2; exact h2
      | some v =>
        rw [hv] at h2
        simp only [Option.getD_some] at h2
        cases v <;> exact h2
theorem outc_opt {G w r v w'} (h : Outc G w (fun r' σ' => r' = r ∧ σ' = σ) v w') : Outc G w (fun r' σ' => r' = .opt true r ∧ σ' = σ) v w' := by
  obtain ⟨r', G', σ', hl, hw, hr, rfl, rfl⟩ := h
  exact ⟨_, G', _, hl, hw, .opt true _ v (fun _ => hr) (fun e => by cases e), rfl, rfl⟩
theorem outcN_opt {G w r n} (h : OutcN P G w (fun r' σ' => r' = r ∧ σ' = σ) n) : OutcN P G w (fun r' σ' => r' = .opt true r ∧ σ' = σ) n := by
  cases n with
  | halt => exact h.elim
  | ok n w' =>
    cases n with
    | value v => exact outc_opt h
    | skip => exact outc_opt h
    | enter f args =>
      refine Calls.mono h fun e w'' he => ?_
      cases e with
      | returned v => exact outc_opt he
      | panicked c => exact he.elim
      | outgrown => exact he.elim
    | round l f tmps assign body =>
      refine RoundIn.mono h fun e w'' he => ?_
      cases e with
      | returned v => exact outc_opt he
      | panicked c => exact he.elim
      | outgrown => exact he.elim
    | _ => exact h.elim
theorem yld_guard {o : Oper} {r : AV} {c : Bool} (hc : gcond ops o fr = some c) (h : aopP P o (fun x => strip c (aev fr x)) σ = some r) : Yld P ops σ o fr (.opt c r) := by
  intro G a w ha hw
  rw [gcond_agree hc ha]
  cases c with
  | false => exact ⟨fun e => (by cases e), fun _ => .opt false r undef (fun e => (by cases e)) fun _ => rfl⟩
  | true =>
    refine ⟨fun _ => ?_, fun e => by cases e⟩
    have h2 : aopP P o (only o fun x => strip true (aev fr x)) σ = some r := by rw [← aopP_congr only_eq]; exact h
    have hq := opq_aop (R := fun r' σ' => r' = r ∧ σ' = σ) (aopP_spec h2) ⟨rfl, rfl⟩ G a.eval w (only_strip ha) hw
    exact outcN_opt hq
/-- As far as it goes, in a region that draws. -/
def YRun (P : Program) (ops : Array Oper) (σ : ASt) (K : List AV → Prop) : List Oper → List AV → Prop
  | [], fr => K fr
  | o :: rest, fr =>
    match o.guard with
    | none =>
      match aopP P o (aev fr) σ with
      | some r => Shut (YRun P ops σ K rest (aput fr o.dst r))
      | none => YL P ops σ K (o :: rest) fr
    | some _ =>
      match gcond ops o fr with
      | some c =>
        match aopP P o (fun x => strip c (aev fr x)) σ with
        | some r => Shut (YRun P ops σ K rest (aput fr o.dst (.opt c r)))
        | none => YL P ops σ K (o :: rest) fr
      | none => YL P ops σ K (o :: rest) fr
theorem yl_run {K : List AV → Prop} : ∀ {l : List Oper} {fr : List AV}, YRun P ops σ K l fr → YL P ops σ K l fr
  | [], _, h => h
  | o :: rest, fr, h => by
    unfold YRun at h
    split at h
    · rename_i hg
      split at h
      · rename_i r hr; exact ⟨r, yld_plain hg hr, yl_run h.out⟩
      · exact h
    · split at h
      · rename_i c hc
        split at h
        · rename_i r hr; exact ⟨_, yld_guard hc hr, yl_run h.out⟩
        · exact h
      · exact h
theorem shut_ynil {K : List AV → Prop} : Shut (YRun P ops σ K [] fr) ↔ K fr := ⟨fun h => h.1, fun h => ⟨h⟩⟩
theorem shut_ycons {K : List AV → Prop} {o : Oper} {rest : List Oper} : Shut (YRun P ops σ K (o :: rest) fr) ↔ (match o.guard with
    | none =>
      match aopP P o (aev fr) σ with
      | some r => Shut (YRun P ops σ K rest (aput fr o.dst r))
      | none => YL P ops σ K (o :: rest) fr
    | some _ =>
      match gcond ops o fr with
      | some c =>
        match aopP P o (fun x => strip c (aev fr x)) σ with
        | some r => Shut (YRun P ops σ K rest (aput fr o.dst (.opt c r)))
        | none => YL P ops σ K (o :: rest) fr
      | none => YL P ops σ K (o :: rest) fr) := ⟨fun h => by have := h.1; unfold YRun at this; exact this, fun h => ⟨by unfold YRun; exact h⟩⟩
theorem aw_yrun {id : Nat} {l : List Oper} (hm : P.follows .mixedOrders = true) (hB : Region.lexB .any l.toArray = true) (h : Shut (YRun P l.toArray σ (fun fr => Q .normal fr σ) l fr)) : AW P D (.region id l.toArray true) Q fr σ :=
  aw_draw hm hB (yl_run h.out)
theorem yld_opq {o : Oper} {r : AV} (hg : o.guard = none) (h : ∀ ρ, (∀ x ∈ o.op.operands, ρ x = aev fr x) → OpQ P o ρ σ fun r' σ' => r' = r ∧ σ' = σ) : Yld P ops σ o fr r := by
  intro G a w ha hw
  exact ⟨fun _ => h (only o (aev fr)) (fun x hx => (only_eq x hx).symm) G a.eval w (only_rep ha) hw, fun hf => by simp [Region.wanted, hg] at hf⟩
theorem yld_opq_guard {o : Oper} {r : AV} {c : Bool} (hc : gcond ops o fr = some c) (h : c = true → ∀ ρ, (∀ x ∈ o.op.operands, ρ x = strip c (aev fr x)) → OpQ P o ρ σ fun r' σ' => r' = r ∧ σ' = σ) : Yld P ops σ o fr (.opt c r) := by
  intro G a w ha hw
  rw [gcond_agree hc ha]
  cases c with
  | false => exact ⟨fun e => (by cases e), fun _ => .opt false r undef (fun e => (by cases e)) fun _ => rfl⟩
  | true => exact ⟨fun _ => outcN_opt (h rfl (only o fun x => strip true (aev fr x)) (fun x hx => (only_eq x hx).symm) G a.eval w (only_strip ha) hw), fun e => by cases e⟩
theorem opq_pure {o : Oper} {f : Operand} {aa : Array Operand} {ts : Array TypeId} {ρ ρ0 : Operand → AV} (ho : o.op = .call { callee := .value f, args := aa, argTypes := ts })
    {F : FuncId} {first cap : List AV} (hf : acallee (ρ0 f) = some (F, first, cap)) (hcl : callable P F = true) {args : List AV} (he : first ++ aa.toList.map ρ0 ++ cap = args) {r : AV} (hp : APure P F args r) (hca : ∀ a ∈ args, Cl a) (hcr : Cl r) (hρ : ∀ x ∈ o.op.operands, ρ x = ρ0 x) : OpQ P o ρ σ fun r' σ' => r' = r ∧ σ' = σ := by
  rw [ho] at hρ
  have e1 : ρ f = ρ0 f := hρ f (by simp [Op.operands, Call.operands])
  have e2 : aa.toList.map ρ = aa.toList.map ρ0 := List.map_congr_left fun x hx => hρ x (by simp only [Op.operands, Call.operands]; simp [Array.mem_toList_iff.1 hx])
  exact opq_call ho (by rw [e1]; exact hf) hcl (by rw [e2, he]; exact hp.call hca hcr σ)
/-- A pure call, in a region that draws. -/
theorem yl_pure {K : List AV → Prop} {o : Oper} {rest : List Oper} {f : Operand} {aa : Array Operand} {ts : Array TypeId} (ho : o.op = .call { callee := .value f, args := aa, argTypes := ts }) (hg : o.guard = none)
    {F : FuncId} {first cap : List AV} (hf : acallee (aev fr f) = some (F, first, cap)) (hcl : callable P F = true) {args : List AV} (he : first ++ aa.toList.map (aev fr) ++ cap = args) {r : AV} (hp : APure P F args r) (hca : ∀ a ∈ args, Cl a) (hcr : Cl r)
    (hk : Shut (YRun P ops σ K rest (aput fr o.dst r))) : YL P ops σ K (o :: rest) fr :=
  ⟨r, yld_opq hg fun ρ hρ => opq_pure ho hf hcl he hp hca hcr hρ, yl_run hk.out⟩
theorem yl_pure_guard {K : List AV → Prop} {o : Oper} {rest : List Oper} {f : Operand} {aa : Array Operand} {ts : Array TypeId} (ho : o.op = .call { callee := .value f, args := aa, argTypes := ts }) {c : Bool} (hg : gcond ops o fr = some c)
    {F : FuncId} {first cap : List AV} (hf : acallee (strip c (aev fr f)) = some (F, first, cap)) (hcl : callable P F = true) {args : List AV} (he : first ++ aa.toList.map (fun x => strip c (aev fr x)) ++ cap = args) {r : AV} (hp : c = true → APure P F args r) (hca : ∀ a ∈ args, Cl a) (hcr : Cl r)
    (hk : Shut (YRun P ops σ K rest (aput fr o.dst (.opt c r)))) : YL P ops σ K (o :: rest) fr :=
  ⟨_, yld_opq_guard hg fun hc ρ hρ => opq_pure (ρ0 := fun x => strip c (aev fr x)) ho hf hcl he (hp hc) hca hcr hρ, yl_run hk.out⟩
end Go.AL
/-! Regions that draw their order, first what leaves all as it is, then what has its place: the second part may do anything. -/
namespace Go.AL
set_option linter.unusedVariables false
set_option linter.unusedSimpArgs false
variable {P : Program} {σ : ASt} {R : AV → ASt → Prop} {D : List Deferred} {Q : Exit → List AV → ASt → Prop} {fr : List AV} {ops : Array Oper}
def anyZ (P : Program) (md : Region.Mode) (ops : Array Oper) (σ : ASt) (K : Array Bool → List AV → Prop) : Nat → Array Bool → List AV → Prop
  | 0, listed, fr => K listed fr
  | n + 1, listed, fr => Region.ready md ops listed ≠ [] ∧ ∀ i ∈ Region.ready md ops listed, yOp P ops σ i (anyZ P md ops σ K n (listed.setIfInBounds i true)) fr
theorem wpAny_of_anyZ {md : Region.Mode} {K : Array Bool → List AV → Prop} {D : List Deferred} {Q : Exit → List AV → ASt → Prop} {m : Nat}
    (hK : ∀ listed fr, K listed fr → ∀ G a w, Sim G fr σ D a w → ∀ G0 w0, Le G0 w0 G w → wpAny P md ops (lift G0 w0 D Q) m listed a w) : ∀ (n : Nat) (listed : Array Bool) (fr : List AV) (G : Ghost) (a : Act) (w : World) (G0 : Ghost) (w0 : World),
    Le G0 w0 G w → Sim G fr σ D a w → anyZ P md ops σ K n listed fr → wpAny P md ops (lift G0 w0 D Q) (m + n) listed a w
  | 0, listed, fr, G, a, w, G0, w0, hl, hs, h => hK listed fr h G a w hs G0 w0 hl
  | n + 1, listed, fr, G, a, w, G0, w0, hl, hs, h => by
    refine ⟨fun h0 => absurd h0 h.1, fun i hi => ?_⟩
    have hy := h.2 i hi
    unfold yOp at hy
    unfold wpOp
    split
    · rename_i ho
      simp only [ho] at hy
      exact wpAny_of_anyZ hK n _ fr G a w G0 w0 hl hs hy
    · rename_i o ho
      simp only [ho] at hy
      obtain ⟨r, hr, hk⟩ := hy
      have hyl := hr G a w (fun t _ => hs.ev (.tmp t)) hs.w
      by_cases hw : Region.wanted o (yielded ops a.tmps) = true
      · rw [if_pos hw]
        have hq := hyl.1 hw
        unfold wpO
        have key : ∀ v w', Outc G w (fun r' σ' => r' = r ∧ σ' = σ) v w' → wpAny P md ops (lift G0 w0 D Q) (m + n) (listed.setIfInBounds i true) (a.put o.dst v) w' := by
          rintro v w' ⟨r', G', σ', hl', hw', hr', e1, e2⟩
          rw [e1] at hr'
          rw [e2] at hw'
          exact wpAny_of_anyZ hK n _ _ G' _ w' G0 w0 (hl.trans hl') ((hs.le hl' hw').put o.dst hr') hk
        generalize (execOp a.eval o).run P w = n at hq
        cases n with
        | halt => exact hq.elim
        | ok n w' =>
          cases n with
          | value v => exact key v w' hq
          | skip => exact key undef w' hq
          | enter f args =>
            refine Calls.mono hq fun e w'' he => ?_
            cases e with
            | returned v => exact key v w'' he
            | panicked c => exact he.elim
            | outgrown => exact he.elim
          | round l f tmps assign body =>
            refine RoundIn.mono hq fun e w'' he => ?_
            cases e with
            | returned v => exact key v w'' he
            | panicked c => exact he.elim
            | outgrown => exact he.elim
          | _ => exact hq.elim
      · rw [if_neg hw]
        have hu := hyl.2 (by simpa using hw)
        exact wpAny_of_anyZ hK n _ _ G _ w G0 w0 hl (hs.put o.dst hu) hk
theorem anyZ_first {md : Region.Mode} {K : Array Bool → List AV → Prop} {i : Nat} {oi : Oper} {v : AV} (hi : ops[i]? = some oi)
    (hK : ∀ listed fr, i ∈ Region.ready md ops listed → K (listed.setIfInBounds i true) fr → ∀ j ∈ Region.ready md ops listed, j = i) : ∀ (n : Nat) (listed : Array Bool) (fr : List AV),
      (∀ j oj, ops[j]? = some oj → j ≠ i → listed.getD j true = false → (∀ e ∈ oj.after, Region.binds md e = true → e.on ≠ i) → oi.apart ops oj = true) →
      i ∈ Region.ready md ops listed → Yld P ops σ oi fr v →
      anyZ P md ops σ K n (listed.setIfInBounds i true) (aput fr oi.dst v) → anyZ P md ops σ K (n + 1) listed fr := by
  intro n
  have self : ∀ {K : List AV → Prop} {fr}, Yld P ops σ oi fr v → K (aput fr oi.dst v) → yOp P ops σ i K fr := fun hy hk => by
    unfold yOp; simp only [hi]; exact ⟨v, hy, hk⟩
  induction n with
  | zero =>
    intro listed fr _ hr hy H
    refine ⟨fun h => (by rw [h] at hr; cases hr), fun j hj => ?_⟩
    obtain rfl := hK _ _ hr H j hj
    exact self hy H
  | succ n ih =>
    intro listed fr hfree hr hy H
    refine ⟨fun h => (by rw [h] at hr; cases hr), fun j hj => ?_⟩
    by_cases hji : j = i
    · subst hji; exact self hy H
    · have h1 := H.2 j (ready_mono hj hji)
      obtain ⟨hjun, oj, hoj, hall⟩ := mem_ready.1 hj
      have hnot : ∀ e ∈ oj.after, Region.binds md e = true → e.on ≠ i := fun e he hb heq => by
        have h1 := hall e he hb
        have h0 := (mem_ready.1 hr).1
        rw [heq] at h1
        rcases Nat.lt_or_ge i listed.size with h' | h'
        · simp [h'] at h0 h1; rw [h0] at h1; cases h1
        · simp [Array.getElem?_eq_none h'] at h1
      have h2 := yOp_put hoj (hfree j oj hoj hji hjun hnot) hy h1
      have hfree' : ∀ k ok, ops[k]? = some ok → k ≠ i → (listed.setIfInBounds j true).getD k true = false →
          (∀ e ∈ ok.after, Region.binds md e = true → e.on ≠ i) → oi.apart ops ok = true := fun k ok hk hki hun hno => by
        refine hfree k ok hk hki ?_ hno
        by_cases hjk : j = k
        · subst hjk; exact hjun
        · rw [getD_set_ne true hjk] at hun; exact hun
      refine yOp_mono (fun fr' h3 => ih (listed.setIfInBounds j true) fr' hfree' (ready_mono hr (Ne.symm hji)) h3.1 ?_) h2
      rw [Array.setIfInBounds_comm _ _ hji]
      exact h3.2
/-- The first n in the order of the text. -/
def preFrom (md : Region.Mode) (ops : Array Oper) : Nat → Nat → Array Bool → Bool
  | 0, _, _ => true
  | n + 1, k, listed => (Region.ready md ops listed).contains k && Region.free md ops listed k && preFrom md ops n (k + 1) (listed.setIfInBounds k true)
def listFrom : Nat → Nat → Array Bool → Array Bool
  | 0, _, listed => listed
  | n + 1, k, listed => listFrom n (k + 1) (listed.setIfInBounds k true)
/-- The others, one by one. -/
def seqFrom (md : Region.Mode) (ops : Array Oper) : Nat → Nat → Array Bool → Bool
  | 0, _, listed => (Region.ready md ops listed).isEmpty
  | n + 1, k, listed => (Region.ready md ops listed == [k]) && seqFrom md ops n (k + 1) (listed.setIfInBounds k true)
/-- It waits for all these. -/
def waits (md : Region.Mode) (ops : Array Oper) (n : Nat) : Bool :=
  match ops[n]? with
  | some o => (List.range n).all fun i => o.after.any fun e => Region.binds md e && e.on == i
  | none => false
theorem anyZ_lex {md : Region.Mode} {K : List AV → Prop} {n : Nat} {L : Array Bool} (hw : waits md ops n = true) (hL : Region.ready md ops L = [n]) : ∀ (l : List Oper) (k : Nat) (listed : Array Bool) (fr : List AV), k + l.length = n → (∀ j, j < l.length → l[j]? = ops[k + j]?) →
    preFrom md ops l.length k listed = true → listFrom l.length k listed = L → YL P ops σ K l fr → anyZ P md ops σ (fun listed fr => listed = L ∧ K fr) l.length listed fr
  | [], k, listed, fr, _, hl, hB, hL', h => ⟨hL', h⟩
  | o :: l, k, listed, fr, hn, hl, hB, hL', h => by
    have h0 : ops[k]? = some o := by simpa using (hl 0 (by simp)).symm
    simp only [List.length_cons, preFrom, Bool.and_eq_true] at hB
    obtain ⟨⟨hr, hf⟩, hB'⟩ := hB
    obtain ⟨r, hy, hk⟩ := h
    refine anyZ_first h0 (fun listed fr hi hK j hj => ?_) l.length listed fr (Region.free_spec h0 hf) (by simpa using hr) hy
      (anyZ_lex hw hL l (k + 1) _ _ (by simp at hn; omega) (fun j hj => by have := hl (j + 1) (by simp; omega); simpa [Nat.add_assoc, Nat.add_comm 1 j] using this) hB' hL' hk)
    by_cases hji : j = k
    · exact hji
    · exfalso
      have h1 := ready_mono hj hji
      rw [hK.1, hL] at h1
      have : j = n := by simpa using h1
      subst this
      obtain ⟨_, oj, hoj, hall⟩ := mem_ready.1 hj
      unfold waits at hw
      rw [hoj] at hw
      simp only [List.all_eq_true, List.mem_range] at hw
      have hkj : k < j := by simp at hn; omega
      obtain ⟨e, he, hb⟩ := Array.any_eq_true'.1 (hw k hkj)
      simp only [Bool.and_eq_true, beq_iff_eq] at hb
      have h2 := hall e he hb.1
      have h3 := (mem_ready.1 hi).1
      rw [hb.2] at h2
      rcases Nat.lt_or_ge k listed.size with h' | h'
      · simp [h'] at h2 h3; rw [h3] at h2; cases h2
      · simp [Array.getElem?_eq_none h'] at h2
theorem wpAny_seq {md : Region.Mode} {Q : Exit → Act → World → Prop} : ∀ (l : List Oper) (k : Nat) (listed : Array Bool) (a : Act) (w : World), (∀ j, l[j]? = ops[k + j]?) → seqFrom md ops l.length k listed = true → wpList P ops Q l a w → wpAny P md ops Q l.length listed a w
  | [], k, listed, a, w, _, hB, h => ⟨by simpa [seqFrom] using hB, h⟩
  | o :: l, k, listed, a, w, hl, hB, h => by
    have h0 : ops[k]? = some o := by simpa using (hl 0).symm
    simp only [List.length_cons, seqFrom, Bool.and_eq_true, beq_iff_eq] at hB
    have ih : ∀ a w, wpList P ops Q l a w → wpAny P md ops Q l.length (listed.setIfInBounds k true) a w := fun a w h => wpAny_seq l (k + 1) _ a w (fun j => by have := hl (j + 1); simpa [Nat.add_assoc, Nat.add_comm 1 j] using this) hB.2 h
    refine ⟨fun e => absurd (hB.1.symm.trans e) (by simp), fun i hi => ?_⟩
    rw [hB.1] at hi
    obtain rfl : i = k := by simpa using hi
    unfold wpOp
    rw [h0]
    unfold wpList at h
    simp only
    split
    · rename_i hw
      rw [if_pos hw] at h
      exact wpO_mono ih h
    · rename_i hw
      rw [if_neg hw] at h
      exact ih _ _ h
theorem yl_mono {K K' : List AV → Prop} (hk : ∀ fr, K fr → K' fr) : ∀ {l : List Oper} {fr : List AV}, YL P ops σ K l fr → YL P ops σ K' l fr
  | [], _, h => hk _ h
  | _ :: _, _, ⟨r, h1, h2⟩ => ⟨r, h1, yl_mono hk h2⟩
def mixB (md : Region.Mode) (l r : List Oper) : Bool :=
  let ops := (l ++ r).toArray
  let L0 := Array.replicate ops.size false
  let L := listFrom l.length 0 L0
  waits md ops l.length && preFrom md ops l.length 0 L0 && seqFrom md ops r.length l.length L && Region.noSelect ops && !r.isEmpty
theorem aw_mix {id : Nat} (n : Nat) {l : List Oper} (hm : P.follows .mixedOrders = true) (hB : mixB .any (l.take n) (l.drop n) = true) (h : YL P l.toArray σ (fun fr => AWL P D l.toArray Q (l.drop n) fr σ) (l.take n) fr) : AW P D (.region id l.toArray true) Q fr σ := by
  intro _ _ G a w hs
  unfold mixB at hB
  simp only [List.take_append_drop, Bool.and_eq_true] at hB
  obtain ⟨⟨⟨⟨h1, h2⟩, h3⟩, h4⟩, h5⟩ := hB
  have hb : Go.RowKit.Below w.heap.size w { w with drawn := w.drawn + 1 } := ⟨rfl, rfl, rfl, Nat.le_refl _, fun _ _ => rfl⟩
  have hs2 : Sim G fr σ D a { w with drawn := w.drawn + 1 } := hs.le (Le.grow hs.w hb) (hs.w.grow hb)
  have hlen : (l.take n).length + (l.drop n).length = l.length := by rw [← List.length_append, List.take_append_drop]
  have hr : Region.ready .any l.toArray (listFrom (l.take n).length 0 (Array.replicate l.toArray.size false)) = [(l.take n).length] := by
    cases hd : l.drop n with
    | nil => rw [hd] at h5; cases h5
    | cons o r =>
      rw [hd] at h3
      simp only [List.length_cons, seqFrom, Bool.and_eq_true, beq_iff_eq] at h3
      exact h3.1
  have hz := anyZ_lex (P := P) (σ := σ) (K := fun fr => AWL P D l.toArray Q (l.drop n) fr σ) h1 hr (l.take n) 0 _ fr (by simp) (fun j hj => by
    have : j < n := by simp at hj; omega
    simp [List.getElem?_take, this]) h2 rfl h
  refine wp_region_any hm ?_
  have hsz : l.toArray.size = (l.drop n).length + (l.take n).length := by simp; omega
  rw [hsz]
  refine wpAny_of_anyZ (fun listed fr hK G1 a1 w1 hs1 G0 w0 hl => ?_) _ _ fr G a _ G w (Le.grow hs.w hb) hs2 (by rw [← hsz]; exact hz)
  obtain ⟨rfl, hK⟩ := hK
  have hk := hK G1 a1 w1 hs1
  have hk2 := wpList_weaken (fun e a w h => lift_le hl h) _ _ _ hk
  refine wpAny_seq (l.drop n) (l.take n).length _ a1 w1 (fun j => ?_) ?_ hk2
  · simp only [List.getElem?_drop, List.length_take, List.getElem?_toArray]
    rcases Nat.le_total n l.length with hh | hh
    · rw [Nat.min_eq_left hh]
    · rw [Nat.min_eq_right hh, List.getElem?_eq_none (by omega), List.getElem?_eq_none (by omega)]
  · exact h3
/-- Does it change what is known? -/
def stOp (mu : List Nat) (o : Oper) : Bool :=
  match o.op with
  | .store _ _ _ => true
  | .alloc _ | .box _ _ | .buildSlice _ _ _ | .makeSlice _ _ _ => match o.dst with | some d => mu.contains d | none => false
  | .call c => match c.callee with | .builtin .append => true | .builtin .delete => true | .builtin .copy => true | .builtin .clear => true | _ => false
  | .mapUpdate .. | .entryStore .. | .mapEntry .. | .insert .. => true
  | _ => false
def preSt (mu : List Nat) : List Oper → List Oper
  | [] => []
  | o :: l => if stOp mu o = true then [] else o :: preSt mu l
def postSt (mu : List Nat) : List Oper → List Oper
  | [] => []
  | o :: l => if stOp mu o = true then o :: l else postSt mu l
theorem pre_post (mu : List Nat) : ∀ l : List Oper, preSt mu l = l.take (preSt mu l).length ∧ postSt mu l = l.drop (preSt mu l).length
  | [] => ⟨rfl, rfl⟩
  | o :: l => by
    simp only [preSt, postSt]
    split
    · exact ⟨rfl, rfl⟩
    · simp only [List.length_cons, List.take_succ_cons, List.drop_succ_cons, List.cons.injEq, true_and]
      exact pre_post mu l
theorem aw_ymix {id : Nat} (mu : List Nat) {l : List Oper} (hm : P.follows .mixedOrders = true) (hB : mixB .any (preSt mu l) (postSt mu l) = true) (h : Shut (YRun P l.toArray σ (fun fr => Shut (ARun P D l.toArray Q mu (postSt mu l) fr σ)) (preSt mu l) fr)) : AW P D (.region id l.toArray true) Q fr σ := by
  obtain ⟨e1, e2⟩ := pre_post mu l
  refine aw_mix (preSt mu l).length hm (by rw [← e1, ← e2]; exact hB) ?_
  rw [← e1, ← e2]
  exact yl_mono (fun fr h => awl_run' mu h) (yl_run h.out)
end Go.AL
/-! What is at hand for contracts. -/
namespace Go.AL
set_option linter.unusedVariables false
set_option linter.unusedSimpArgs false
variable {P : Program} {σ : ASt} {R : AV → ASt → Prop} {D : List Deferred} {Q : Exit → List AV → ASt → Prop} {fr : List AV}
attribute [simp] fget fset shut_nil shut_cons gcond aopP awanted aop aev aput AV.okv AV.one AV.cells Value.oneCell' thenA inBlockA jumpA ofV aload acells aloadC afield afieldAddr ashift afcmp aconvA aconv bytesOf abinS abin aeqF aeqL aint astr isNilC aisNil apick apick2 ares tupOf alen abuiltin amm aun aindexAddr aindexI aslice abound abuild afill setCells abuildS afillR astore astoreC putCells anilCheck aindexS acallee
abbrev vi (n : Int) : AV := .p (.int .i64 n)
abbrev vb (b : Bool) : AV := .p (.bool b)
abbrev vs (s : ByteArray) : AV := .p (.string s)
theorem apure_of {f : FuncId} {fn : Func} {c : Code} {n : Nat} {args : List AV} {r : AV} (hf : P.funcs[f]? = some fn) (hn : fn.ntmps = n) (hb : fn.body = some c)
    (h : AW P [] c (RetQ P fn fun r' _ => r' = r) (args ++ List.replicate (n - args.length) (.p undef)) σ0) : APure P f args r := by
  subst hn; exact ⟨acall_of_body hf hb h⟩
theorem acall_of {f : FuncId} {fn : Func} {c : Code} {n : Nat} {args : List AV} (hf : P.funcs[f]? = some fn) (hn : fn.ntmps = n) (hb : fn.body = some c)
    (h : AW P [] c (RetQ P fn R) (args ++ List.replicate (n - args.length) (.p undef)) σ) : ACall P f args σ R := by
  subst hn; exact acall_of_body hf hb h
/-! ### numbers -/
theorem wrap_id {n : Int} (h1 : -9223372036854775808 ≤ n) (h2 : n ≤ 9223372036854775807) : IntKind.i64.wrap n = n := by
  have e1 : (2 : Int) ^ IntKind.i64.bits = 18446744073709551616 := by decide
  have e2 : (2 : Int) ^ (IntKind.i64.bits - 1) = 9223372036854775808 := by decide
  have e3 : IntKind.i64.signed = true := rfl
  unfold IntKind.wrap
  simp only [e1, e2, e3, Bool.true_and, ge_iff_le, decide_eq_true_eq]
  split <;> omega
end Go.AL
