/- Parts of the proof of MonoTells: the logic, contracts, plain laws. -/
import Derived.Test.YtadahjmamgidnaaZMonoTells5
/-! The run of what is plain: one function over all operations but calls. -/
namespace Go.AL
set_option linter.unusedVariables false
set_option linter.unusedSimpArgs false

variable {P : Program} {σ : ASt} {R : AV → ASt → Prop} {D : List Deferred} {Q : Exit → List AV → ASt → Prop} {fr : List AV}

def abuiltin (P : Program) (σ : ASt) (b : Builtin) (xs : List AV) (ts : List TypeId) : Option Value :=
  match b with
  | .len => match xs, ts with
    | [x], [t] => (alen P σ t x).map fun n => .int .i64 n
    | _, _ => none
  | .min => match xs with
    | [x, y] => amm false x y
    | _ => none
  | .max => match xs with
    | [x, y] => amm true x y
    | _ => none
  | _ => none
/-- What an operation makes (mu: the variables that are written). -/
def aop (P : Program) (mu : List Nat) (o : Oper) (ρ : Operand → AV) (σ : ASt) : Option (AV × ASt) :=
  match o.op with
  | .move x => some (ρ x, σ)
  | .assign x => some (ρ x, σ)
  | .pick c a b => match ρ c with | .p (.bool t) => some (apick t (ρ a) (ρ b), σ) | _ => none
  | .load t x => (aload P σ t (ρ x)).map fun r => (r, σ)
  | .field s x f => (afield P s f (ρ x)).map fun r => (r, σ)
  | .fieldAddr s x f => (afieldAddr P s f (ρ x)).map fun r => (r, σ)
  | .extract x i => match ρ x with | .tup cs => (cs[i]?).map fun r => (r, σ) | _ => none
  | .makeInterface t x => if isIface P t = false then some (.ifc t (ρ x), σ) else none
  | .nilCheck x => if anilCheck (ρ x) = true then some (ρ x, σ) else none
  | .binOp op t x y _ => if tkind P t = 3 → isConstO y = true then (abinS P op t (ρ x) (ρ y)).map fun r => (.p r, σ) else none
  | .unOp op _ x => (aun op (ρ x)).map fun r => (.p r, σ)
  | .convert s d x => (aconvA P s d (ρ x)).map fun r => (r, σ)
  | .index t x i => (aindexS P t (ρ x) (ρ i)).map fun r => (.p r, σ)
  | .indexAddr t x i => (aindexAddr P σ t (ρ x) (ρ i)).map fun r => (r, σ)
  | .slice t x lo hi none => (aslice P σ t (ρ x) (lo.map ρ) (hi.map ρ)).map fun r => (r, σ)
  | .box _ x => if AV.okv (ρ x) = true then (match o.dst with | some d => if d ∈ mu then some (.ptr σ.next 0, σ.addBx (ρ x).cells) else some (.vel [ρ x] 0 0, σ) | none => none) else none
  | .alloc t => (tzero P t).bind fun z => if AV.okv z = true then (match o.dst with | some d => if d ∈ mu then some (.ptr σ.next 0, σ.addBx z.cells) else some (.vel [z] 0 0, σ) | none => none) else none
  | .store t x y => (astore P σ t (ρ x) (ρ y)).map fun τ => (.p undef, τ)
  | .build t ps => (abuild P t (ps.toList.map fun q => (q.1, ρ q.2))).map fun r => (r, σ)
  | .buildSlice t len ps => (abuildS P t len (ps.toList.map fun q => (q.1, ρ q.2))).bind fun es => match o.dst with | some d => if d ∈ mu then some (.hsl σ.next 0 es.length, σ.addSl es) else some (.vsl es, σ) | none => none
  | .makeFunc f aa bs => some (.fn f (aa.toList.map ρ) (bs.toList.map ρ), σ)
  | .call c => match c.callee with
    | .builtin b => (abuiltin P σ b (c.args.toList.map ρ) c.argTypes.toList).map fun r => (.p r, σ)
    | _ => none
  | _ => none
theorem opq_makeFunc {o : Oper} {ρ : Operand → AV} {f : Fn} {aa bs : Array Operand} (ho : o.op = .makeFunc f aa bs) (hr : R (.fn f (aa.toList.map ρ) (bs.toList.map ρ)) σ) : OpQ P o ρ σ R := by
  refine opq_val _ hr fun G e w he hw => ⟨.func f (aa.map e) (bs.map e), by simp [execOp, ho, Instr.makeFunc], .fn f _ _ _ _ (by simp) (by simp) (fun i c v hc hv => ?_) (fun i c v hc hv => ?_)⟩
  · simp only [List.getElem?_map, Option.map_eq_some_iff] at hc
    obtain ⟨a, ha, rfl⟩ := hc
    simp only [Array.getElem?_map, Option.map_eq_some_iff] at hv
    obtain ⟨b, hb, rfl⟩ := hv
    rw [Array.getElem?_toList] at ha
    obtain rfl := Option.some.inj (ha.symm.trans hb)
    exact he _
  · simp only [List.getElem?_map, Option.map_eq_some_iff] at hc
    obtain ⟨a, ha, rfl⟩ := hc
    simp only [Array.getElem?_map, Option.map_eq_some_iff] at hv
    obtain ⟨b, hb, rfl⟩ := hv
    rw [Array.getElem?_toList] at ha
    obtain rfl := Option.some.inj (ha.symm.trans hb)
    exact he _
theorem opq_builtin {o : Oper} {ρ : Operand → AV} {b : Builtin} {args : Array Operand} {ts : Array TypeId} (ho : o.op = .call { callee := .builtin b, args := args, argTypes := ts }) {v : Value} (h : abuiltin P σ b (args.toList.map ρ) ts.toList = some v) (hr : R (.p v) σ) : OpQ P o ρ σ R := by
  obtain ⟨args⟩ := args
  obtain ⟨ts⟩ := ts
  unfold abuiltin at h
  split at h
  · split at h
    · rename_i x t hx ht
      obtain ⟨n, hn, rfl⟩ := Option.map_eq_some_iff.1 h
      cases args with
      | nil => simp at hx
      | cons a args =>
        cases args with
        | nil =>
          simp only [List.map_cons, List.map_nil, List.cons.injEq, and_true] at hx ht
          subst hx
          subst ht
          exact opq_len ho hn hr
        | cons _ _ => simp at hx
    · cases h
  · split at h
    · rename_i x y hx
      cases args with
      | nil => simp at hx
      | cons a args =>
        cases args with
        | nil => simp at hx
        | cons a2 args =>
          cases args with
          | nil =>
            simp only [List.map_cons, List.map_nil, List.cons.injEq, and_true] at hx
            obtain ⟨rfl, rfl⟩ := hx
            exact opq_mm (mx := false) ho h hr
          | cons _ _ => simp at hx
    · cases h
  · split at h
    · rename_i x y hx
      cases args with
      | nil => simp at hx
      | cons a args =>
        cases args with
        | nil => simp at hx
        | cons a2 args =>
          cases args with
          | nil =>
            simp only [List.map_cons, List.map_nil, List.cons.injEq, and_true] at hx
            obtain ⟨rfl, rfl⟩ := hx
            exact opq_mm (mx := true) ho h hr
          | cons _ _ => simp at hx
    · cases h
  · cases h
theorem opq_aop {mu : List Nat} {o : Oper} {ρ : Operand → AV} {r : AV} {τ : ASt} (h : aop P mu o ρ σ = some (r, τ)) (hr : R r τ) : OpQ P o ρ σ R := by
  have one : ∀ {x : Option AV} {f : AV → AV}, (x.map fun r => (f r, σ)) = some (r, τ) → ∃ y, x = some y ∧ f y = r ∧ σ = τ := by
    intro x f h
    obtain ⟨y, hy, he⟩ := Option.map_eq_some_iff.1 h
    simp only [Prod.mk.injEq] at he
    exact ⟨y, hy, he.1, he.2⟩
  have onev : ∀ {x : Option Value}, (x.map fun r => (AV.p r, σ)) = some (r, τ) → ∃ y, x = some y ∧ AV.p y = r ∧ σ = τ := by
    intro x h
    obtain ⟨y, hy, he⟩ := Option.map_eq_some_iff.1 h
    simp only [Prod.mk.injEq] at he
    exact ⟨y, hy, he.1, he.2⟩
  unfold aop at h
  split at h <;> rename_i ho
  · simp only [Option.some.injEq, Prod.mk.injEq] at h
    obtain ⟨rfl, rfl⟩ := h
    exact opq_move (.inl ho) hr
  · simp only [Option.some.injEq, Prod.mk.injEq] at h
    obtain ⟨rfl, rfl⟩ := h
    exact opq_move (.inr ho) hr
  · split at h
    · rename_i hc
      simp only [Option.some.injEq, Prod.mk.injEq] at h
      obtain ⟨rfl, rfl⟩ := h
      exact opq_pick ho hc hr
    · cases h
  · obtain ⟨y, hy, rfl, rfl⟩ := one (f := id) h; exact opq_load ho hy hr
  · obtain ⟨y, hy, rfl, rfl⟩ := one (f := id) h; exact opq_field ho hy hr
  · obtain ⟨y, hy, rfl, rfl⟩ := one (f := id) h; exact opq_fieldAddr ho hy hr
  · split at h
    · rename_i hc
      obtain ⟨y, hy, rfl, rfl⟩ := one (f := id) h; exact opq_extract ho hc hy hr
    · cases h
  · obtain ⟨hi, h⟩ := ite_some' h
    simp only [Option.some.injEq, Prod.mk.injEq] at h
    obtain ⟨rfl, rfl⟩ := h
    exact opq_makeInterface ho hi hr
  · obtain ⟨hi, h⟩ := ite_some' h
    simp only [Option.some.injEq, Prod.mk.injEq] at h
    obtain ⟨rfl, rfl⟩ := h
    exact opq_nilCheck ho hi hr
  · obtain ⟨hi, h⟩ := ite_some' h
    obtain ⟨y, hy, rfl, rfl⟩ := onev h; exact opq_binOpS ho hy hi hr
  · obtain ⟨y, hy, rfl, rfl⟩ := onev h; exact opq_unOp ho hy hr
  · obtain ⟨y, hy, rfl, rfl⟩ := one h; exact opq_convertA ho hy hr
  · obtain ⟨y, hy, rfl, rfl⟩ := onev h; exact opq_indexS ho hy hr
  · obtain ⟨y, hy, rfl, rfl⟩ := one (f := id) h; exact opq_indexAddr ho hy hr
  · obtain ⟨y, hy, rfl, rfl⟩ := one (f := id) h; exact opq_slice ho hy hr
  · obtain ⟨hi, h⟩ := ite_some' h
    split at h
    · split at h
      · simp only [Option.some.injEq, Prod.mk.injEq] at h
        obtain ⟨rfl, rfl⟩ := h
        exact opq_box_mut ho hi hr
      · simp only [Option.some.injEq, Prod.mk.injEq] at h
        obtain ⟨rfl, rfl⟩ := h
        exact opq_box_ro ho hi hr
    · cases h
  · obtain ⟨z, hz, h⟩ := Option.bind_eq_some_iff.1 h
    obtain ⟨hi, h⟩ := ite_some' h
    split at h
    · split at h
      · simp only [Option.some.injEq, Prod.mk.injEq] at h
        obtain ⟨rfl, rfl⟩ := h
        exact opq_alloc_mut ho hz hi hr
      · simp only [Option.some.injEq, Prod.mk.injEq] at h
        obtain ⟨rfl, rfl⟩ := h
        exact opq_alloc_ro ho hz hi hr
    · cases h
  · obtain ⟨y, hy, he⟩ := Option.map_eq_some_iff.1 h
    simp only [Prod.mk.injEq] at he
    obtain ⟨rfl, rfl⟩ := he
    exact opq_store ho hy hr
  · obtain ⟨y, hy, rfl, rfl⟩ := one (f := id) h; exact opq_build ho hy hr
  · obtain ⟨es, hes, h⟩ := Option.bind_eq_some_iff.1 h
    split at h
    · split at h
      · simp only [Option.some.injEq, Prod.mk.injEq] at h
        obtain ⟨rfl, rfl⟩ := h
        exact opq_buildSlice_mut ho hes hr
      · simp only [Option.some.injEq, Prod.mk.injEq] at h
        obtain ⟨rfl, rfl⟩ := h
        exact opq_buildSlice_ro ho hes hr
    · cases h
  · simp only [Option.some.injEq, Prod.mk.injEq] at h
    obtain ⟨rfl, rfl⟩ := h
    exact opq_makeFunc ho hr
  · rename_i c
    split at h
    · rename_i b hb
      obtain ⟨y, hy, rfl, rfl⟩ := onev h
      obtain ⟨ce, args, ts⟩ := c
      have hb : ce = .builtin b := hb
      subst hb
      exact opq_builtin ho hy hr
    · cases h
  · cases h

/-- What an operation makes that leaves what is known as it is. -/
def aopP (P : Program) (o : Oper) (ρ : Operand → AV) (σ : ASt) : Option AV :=
  match o.op with
  | .store _ _ _ => none
  | _ => (aop P [] o ρ σ).map (·.1)
theorem aopP_spec {o : Oper} {ρ : Operand → AV} {r : AV} (h : aopP P o ρ σ = some r) : aop P [] o ρ σ = some (r, σ) := by
  unfold aopP at h
  split at h
  · cases h
  · rename_i hns
    obtain ⟨⟨r', τ⟩, h1, rfl⟩ := Option.map_eq_some_iff.1 h
    rw [h1]
    have : τ = σ := by
      unfold aop at h1
      split at h1
      case h_18 => rename_i t x y ho; exact absurd ho (hns t x y)
      all_goals first
        | (simp only [Option.some.injEq, Prod.mk.injEq] at h1; exact h1.2.symm)
        | (obtain ⟨y, hy, he⟩ := Option.map_eq_some_iff.1 h1; simp only [Prod.mk.injEq] at he; exact he.2.symm)
        | (split at h1 <;> first
            | (simp only [Option.some.injEq, Prod.mk.injEq] at h1; exact h1.2.symm)
            | (obtain ⟨y, hy, he⟩ := Option.map_eq_some_iff.1 h1; simp only [Prod.mk.injEq] at he; exact he.2.symm)
            | (split at h1 <;> first | (simp only [List.not_mem_nil, if_false, Option.some.injEq, Prod.mk.injEq] at h1; exact h1.2.symm) | cases h1)
            | cases h1)
        | (obtain ⟨z, hz, h1⟩ := Option.bind_eq_some_iff.1 h1
           first
           | (obtain ⟨_, h1⟩ := ite_some' h1
              split at h1
              · simp only [List.not_mem_nil, if_false, Option.some.injEq, Prod.mk.injEq] at h1; exact h1.2.symm
              · cases h1)
           | (split at h1
              · simp only [List.not_mem_nil, if_false, Option.some.injEq, Prod.mk.injEq] at h1; exact h1.2.symm
              · cases h1))
        | cases h1
    rw [this]
/-- When it is carried out, if that hangs on one known value. -/
def gcond (ops : Array Oper) (o : Oper) (fr : List AV) : Option Bool :=
  match o.guard with
  | none => none
  | some (j, want) =>
    match (ops[j]?).bind (·.dst) with
    | none => none
    | some d => match fget fr d with
      | .p (.bool b) => some (if want = true then b else !b)
      | .opt c (.p (.bool b)) => some (c && (if want = true then b else !b))
      | .opt false _ => some false
      | _ => none
theorem gcond_spec {ops : Array Oper} {o : Oper} {fr : List AV} {c : Bool} (h : gcond ops o fr = some c) {G w D a} {σ : ASt} (hs : Sim G fr σ D a w) : Region.wanted o (yielded ops a.tmps) = c := by
  unfold gcond at h
  unfold Region.wanted
  cases hg : o.guard with
  | none => rw [hg] at h; cases h
  | some jw =>
    obtain ⟨j, want⟩ := jw
    rw [hg] at h
    simp only at h ⊢
    unfold yielded
    cases hd : (ops[j]?).bind (·.dst) with
    | none => rw [hd] at h; cases h
    | some d =>
      rw [hd] at h
      simp only [Option.bind_some] at h ⊢
      have hr := hs.ev (.tmp d)
      simp only [aev, Act.eval] at hr
      have key : ∀ v, Rep G w (fget fr d) v → ((match v with | .bool b => some b | _ => none : Option Bool) == some want) = c := by
        intro v hr
        split at h
        · rename_i b hf
          rw [hf] at hr
          cases hr
          obtain rfl := Option.some.inj h
          cases b <;> cases want <;> rfl
        · rename_i c' b hf
          rw [hf] at hr
          obtain rfl := Option.some.inj h
          cases hr with
          | opt _ _ _ h1 h0 =>
            cases c' with
            | false => rw [h0 rfl]; rfl
            | true =>
              have := h1 rfl
              cases this
              cases b <;> cases want <;> rfl
        · rename_i v' _ hf
          rw [hf] at hr
          obtain rfl := Option.some.inj h
          cases hr with
          | opt _ _ _ h1 h0 => rw [h0 rfl]; rfl
        · cases h
      have h2 := key _ hr
      rw [Array.getD_eq_getD_getElem?] at h2
      cases hv : a.tmps[d]? with
      | none => rw [hv] at h2; exact h2
      | some v =>
        rw [hv] at h2
        simp only [Option.getD_some] at h2
        cases v <;> exact h2
/-- A step that is not looked into but by its own rules. -/
inductive Shut (p : Prop) : Prop where
  | mk (h : p) : Shut p
theorem Shut.out {p : Prop} (h : Shut p) : p := h.1
/-- As far as it goes. -/
def ARun (P : Program) (D : List Deferred) (ops : Array Oper) (Q : Exit → List AV → ASt → Prop) (mu : List Nat) : List Oper → List AV → ASt → Prop
  | [], fr, σ => Q .normal fr σ
  | o :: rest, fr, σ =>
    match o.guard with
    | none =>
      match aop P mu o (aev fr) σ with
      | some (r, τ) => Shut (ARun P D ops Q mu rest (aput fr o.dst r) τ)
      | none => AWL P D ops Q (o :: rest) fr σ
    | some _ =>
      match gcond ops o fr with
      | some c =>
        match aopP P o (fun x => strip c (aev fr x)) σ with
        | some r => Shut (ARun P D ops Q mu rest (aput fr o.dst (.opt c r)) σ)
        | none => AWL P D ops Q (o :: rest) fr σ
      | none => if awanted ops o fr = some false then Shut (ARun P D ops Q mu rest (aput fr o.dst (.p undef)) σ) else AWL P D ops Q (o :: rest) fr σ
theorem shut_nil {ops : Array Oper} {mu : List Nat} : Shut (ARun P D ops Q mu [] fr σ) ↔ Q .normal fr σ := ⟨fun h => h.1, fun h => ⟨h⟩⟩
theorem shut_cons {ops : Array Oper} {mu : List Nat} {o : Oper} {rest : List Oper} : Shut (ARun P D ops Q mu (o :: rest) fr σ) ↔ (match o.guard with
    | none =>
      match aop P mu o (aev fr) σ with
      | some (r, τ) => Shut (ARun P D ops Q mu rest (aput fr o.dst r) τ)
      | none => AWL P D ops Q (o :: rest) fr σ
    | some _ =>
      match gcond ops o fr with
      | some c =>
        match aopP P o (fun x => strip c (aev fr x)) σ with
        | some r => Shut (ARun P D ops Q mu rest (aput fr o.dst (.opt c r)) σ)
        | none => AWL P D ops Q (o :: rest) fr σ
      | none => if awanted ops o fr = some false then Shut (ARun P D ops Q mu rest (aput fr o.dst (.p undef)) σ) else AWL P D ops Q (o :: rest) fr σ) := ⟨fun h => h.1, fun h => ⟨h⟩⟩
theorem awl_spec {ops : Array Oper} {o : Oper} {rest : List Oper} {c : Bool} (hc : gcond ops o fr = some c) {r : AV} (h : aopP P o (fun x => strip c (aev fr x)) σ = some r) (hk : AWL P D ops Q rest (aput fr o.dst (.opt c r)) σ) : AWL P D ops Q (o :: rest) fr σ := by
  intro G a w hs
  have hw := gcond_spec hc hs
  unfold wpList
  cases c with
  | false =>
    rw [if_neg (by rw [hw]; simp)]
    exact hk G (a.put o.dst undef) w (hs.put o.dst (.opt false r undef (fun e => by cases e) (fun _ => rfl)))
  | true =>
    rw [if_pos hw]
    have hq := opq_aop (R := fun r' σ' => r' = r ∧ σ' = σ) (aopP_spec h) ⟨rfl, rfl⟩ G a.eval w (fun x => strip_rep rfl (hs.ev x)) hs.w
    unfold wpO
    have key : ∀ v w', Outc G w (fun r' σ' => r' = r ∧ σ' = σ) v w' → wpList P ops (lift G w D Q) rest (a.put o.dst v) w' := by
      rintro v w' ⟨r', G', σ', hl, hw', hr, rfl, rfl⟩
      have := hk G' (a.put o.dst v) w' ((hs.le hl hw').put o.dst (.opt true r' v (fun _ => hr) (fun e => by cases e)))
      exact wpList_weaken (fun e a w h => lift_le hl h) rest _ _ this
    generalize (execOp a.eval o).run P w = n at hq
    cases n with
    | halt => exact hq.elim
    | ok n w' =>
      cases n with
      | value v => exact key v w' hq
      | skip => exact key undef w' hq
      | enter f args =>
        refine Calls.mono hq fun e w'' he => ?_
        cases e with
        | returned v => exact key v w'' he
        | panicked c => exact he.elim
        | outgrown => exact he.elim
      | round l f tmps assign body =>
        refine RoundIn.mono hq fun e w'' he => ?_
        cases e with
        | returned v => exact key v w'' he
        | panicked c => exact he.elim
        | outgrown => exact he.elim
      | _ => exact hq.elim
theorem gcond_awanted {ops : Array Oper} {o : Oper} {rest : List Oper} {c : Bool} (hc : gcond ops o fr = some c) (h1 : c = true → AWL P D ops Q (o :: rest) fr σ) (h2 : c = false → AWL P D ops Q rest (aput fr o.dst (.p undef)) σ) : AWL P D ops Q (o :: rest) fr σ := by
  cases c with
  | true => exact h1 rfl
  | false =>
    intro G a w hs
    unfold wpList
    rw [if_neg (by rw [gcond_spec hc hs]; simp)]
    exact h2 rfl G (a.put o.dst undef) w (hs.put o.dst (.p undef))
theorem awl_run (mu : List Nat) {ops : Array Oper} : ∀ {l : List Oper} {fr : List AV} {σ : ASt}, ARun P D ops Q mu l fr σ → AWL P D ops Q l fr σ
  | [], fr, σ, h => awl_nil h
  | o :: rest, fr, σ, h => by
    unfold ARun at h
    split at h
    · rename_i hg
      have hw : awanted ops o fr = some true := by unfold awanted; rw [hg]
      split at h
      · rename_i r τ he
        exact awl_cons hw (opq_aop he (awl_run mu h.out))
      · exact h
    · split at h
      · rename_i c hc
        split at h
        · rename_i r he
          exact awl_spec hc he (awl_run mu h.out)
        · exact h
      · split at h
        · rename_i hw
          exact awl_skip hw (awl_run mu h.out)
        · exact h
theorem aw_run (mu : List Nat) {id : Nat} {l : List Oper} (h : Shut (ARun P D l.toArray Q mu l fr σ)) : AW P D (.region id l.toArray false) Q fr σ := aw_region (awl_run mu h.out)
theorem awl_run' (mu : List Nat) {ops : Array Oper} {l : List Oper} (h : Shut (ARun P D ops Q mu l fr σ)) : AWL P D ops Q l fr σ := awl_run mu h.out
/-- A call of a pure function. -/
theorem awl_pure {ops : Array Oper} {o : Oper} {rest : List Oper} {f : Operand} {aa : Array Operand} {ts : Array TypeId} (ho : o.op = .call { callee := .value f, args := aa, argTypes := ts }) (hw : awanted ops o fr = some true)
    {F : FuncId} {first cap : List AV} (hf : acallee (aev fr f) = some (F, first, cap)) (hc : callable P F = true) {args : List AV} (ha : first ++ aa.toList.map (aev fr) ++ cap = args) {r : AV} (h : APure P F args r) (hcl : ∀ a ∈ args, Cl a) (hr : Cl r)
    (hk : AWL P D ops Q rest (aput fr o.dst r) σ) : AWL P D ops Q (o :: rest) fr σ :=
  awl_cons hw (opq_call ho hf hc (by rw [ha]; exact (h.call hcl hr σ).mono fun r' σ' ⟨e1, e2⟩ => by subst e1; subst e2; exact hk))
/-- A call by a contract. -/
theorem awl_call {ops : Array Oper} {o : Oper} {rest : List Oper} {f : Operand} {aa : Array Operand} {ts : Array TypeId} (ho : o.op = .call { callee := .value f, args := aa, argTypes := ts }) (hw : awanted ops o fr = some true)
    {F : FuncId} {first cap : List AV} (hf : acallee (aev fr f) = some (F, first, cap)) (hc : callable P F = true) {R : AV → ASt → Prop} (h : ACall P F (first ++ aa.toList.map (aev fr) ++ cap) σ R)
    (hk : ∀ r τ, R r τ → AWL P D ops Q rest (aput fr o.dst r) τ) : AWL P D ops Q (o :: rest) fr σ :=
  awl_cons hw (opq_call ho hf hc (h.mono hk))
end Go.AL
