/- Parts of the proof of EvalReads: the logic, contracts, plain laws. -/
import Derived.Test.YtjldlcakinmajaaZEvalReads12
import Derived.Lib.ItoaLen
import Derived.Sort.Grow
import Derived.Laws.BytesArg
import Derived.Lib.ConvBytes
import Derived.Lib.AtoiAll
import Derived.Shelf.Strconv.Itoa3
import Derived.Lib.AtoiAllCases
/-! One step of a walk, as the default of an argument: it is looked for anew wherever the lemma is used. -/
namespace Go.AL
set_option linter.unusedVariables false
set_option linter.unusedSimpArgs false
variable {P : Program} {σ : ASt} {R : AV → ASt → Prop} {D : List Deferred} {Q : Exit → List AV → ASt → Prop} {fr : List AV} {ops : Array Oper}
/-- The variables that are written. -/
inductive Mu (l : List Nat) : Prop where
  | mk
theorem aw_runM {mu : List Nat} (m : Mu mu) {id : Nat} {l : List Oper} (h : Shut (ARun P D l.toArray Q mu l fr σ)) : AW P D (.region id l.toArray false) Q fr σ := aw_run mu h
theorem aw_ymixM {mu : List Nat} (m : Mu mu) {id : Nat} {l : List Oper} (hm : P.follows .mixedOrders = true) (hB : mixB .any (preSt mu l) (postSt mu l) = true) (h : Shut (YRun P l.toArray σ (fun fr => Shut (ARun P D l.toArray Q mu (postSt mu l) fr σ)) (preSt mu l) fr)) : AW P D (.region id l.toArray true) Q fr σ := aw_ymix mu hm hB h
theorem aw_zrunM {mu : List Nat} (m : Mu mu) {id : Nat} {l : List Oper} (hm : P.follows .mixedOrders = true) (hne : l.any (zst mu []) = true) (hB : zB mu [] l = true) (h : Shut (ZRun P mu [] l (fun fr σ => Q .normal fr σ) 0 l fr σ [] [])) : AW P D (.region id l.toArray true) Q fr σ := aw_zrun mu [] hm hne hB h
theorem awl_skipM {mu : List Nat} (m : Mu mu) {o : Oper} {rest : List Oper} (hw : awanted ops o fr = some false) (hk : Shut (ARun P D ops Q mu rest (aput fr o.dst (.p undef)) σ)) : AWL P D ops Q (o :: rest) fr σ := awl_skip' mu hw hk
theorem awl_pureM {mu : List Nat} (m : Mu mu) {o : Oper} {rest : List Oper} {f : Operand} {aa : Array Operand} {ts : Array TypeId} (ho : o.op = .call { callee := .value f, args := aa, argTypes := ts }) (hw : awanted ops o fr = some true)
    {F : FuncId} {first cap : List AV} (hf : acallee (aev fr f) = some (F, first, cap)) (hc : callable P F = true) {args : List AV} (ha : first ++ aa.toList.map (aev fr) ++ cap = args) {r : AV} (h : APure P F args r) (hcl : ∀ a ∈ args, Cl a) (hr : Cl r)
    (hk : Shut (ARun P D ops Q mu rest (aput fr o.dst r) σ)) : AWL P D ops Q (o :: rest) fr σ := awl_pure' mu ho hw hf hc ha h hcl hr hk
theorem awl_pureGM {mu : List Nat} (m : Mu mu) {o : Oper} {rest : List Oper} {f : Operand} {aa : Array Operand} {ts : Array TypeId} (ho : o.op = .call { callee := .value f, args := aa, argTypes := ts }) {c : Bool} (hg : gcond ops o fr = some c)
    {F : FuncId} {first cap : List AV} (hf : acallee (peel (aev fr f)) = some (F, first, cap)) (hc : callable P F = true) {args : List AV} (ha : first ++ aa.toList.map (fun x => peel (aev fr x)) ++ cap = args) {r : AV} (h : c = true → APure P F args r)
    (hok : okS c (aev fr f) = true ∧ ∀ x ∈ aa.toList, okS c (aev fr x) = true) (hcl : ∀ a ∈ args, Cl a) (hr : Cl r)
    (hk : Shut (ARun P D ops Q mu rest (aput fr o.dst (.opt c r)) σ)) : AWL P D ops Q (o :: rest) fr σ := awl_pure_guard mu ho hg hf hc ha h hok hcl hr hk
theorem awl_boxM {mu : List Nat} (m : Mu mu) {o : Oper} {rest : List Oper} {f : Operand} {aa : Array Operand} {ts : Array TypeId} (ho : o.op = .call { callee := .value f, args := aa, argTypes := ts }) (hw : awanted ops o fr = some true)
    {F : FuncId} {first cap : List AV} (hf : acallee (aev fr f) = some (F, first, cap)) (hc : callable P F = true) {args args' cs cs' : List AV} {r : AV} {b : Nat} (h : BK P F args cs r cs') (he : first ++ aa.toList.map (aev fr) ++ cap = args') (ha : ArgBs b args args')
    (hb : σ.bx b = some cs) (hbm : σ.mp b = none) (hbs : σ.sl b = none)
    (hk : Shut (ARun P D ops Q mu rest (aput fr o.dst r) { σ with bx := upd σ.bx b (some cs') })) : AWL P D ops Q (o :: rest) fr σ := awl_boxK mu ho hw hf hc h he ha hb hbm hbs hk
theorem aw_condT {c : Operand} {x y : Code} {t : Bool} (hc : aev fr c = .p (.bool t)) (ht : t = true) (h : AW P D x Q fr σ) : AW P D (.cond c x y) Q fr σ := aw_cond hc (fun _ => h) fun e => by rw [ht] at e; cases e
theorem aw_condF {c : Operand} {x y : Code} {t : Bool} (hc : aev fr c = .p (.bool t)) (ht : t = false) (h : AW P D y Q fr σ) : AW P D (.cond c x y) Q fr σ := aw_cond hc (fun e => by rw [ht] at e; cases e) fun _ => h
/-- Into a function. -/
theorem apure_in {f : FuncId} {fn : Func} {c : Code} {n : Nat} {args : List AV} {r : AV} {K : Prop} (hf : P.funcs[f]? = some fn) (hn : fn.ntmps = n) (hb : fn.body = some c) (k : K)
    (h : K → AW P [] c (RetQ P fn fun r' _ => r' = r) (args ++ List.replicate (n - args.length) (.p undef)) σ0 := by intro k; simp only [List.length_cons, List.length_nil, List.cons_append, List.nil_append, List.replicate]; exact k) : APure P f args r := apure_of hf hn hb (h k)
theorem aw_id {c : Code} (h : AW P D c Q fr σ) : AW P D c Q fr σ := h
theorem awl_id {l : List Oper} (h : AWL P D ops Q l fr σ) : AWL P D ops Q l fr σ := h
theorem yl_id {K : List AV → Prop} {l : List Oper} (h : YL P ops σ K l fr) : YL P ops σ K l fr := h
theorem zl_id {mu imp : List Nat} {l l' : List Oper} {K : List AV → ASt → Prop} {i : Nat} {old : List ASt} {pd : List Pend} (h : ZS P mu imp l K i l' fr σ old pd) : ZS P mu imp l K i l' fr σ old pd := h
/-- A step: ms the variables that are written, F what simp may use, C contracts. -/
theorem aw_W {P Q A B : Prop} (ms : List Nat) (F : A) (C : B) (k : Q) (h : Mu ms → A → B → Shut Q → P := by
  intro m F C k
  first
  | (with_reducible refine aw_id ?_
     first
     | (refine aw_seq ?_; exact k.1; done)
     | ((first | refine aw_runM m ?_ | refine aw_ymixM m draws (by decide +kernel) ?_); (try simp -implicitDefEqProofs (maxSteps := 1000000) [F]); exact k.1; done)
     | (refine aw_zrunM m draws (by decide +kernel) (by decide +kernel) ?_; (try simp -implicitDefEqProofs (maxSteps := 1000000) [F]); (repeat first | refine zcurL (by decide +kernel) ?_ | refine zcurH (by decide +kernel) ?_ | refine zcurL' (by decide +kernel) ?_ | refine zcurH' (by decide +kernel) ?_); exact k.1; done)
     | ((first | refine aw_yrun draws (by kernel_rfl) ?_ | refine aw_skip ?_ | refine aw_exit ?_); (try simp -implicitDefEqProofs (maxSteps := 1000000) [F]); exact k.1; done)
     | (refine aw_condT rfl (by with_reducible exact rfl) ?_; exact k.1; done)
     | (refine aw_condF rfl (by with_reducible exact rfl) ?_; exact k.1; done)
     | (refine aw_block ?_; exact k.1; done)
     | (refine aw_ret (ret_of (.inr rfl) (by simp; rfl) (Fin.of ?_)); exact k.1; done))
  | (with_reducible refine awl_id ?_
     first
     | ((first
         | refine awl_skipM m rfl ?_
         | refine awl_pureGM m rfl rfl rfl (by first | assumption | kernel_rfl) rfl (fun hc => by first | exact C.1 | exact C.2.1 | exact C.2.2.1 | exact C.2.2.2.1 | exact C.2.2.2.2.1 | exact C.2.2.2.2.2.1 | exact C.2.2.2.2.2.2.1 | exact C.2.2.2.2.2.2.2.1 | exact C.2.2.2.2.2.2.2.2.1 | exact C.2.2.2.2.2.2.2.2.2.1 | apply C.1 | apply C.2.1 | apply C.2.2.1 | apply C.2.2.2.1 | apply C.2.2.2.2.1 | apply C.2.2.2.2.2.1 | apply C.2.2.2.2.2.2.1 | apply C.2.2.2.2.2.2.2.1 | apply C.2.2.2.2.2.2.2.2.1 | apply C.2.2.2.2.2.2.2.2.2.1) (by simp) (by simp) (by simp) ?_
         | refine awl_pureM m rfl rfl rfl (by first | assumption | kernel_rfl) rfl (by first | exact C.1 | exact C.2.1 | exact C.2.2.1 | exact C.2.2.2.1 | exact C.2.2.2.2.1 | exact C.2.2.2.2.2.1 | exact C.2.2.2.2.2.2.1 | exact C.2.2.2.2.2.2.2.1 | exact C.2.2.2.2.2.2.2.2.1 | exact C.2.2.2.2.2.2.2.2.2.1 | apply C.1 | apply C.2.1 | apply C.2.2.1 | apply C.2.2.2.1 | apply C.2.2.2.2.1 | apply C.2.2.2.2.2.1 | apply C.2.2.2.2.2.2.1 | apply C.2.2.2.2.2.2.2.1 | apply C.2.2.2.2.2.2.2.2.1 | apply C.2.2.2.2.2.2.2.2.2.1) (by simp) (by simp) ?_)
        (try simp -implicitDefEqProofs (maxSteps := 1000000) [F])
        exact k.1; done)
     | (refine awl_boxM m rfl rfl rfl (by first | assumption | kernel_rfl) (by first | exact C.1 | exact C.2.1 | exact C.2.2.1 | exact C.2.2.2.1 | exact C.2.2.2.2.1 | exact C.2.2.2.2.2.1 | exact C.2.2.2.2.2.2.1 | exact C.2.2.2.2.2.2.2.1 | exact C.2.2.2.2.2.2.2.2.1 | exact C.2.2.2.2.2.2.2.2.2.1 | apply C.1 | apply C.2.1 | apply C.2.2.1 | apply C.2.2.2.1 | apply C.2.2.2.2.1 | apply C.2.2.2.2.2.1 | apply C.2.2.2.2.2.2.1 | apply C.2.2.2.2.2.2.2.1 | apply C.2.2.2.2.2.2.2.2.1 | apply C.2.2.2.2.2.2.2.2.2.1) rfl (by repeat (first | exact .nil | refine .cons (.ptr _) ?_ | refine .cons (.cl (by simp)) ?_)) ?_ ?_ ?_ ?_; (iterate 3 (focus (simp [σ0]; done))); simp -implicitDefEqProofs (maxSteps := 1000000) [F]; exact k.1; done))
  | (with_reducible refine yl_id ?_
     first
     | refine yl_skip rfl ?_
     | refine yl_pureG rfl rfl rfl (by first | assumption | kernel_rfl) rfl (fun hc => by first | exact C.1 | exact C.2.1 | exact C.2.2.1 | exact C.2.2.2.1 | exact C.2.2.2.2.1 | exact C.2.2.2.2.2.1 | exact C.2.2.2.2.2.2.1 | exact C.2.2.2.2.2.2.2.1 | exact C.2.2.2.2.2.2.2.2.1 | exact C.2.2.2.2.2.2.2.2.2.1 | apply C.1 | apply C.2.1 | apply C.2.2.1 | apply C.2.2.2.1 | apply C.2.2.2.2.1 | apply C.2.2.2.2.2.1 | apply C.2.2.2.2.2.2.1 | apply C.2.2.2.2.2.2.2.1 | apply C.2.2.2.2.2.2.2.2.1 | apply C.2.2.2.2.2.2.2.2.2.1) (by simp) (by simp) (by simp) ?_
     | refine yl_pure rfl rfl rfl (by first | assumption | kernel_rfl) rfl (by first | exact C.1 | exact C.2.1 | exact C.2.2.1 | exact C.2.2.2.1 | exact C.2.2.2.2.1 | exact C.2.2.2.2.2.1 | exact C.2.2.2.2.2.2.1 | exact C.2.2.2.2.2.2.2.1 | exact C.2.2.2.2.2.2.2.2.1 | exact C.2.2.2.2.2.2.2.2.2.1 | apply C.1 | apply C.2.1 | apply C.2.2.1 | apply C.2.2.2.1 | apply C.2.2.2.2.1 | apply C.2.2.2.2.2.1 | apply C.2.2.2.2.2.2.1 | apply C.2.2.2.2.2.2.2.1 | apply C.2.2.2.2.2.2.2.2.1 | apply C.2.2.2.2.2.2.2.2.2.1) (by simp) (by simp) ?_
     (try simp -implicitDefEqProofs (maxSteps := 1000000) [F])
     exact k.1; done)
  | (with_reducible refine zl_id ?_
     first
     | refine zl_skip (by simp) rfl ?_
     | refine zl_pure_guard (by simp) rfl rfl rfl (by first | assumption | kernel_rfl) rfl (fun hc => by first | exact C.1 | exact C.2.1 | exact C.2.2.1 | exact C.2.2.2.1 | exact C.2.2.2.2.1 | exact C.2.2.2.2.2.1 | exact C.2.2.2.2.2.2.1 | exact C.2.2.2.2.2.2.2.1 | exact C.2.2.2.2.2.2.2.2.1 | exact C.2.2.2.2.2.2.2.2.2.1 | apply C.1 | apply C.2.1 | apply C.2.2.1 | apply C.2.2.2.1 | apply C.2.2.2.2.1 | apply C.2.2.2.2.2.1 | apply C.2.2.2.2.2.2.1 | apply C.2.2.2.2.2.2.2.1 | apply C.2.2.2.2.2.2.2.2.1 | apply C.2.2.2.2.2.2.2.2.2.1) (by simp) (by simp) (by simp) ?_
     | refine zl_pure (by simp) rfl rfl rfl (by first | assumption | kernel_rfl) rfl (by first | exact C.1 | exact C.2.1 | exact C.2.2.1 | exact C.2.2.2.1 | exact C.2.2.2.2.1 | exact C.2.2.2.2.2.1 | exact C.2.2.2.2.2.2.1 | exact C.2.2.2.2.2.2.2.1 | exact C.2.2.2.2.2.2.2.2.1 | exact C.2.2.2.2.2.2.2.2.2.1 | apply C.1 | apply C.2.1 | apply C.2.2.1 | apply C.2.2.2.1 | apply C.2.2.2.2.1 | apply C.2.2.2.2.2.1 | apply C.2.2.2.2.2.2.1 | apply C.2.2.2.2.2.2.2.1 | apply C.2.2.2.2.2.2.2.2.1 | apply C.2.2.2.2.2.2.2.2.2.1) (by simp) (by simp) ?_
     (try simp -implicitDefEqProofs (maxSteps := 1000000) [F])
     (repeat first | refine zcurL (by decide +kernel) ?_ | refine zcurH (by decide +kernel) ?_ | refine zcurL' (by decide +kernel) ?_ | refine zcurH' (by decide +kernel) ?_)
     exact k.1; done)
  | (refine ret_of (.inl rfl) (by simp; rfl) (Fin.of ?_); exact k.1; done)
  | ((fail_if_success (with_reducible first | refine awl_id ?_ | refine aw_id ?_ | refine yl_id ?_ | refine zl_id ?_)); (first | refine awl_id ?_ | refine aw_id ?_ | refine yl_id ?_ | refine zl_id ?_); (try simp -implicitDefEqProofs (maxSteps := 1000000) [F]); exact k.1; done)) : P := h ⟨⟩ F C ⟨k⟩
/-- A step: ms the variables that are written, F what simp may use, C contracts. -/
theorem aw_N {P Q A B : Prop} (ms : List Nat) (F : A) (C : B) (k : Q) (h : Mu ms → A → B → Shut Q → P := by
  intro m F C k
  first
  | (with_reducible refine aw_id ?_
     first
     | (refine aw_seq ?_; exact k.1; done)
     | (refine aw_runM m ?_; (try simp -implicitDefEqProofs (maxSteps := 1000000) [F]); exact k.1; done)
     | ((first | refine aw_skip ?_ | refine aw_exit ?_); (try simp -implicitDefEqProofs (maxSteps := 1000000) [F]); exact k.1; done)
     | (refine aw_condT rfl (by with_reducible exact rfl) ?_; exact k.1; done)
     | (refine aw_condF rfl (by with_reducible exact rfl) ?_; exact k.1; done)
     | (refine aw_block ?_; exact k.1; done)
     | (refine aw_ret (ret_of (.inr rfl) (by simp; rfl) (Fin.of ?_)); exact k.1; done))
  | (with_reducible refine awl_id ?_
     first
     | ((first
         | refine awl_skipM m rfl ?_
         | refine awl_pureGM m rfl rfl rfl (by first | assumption | kernel_rfl) rfl (fun hc => by first | exact C.1 | exact C.2.1 | exact C.2.2.1 | exact C.2.2.2.1 | exact C.2.2.2.2.1 | exact C.2.2.2.2.2.1 | exact C.2.2.2.2.2.2.1 | exact C.2.2.2.2.2.2.2.1 | exact C.2.2.2.2.2.2.2.2.1 | exact C.2.2.2.2.2.2.2.2.2.1 | apply C.1 | apply C.2.1 | apply C.2.2.1 | apply C.2.2.2.1 | apply C.2.2.2.2.1 | apply C.2.2.2.2.2.1 | apply C.2.2.2.2.2.2.1 | apply C.2.2.2.2.2.2.2.1 | apply C.2.2.2.2.2.2.2.2.1 | apply C.2.2.2.2.2.2.2.2.2.1) (by simp) (by simp) (by simp) ?_
         | refine awl_pureM m rfl rfl rfl (by first | assumption | kernel_rfl) rfl (by first | exact C.1 | exact C.2.1 | exact C.2.2.1 | exact C.2.2.2.1 | exact C.2.2.2.2.1 | exact C.2.2.2.2.2.1 | exact C.2.2.2.2.2.2.1 | exact C.2.2.2.2.2.2.2.1 | exact C.2.2.2.2.2.2.2.2.1 | exact C.2.2.2.2.2.2.2.2.2.1 | apply C.1 | apply C.2.1 | apply C.2.2.1 | apply C.2.2.2.1 | apply C.2.2.2.2.1 | apply C.2.2.2.2.2.1 | apply C.2.2.2.2.2.2.1 | apply C.2.2.2.2.2.2.2.1 | apply C.2.2.2.2.2.2.2.2.1 | apply C.2.2.2.2.2.2.2.2.2.1) (by simp) (by simp) ?_)
        (try simp -implicitDefEqProofs (maxSteps := 1000000) [F])
        exact k.1; done)
     | (refine awl_boxM m rfl rfl rfl (by first | assumption | kernel_rfl) (by first | exact C.1 | exact C.2.1 | exact C.2.2.1 | exact C.2.2.2.1 | exact C.2.2.2.2.1 | exact C.2.2.2.2.2.1 | exact C.2.2.2.2.2.2.1 | exact C.2.2.2.2.2.2.2.1 | exact C.2.2.2.2.2.2.2.2.1 | exact C.2.2.2.2.2.2.2.2.2.1 | apply C.1 | apply C.2.1 | apply C.2.2.1 | apply C.2.2.2.1 | apply C.2.2.2.2.1 | apply C.2.2.2.2.2.1 | apply C.2.2.2.2.2.2.1 | apply C.2.2.2.2.2.2.2.1 | apply C.2.2.2.2.2.2.2.2.1 | apply C.2.2.2.2.2.2.2.2.2.1) rfl (by repeat (first | exact .nil | refine .cons (.ptr _) ?_ | refine .cons (.cl (by simp)) ?_)) ?_ ?_ ?_ ?_; (iterate 3 (focus (simp [σ0]; done))); simp -implicitDefEqProofs (maxSteps := 1000000) [F]; exact k.1; done))
  | (refine ret_of (.inl rfl) (by simp; rfl) (Fin.of ?_); exact k.1; done)
  | ((fail_if_success (with_reducible first | refine awl_id ?_ | refine aw_id ?_)); (first | refine awl_id ?_ | refine aw_id ?_); (try simp -implicitDefEqProofs (maxSteps := 1000000) [F]); exact k.1; done)) : P := h ⟨⟩ F C ⟨k⟩
/-- A step: ms the variables that are written, F what simp may use, C contracts. -/
theorem aw_V {P Q A B : Prop} (ms : List Nat) (F : A) (C : B) (k : Q) (h : Mu ms → A → B → Shut Q → P := by
  intro m F C k
  first
  | (with_reducible refine aw_id ?_
     first
     | (refine aw_seq ?_; exact k.1; done)
     | ((first | refine aw_runM m ?_ | refine aw_ymixM m draws (by decide +kernel) ?_); (try simp -implicitDefEqProofs (maxSteps := 1000000) [F]); exact k.1; done)
     | (refine aw_zrunM m draws (by decide +kernel) (by decide +kernel) ?_; (try simp -implicitDefEqProofs (maxSteps := 1000000) [F]); (repeat first | refine zcurL (by decide +kernel) ?_ | refine zcurH (by decide +kernel) ?_ | refine zcurL' (by decide +kernel) ?_ | refine zcurH' (by decide +kernel) ?_); exact k.1; done)
     | ((first | refine aw_yrun draws (by kernel_rfl) ?_ | refine aw_skip ?_ | refine aw_exit ?_); (try simp -implicitDefEqProofs (maxSteps := 1000000) [F]); exact k.1; done)
     | (refine aw_condT rfl (by with_reducible exact rfl) ?_; exact k.1; done)
     | (refine aw_condF rfl (by with_reducible exact rfl) ?_; exact k.1; done)
     | (refine aw_block ?_; exact k.1; done)
     | (refine aw_ret (ret_of (.inr rfl) (by simp; rfl) (Fin.close (Fin.of ?_))); exact k.1; done))
  | (with_reducible refine awl_id ?_
     first
     | ((first
         | refine awl_skipM m rfl ?_
         | refine awl_pureGM m rfl rfl rfl (by first | assumption | kernel_rfl) rfl (fun hc => by first | exact C.1 | exact C.2.1 | exact C.2.2.1 | exact C.2.2.2.1 | exact C.2.2.2.2.1 | exact C.2.2.2.2.2.1 | exact C.2.2.2.2.2.2.1 | exact C.2.2.2.2.2.2.2.1 | exact C.2.2.2.2.2.2.2.2.1 | exact C.2.2.2.2.2.2.2.2.2.1 | apply C.1 | apply C.2.1 | apply C.2.2.1 | apply C.2.2.2.1 | apply C.2.2.2.2.1 | apply C.2.2.2.2.2.1 | apply C.2.2.2.2.2.2.1 | apply C.2.2.2.2.2.2.2.1 | apply C.2.2.2.2.2.2.2.2.1 | apply C.2.2.2.2.2.2.2.2.2.1) (by simp) (by simp) (by simp) ?_
         | refine awl_pureM m rfl rfl rfl (by first | assumption | kernel_rfl) rfl (by first | exact C.1 | exact C.2.1 | exact C.2.2.1 | exact C.2.2.2.1 | exact C.2.2.2.2.1 | exact C.2.2.2.2.2.1 | exact C.2.2.2.2.2.2.1 | exact C.2.2.2.2.2.2.2.1 | exact C.2.2.2.2.2.2.2.2.1 | exact C.2.2.2.2.2.2.2.2.2.1 | apply C.1 | apply C.2.1 | apply C.2.2.1 | apply C.2.2.2.1 | apply C.2.2.2.2.1 | apply C.2.2.2.2.2.1 | apply C.2.2.2.2.2.2.1 | apply C.2.2.2.2.2.2.2.1 | apply C.2.2.2.2.2.2.2.2.1 | apply C.2.2.2.2.2.2.2.2.2.1) (by simp) (by simp) ?_)
        (try simp -implicitDefEqProofs (maxSteps := 1000000) [F])
        exact k.1; done)
     | (refine awl_boxM m rfl rfl rfl (by first | assumption | kernel_rfl) (by first | exact C.1 | exact C.2.1 | exact C.2.2.1 | exact C.2.2.2.1 | exact C.2.2.2.2.1 | exact C.2.2.2.2.2.1 | exact C.2.2.2.2.2.2.1 | exact C.2.2.2.2.2.2.2.1 | exact C.2.2.2.2.2.2.2.2.1 | exact C.2.2.2.2.2.2.2.2.2.1 | apply C.1 | apply C.2.1 | apply C.2.2.1 | apply C.2.2.2.1 | apply C.2.2.2.2.1 | apply C.2.2.2.2.2.1 | apply C.2.2.2.2.2.2.1 | apply C.2.2.2.2.2.2.2.1 | apply C.2.2.2.2.2.2.2.2.1 | apply C.2.2.2.2.2.2.2.2.2.1) rfl (by repeat (first | exact .nil | refine .cons (.ptr _) ?_ | refine .cons (.cl (by simp)) ?_)) ?_ ?_ ?_ ?_; (iterate 3 (focus (simp [σ0]; done))); simp -implicitDefEqProofs (maxSteps := 1000000) [F]; exact k.1; done))
  | (with_reducible refine yl_id ?_
     first
     | refine yl_skip rfl ?_
     | refine yl_pureG rfl rfl rfl (by first | assumption | kernel_rfl) rfl (fun hc => by first | exact C.1 | exact C.2.1 | exact C.2.2.1 | exact C.2.2.2.1 | exact C.2.2.2.2.1 | exact C.2.2.2.2.2.1 | exact C.2.2.2.2.2.2.1 | exact C.2.2.2.2.2.2.2.1 | exact C.2.2.2.2.2.2.2.2.1 | exact C.2.2.2.2.2.2.2.2.2.1 | apply C.1 | apply C.2.1 | apply C.2.2.1 | apply C.2.2.2.1 | apply C.2.2.2.2.1 | apply C.2.2.2.2.2.1 | apply C.2.2.2.2.2.2.1 | apply C.2.2.2.2.2.2.2.1 | apply C.2.2.2.2.2.2.2.2.1 | apply C.2.2.2.2.2.2.2.2.2.1) (by simp) (by simp) (by simp) ?_
     | refine yl_pure rfl rfl rfl (by first | assumption | kernel_rfl) rfl (by first | exact C.1 | exact C.2.1 | exact C.2.2.1 | exact C.2.2.2.1 | exact C.2.2.2.2.1 | exact C.2.2.2.2.2.1 | exact C.2.2.2.2.2.2.1 | exact C.2.2.2.2.2.2.2.1 | exact C.2.2.2.2.2.2.2.2.1 | exact C.2.2.2.2.2.2.2.2.2.1 | apply C.1 | apply C.2.1 | apply C.2.2.1 | apply C.2.2.2.1 | apply C.2.2.2.2.1 | apply C.2.2.2.2.2.1 | apply C.2.2.2.2.2.2.1 | apply C.2.2.2.2.2.2.2.1 | apply C.2.2.2.2.2.2.2.2.1 | apply C.2.2.2.2.2.2.2.2.2.1) (by simp) (by simp) ?_
     (try simp -implicitDefEqProofs (maxSteps := 1000000) [F])
     exact k.1; done)
  | (with_reducible refine zl_id ?_
     first
     | refine zl_skip (by simp) rfl ?_
     | refine zl_pure_guard (by simp) rfl rfl rfl (by first | assumption | kernel_rfl) rfl (fun hc => by first | exact C.1 | exact C.2.1 | exact C.2.2.1 | exact C.2.2.2.1 | exact C.2.2.2.2.1 | exact C.2.2.2.2.2.1 | exact C.2.2.2.2.2.2.1 | exact C.2.2.2.2.2.2.2.1 | exact C.2.2.2.2.2.2.2.2.1 | exact C.2.2.2.2.2.2.2.2.2.1 | apply C.1 | apply C.2.1 | apply C.2.2.1 | apply C.2.2.2.1 | apply C.2.2.2.2.1 | apply C.2.2.2.2.2.1 | apply C.2.2.2.2.2.2.1 | apply C.2.2.2.2.2.2.2.1 | apply C.2.2.2.2.2.2.2.2.1 | apply C.2.2.2.2.2.2.2.2.2.1) (by simp) (by simp) (by simp) ?_
     | refine zl_pure (by simp) rfl rfl rfl (by first | assumption | kernel_rfl) rfl (by first | exact C.1 | exact C.2.1 | exact C.2.2.1 | exact C.2.2.2.1 | exact C.2.2.2.2.1 | exact C.2.2.2.2.2.1 | exact C.2.2.2.2.2.2.1 | exact C.2.2.2.2.2.2.2.1 | exact C.2.2.2.2.2.2.2.2.1 | exact C.2.2.2.2.2.2.2.2.2.1 | apply C.1 | apply C.2.1 | apply C.2.2.1 | apply C.2.2.2.1 | apply C.2.2.2.2.1 | apply C.2.2.2.2.2.1 | apply C.2.2.2.2.2.2.1 | apply C.2.2.2.2.2.2.2.1 | apply C.2.2.2.2.2.2.2.2.1 | apply C.2.2.2.2.2.2.2.2.2.1) (by simp) (by simp) ?_
     (try simp -implicitDefEqProofs (maxSteps := 1000000) [F])
     (repeat first | refine zcurL (by decide +kernel) ?_ | refine zcurH (by decide +kernel) ?_ | refine zcurL' (by decide +kernel) ?_ | refine zcurH' (by decide +kernel) ?_)
     exact k.1; done)
  | (refine ret_of (.inl rfl) (by simp; rfl) (Fin.close (Fin.of ?_)); exact k.1; done)
  | ((fail_if_success (with_reducible first | refine awl_id ?_ | refine aw_id ?_ | refine yl_id ?_ | refine zl_id ?_)); (first | refine awl_id ?_ | refine aw_id ?_ | refine yl_id ?_ | refine zl_id ?_); (try simp -implicitDefEqProofs (maxSteps := 1000000) [F]); exact k.1; done)) : P := h ⟨⟩ F C ⟨k⟩
/-- A step: ms the variables that are written, F what simp may use, C contracts. -/
theorem aw_M {P Q A B : Prop} (ms : List Nat) (F : A) (C : B) (k : Q) (h : Mu ms → A → B → Shut Q → P := by
  intro m F C k
  first
  | (with_reducible refine aw_id ?_
     first
     | (refine aw_seq ?_; exact k.1; done)
     | (refine aw_runM m ?_; (try simp -implicitDefEqProofs (maxSteps := 1000000) [F]); exact k.1; done)
     | ((first | refine aw_skip ?_ | refine aw_exit ?_); (try simp -implicitDefEqProofs (maxSteps := 1000000) [F]); exact k.1; done)
     | (refine aw_condT rfl (by with_reducible exact rfl) ?_; exact k.1; done)
     | (refine aw_condF rfl (by with_reducible exact rfl) ?_; exact k.1; done)
     | (refine aw_block ?_; exact k.1; done)
     | (refine aw_ret (ret_of (.inr rfl) (by simp; rfl) (Fin.close (Fin.of ?_))); exact k.1; done))
  | (with_reducible refine awl_id ?_
     first
     | ((first
         | refine awl_skipM m rfl ?_
         | refine awl_pureGM m rfl rfl rfl (by first | assumption | kernel_rfl) rfl (fun hc => by first | exact C.1 | exact C.2.1 | exact C.2.2.1 | exact C.2.2.2.1 | exact C.2.2.2.2.1 | exact C.2.2.2.2.2.1 | exact C.2.2.2.2.2.2.1 | exact C.2.2.2.2.2.2.2.1 | exact C.2.2.2.2.2.2.2.2.1 | exact C.2.2.2.2.2.2.2.2.2.1 | apply C.1 | apply C.2.1 | apply C.2.2.1 | apply C.2.2.2.1 | apply C.2.2.2.2.1 | apply C.2.2.2.2.2.1 | apply C.2.2.2.2.2.2.1 | apply C.2.2.2.2.2.2.2.1 | apply C.2.2.2.2.2.2.2.2.1 | apply C.2.2.2.2.2.2.2.2.2.1) (by simp) (by simp) (by simp) ?_
         | refine awl_pureM m rfl rfl rfl (by first | assumption | kernel_rfl) rfl (by first | exact C.1 | exact C.2.1 | exact C.2.2.1 | exact C.2.2.2.1 | exact C.2.2.2.2.1 | exact C.2.2.2.2.2.1 | exact C.2.2.2.2.2.2.1 | exact C.2.2.2.2.2.2.2.1 | exact C.2.2.2.2.2.2.2.2.1 | exact C.2.2.2.2.2.2.2.2.2.1 | apply C.1 | apply C.2.1 | apply C.2.2.1 | apply C.2.2.2.1 | apply C.2.2.2.2.1 | apply C.2.2.2.2.2.1 | apply C.2.2.2.2.2.2.1 | apply C.2.2.2.2.2.2.2.1 | apply C.2.2.2.2.2.2.2.2.1 | apply C.2.2.2.2.2.2.2.2.2.1) (by simp) (by simp) ?_)
        (try simp -implicitDefEqProofs (maxSteps := 1000000) [F])
        exact k.1; done)
     | (refine awl_boxM m rfl rfl rfl (by first | assumption | kernel_rfl) (by first | exact C.1 | exact C.2.1 | exact C.2.2.1 | exact C.2.2.2.1 | exact C.2.2.2.2.1 | exact C.2.2.2.2.2.1 | exact C.2.2.2.2.2.2.1 | exact C.2.2.2.2.2.2.2.1 | exact C.2.2.2.2.2.2.2.2.1 | exact C.2.2.2.2.2.2.2.2.2.1 | apply C.1 | apply C.2.1 | apply C.2.2.1 | apply C.2.2.2.1 | apply C.2.2.2.2.1 | apply C.2.2.2.2.2.1 | apply C.2.2.2.2.2.2.1 | apply C.2.2.2.2.2.2.2.1 | apply C.2.2.2.2.2.2.2.2.1 | apply C.2.2.2.2.2.2.2.2.2.1) rfl (by repeat (first | exact .nil | refine .cons (.ptr _) ?_ | refine .cons (.cl (by simp)) ?_)) ?_ ?_ ?_ ?_; (iterate 3 (focus (simp [σ0]; done))); simp -implicitDefEqProofs (maxSteps := 1000000) [F]; exact k.1; done))
  | (refine ret_of (.inl rfl) (by simp; rfl) (Fin.close (Fin.of ?_)); exact k.1; done)
  | ((fail_if_success (with_reducible first | refine awl_id ?_ | refine aw_id ?_)); (first | refine awl_id ?_ | refine aw_id ?_); (try simp -implicitDefEqProofs (maxSteps := 1000000) [F]); exact k.1; done)) : P := h ⟨⟩ F C ⟨k⟩
end Go.AL
/-! No contracts of the library here. -/
namespace Go.AL
end Go.AL
/-! Contracts: gridironref01's texts. -/
namespace Go.AL
open Go.Proofs
set_option linter.unusedSimpArgs false
set_option linter.unusedVariables false
set_option maxRecDepth 100000 in
theorem size_ok (a : Int) (h1 : -9223372036854775808 ≤ a) (h2 : a ≤ 9223372036854775807) : APure Try.prog 154 [vi a] (vu a.natAbs) := by
  refine apure_in Try.func154 Try.ntmps154 rfl ?_
  repeat' first | refine aw_N [] trivial trivial ?_ | refine aw_cond rfl (fun h => ?_) (fun h => ?_)
  · simp [tupOf] at h ⊢
    rw [wrap_id (n := a + 1) (by omega) (by omega), wrap_id (by omega) (by omega), uwrap_id (n := -(a + 1)) (by omega) (by omega), uwrap_id (by omega) (by omega)]
    omega
  · simp [tupOf] at h ⊢
    rw [uwrap_id (by omega) (by omega)]
    omega
def dig (d : Nat) : ByteArray := ⟨#[UInt8.ofNat (48 + d)]⟩
def figs (u : Nat) : ByteArray := if u < 10 then dig u else figs (u / 10) ++ dig (u % 10)
theorem figs_len (u : Nat) (h : u < 18446744073709551616) : (figs u).size ≤ 20 := by
  have key : ∀ (n u : Nat), u < 10 ^ (n + 1) → (figs u).size ≤ n + 1 := by
    intro n
    induction n with
    | zero => intro u hu; unfold figs; rw [if_pos (by omega)]; exact Nat.le_refl _
    | succ n ih =>
      intro u hu
      unfold figs
      split
      · have e : (dig u).size = 1 := rfl
        omega
      · have := ih (u / 10) (by rw [Nat.pow_succ] at hu; omega)
        rw [ByteArray.size_append]
        have e : (dig (u % 10)).size = 1 := rfl
        omega
  exact key 19 u (by omega)
set_option maxRecDepth 100000 in
theorem figures_ok (u : Nat) (h : u < 18446744073709551616) : APure Try.prog 174 [vu u] (vs (figs u)) := by
  induction u using Nat.strongRecOn with
  | _ u ih =>
    have hd : strOf [IntKind.u8.wrap (IntKind.u64.wrap (48 + (u : Int).tmod 10))] = dig (u % 10) := by
      rw [show (u : Int).tmod 10 = ((u % 10 : Nat) : Int) from rfl, uwrap_id (by omega) (by omega), bwrap_id (by omega) (by omega)]
      simp only [strOf, dig, List.map_cons, List.map_nil]
      rw [show (48 + ((u % 10 : Nat) : Int)).toNat = 48 + u % 10 by omega]
    have hq : IntKind.u64.wrap ((u : Int) / 10) = ((u / 10 : Nat) : Int) := by rw [uwrap_id (by omega) (by omega)]; rfl
    have hs : (figs (u / 10)).size + (dig (u % 10)).size ≤ 9223372036854775807 := by
      have := figs_len (u / 10) (by omega)
      have e : (dig (u % 10)).size = 1 := rfl
      omega
    have hf := figs.eq_1 u
    refine apure_in Try.func174 Try.ntmps174 rfl ?_
    repeat' first | refine aw_N [] trivial trivial ?_ | refine aw_cond rfl (fun h => ?_) (fun h => ?_)
    · have h10 : 10 ≤ u := by simp at h; omega
      rw [hd, hq]
      refine awl_pure' [] rfl rfl rfl (by kernel_rfl) rfl (ih (u / 10) (by omega) (by omega)) (by simp) (by simp) ?_
      simp -implicitDefEqProofs [hs]
      repeat' first | refine aw_N [] trivial trivial ?_ | refine aw_cond rfl (fun h => ?_) (fun h => ?_)
      rw [hf, if_neg (by omega)]
      rfl
    · have h10 : u < 10 := by simp at h; omega
      rw [hd, hf, if_pos h10, Nat.mod_eq_of_lt h10]
      rfl
/-- A number's text. -/
def textI (a : Int) : ByteArray := if a < 0 then ⟨#[45]⟩ ++ figs a.natAbs else figs a.natAbs
set_option maxRecDepth 100000 in
theorem rtext1_ok (a : Int) (h1 : -9223372036854775808 ≤ a) (h2 : a ≤ 9223372036854775807) : APure Try.prog 168 [vi a] (vs (textI a)) := by
  have hl := figs_len a.natAbs (by omega)
  have hs : (⟨#[45]⟩ : ByteArray).size + (figs a.natAbs).size ≤ 9223372036854775807 := by
    have e : (⟨#[45]⟩ : ByteArray).size = 1 := rfl
    omega
  refine apure_in Try.func168 Try.ntmps168 rfl ?_
  repeat' first | refine aw_N [] @hs (And.intro (size_ok a h1 h2) (And.intro (figures_ok a.natAbs (by omega)) trivial)) ?_ | refine aw_cond rfl (fun h => ?_) (fun h => ?_)
  · have : a < 0 := by simpa using h
    simp [tupOf, textI, this]
  · have : ¬ a < 0 := by simpa using h
    simp [tupOf, textI, this]
end Go.AL
/-! Contracts: num. -/
namespace Go.AL
open Go.Proofs
set_option linter.unusedSimpArgs false
set_option linter.unusedVariables false
def inI (c : Int) : Bool := decide (-9223372036854775808 ≤ c) && decide (c ≤ 9223372036854775807)
theorem inI_iff {c : Int} : inI c = true ↔ In64 c := by simp [inI, In64]
/-- A number, if it is one. -/
abbrev chk (c : Int) : AV := .tup [vi (z (inI c) c), vb (inI c)]
theorem wrap_eq (c : Int) : IntKind.i64.wrap c = (c + 9223372036854775808) % 18446744073709551616 - 9223372036854775808 := by
  simp only [IntKind.wrap, IntKind.bits, IntKind.signed]
  simp
  split <;> omega
theorem wrap_in {c : Int} (h : In64 c) : IntKind.i64.wrap c = c := by unfold In64 at h; rw [wrap_eq]; omega
theorem in_wrap (c : Int) : In64 (IntKind.i64.wrap c) := by unfold In64; rw [wrap_eq]; omega
theorem wrap_q (c : Int) : ∃ q, IntKind.i64.wrap c = c + 18446744073709551616 * q := ⟨-((c + 9223372036854775808) / 18446744073709551616), by rw [wrap_eq]; omega⟩
def allQ (l : List Bool) : Bool := l.all id
theorem allQ_snoc (l : List Bool) (x : Bool) : allQ (l ++ [x]) = (allQ l && x) := by simp [allQ]
theorem allQ_mem {l : List Bool} (h : false ∈ l) : allQ l = false := by simp [allQ, h]
@[simp high] theorem cl_vbs (l : List Bool) : Cl (.vsl (l.map vb)) := by
  simp; rintro c (⟨_, rfl⟩ | ⟨_, rfl⟩) <;> simp
set_option maxRecDepth 100000 in
theorem all_ok (l : List Bool) (hl : (l.length : Int) < 2 ^ 47) : APure Try.prog 172 [.vsl (l.map vb)] (vb (allQ l)) := by
  refine apure_in Try.func172 Try.ntmps172 rfl ?_
  refine aw_seq (aw_run [] ?_)
  simp -implicitDefEqProofs
  refine aw_seq (aw_seq (aw_run [] ?_))
  simp -implicitDefEqProofs
  refine aw_block (aw_loopK [5, 6, 7] (fun n fr σ => σ = σ0 ∧ ∃ i : Nat, i + n = l.length ∧ allQ (l.take i) = true ∧ fr = frm 14 [(5, .vsl (l.map vb)), (6, vi (l.length : Int)), (7, vi (i : Nat))]) l.length ?_ ?_)
  · refine ⟨rfl, 0, by omega, rfl, by simp⟩
  · rintro n fr σ ⟨rfl, i, hi, hall, rfl⟩
    simp
    refine aw_seq (aw_run [] ?_)
    simp -implicitDefEqProofs
    refine aw_seq (aw_cond rfl (fun h => aw_skip ?_) (fun h => aw_exit ?_))
    · have hlt : i < l.length := by simp at h; omega
      obtain ⟨x, hx⟩ : ∃ x, l[i]? = some x := ⟨l[i], by simp [hlt]⟩
      have hnx : IntKind.i64.wrap ((i : Int) + 1) = ((i + 1 : Nat) : Int) := by rw [wrap_id (by omega) (by omega)]; simp
      simp -implicitDefEqProofs
      refine aw_seq (aw_block (aw_seq (aw_run [] ?_)))
      simp -implicitDefEqProofs [hx]
      refine aw_seq (aw_run [] ?_)
      simp -implicitDefEqProofs
      refine aw_cond rfl (fun h2 => ?_) (fun h2 => aw_skip ?_)
      · repeat' first | refine aw_N [] trivial trivial ?_ | refine aw_cond rfl (fun h => ?_) (fun h => ?_)
        obtain rfl : x = false := by simpa using h2
        simp [tupOf, allQ_mem (List.mem_of_getElem? hx)]
      · simp -implicitDefEqProofs
        refine aw_run [] ?_
        simp -implicitDefEqProofs
        refine ⟨n - 1, by omega, i + 1, by omega, ?_, by simp [hnx]⟩
        have he : l.take (i + 1) = l.take i ++ [x] := by
          rw [List.take_add_one, hx]; rfl
        rw [he, allQ_snoc, hall]
        simpa using h2
    · have hi2 : i = l.length := by simp at h; omega
      simp -implicitDefEqProofs
      repeat' first | refine aw_N [] trivial trivial ?_ | refine aw_cond rfl (fun h => ?_) (fun h => ?_)
      have hl : l.take i = l := List.take_of_length_le (by omega)
      rw [hl] at hall
      simp [tupOf, hall]
set_option maxRecDepth 100000 in
theorem told_ok (n : Int) (l : List Bool) (hl : (l.length : Int) < 2 ^ 47) : APure Try.prog 157 [vi n, .vsl (l.map vb)] (.tup [vi (z (allQ l) n), vb (allQ l)]) := by
  have ha := all_ok l hl
  generalize allQ l = b at *
  refine apure_in Try.func157 Try.ntmps157 rfl ?_
  repeat' first | refine aw_N [] trivial (And.intro @ha trivial) ?_ | refine aw_cond rfl (fun h => ?_) (fun h => ?_)
  · have : b = false := by simpa using h
    simp [tupOf, this]
  · have : b = true := by simpa using h
    simp [tupOf, this]
theorem told1 (n : Int) (a : Bool) : APure Try.prog 157 [vi n, .vsl [vb a]] (.tup [vi (z a n), vb a]) := by
  have := told_ok n [a] (by simp)
  rwa [show allQ [a] = a by simp [allQ]] at this
theorem told3 (n : Int) (a b c : Bool) : APure Try.prog 157 [vi n, .vsl [vb a, vb b, vb c]] (.tup [vi (z (a && b && c) n), vb (a && b && c)]) := by
  have := told_ok n [a, b, c] (by simp)
  rwa [show allQ [a, b, c] = (a && b && c) by simp [allQ, Bool.and_assoc]] at this
theorem z_chk {c w : Int} {d : Bool} (h1 : In64 c → d = true) (h2 : ¬ In64 c → d = false) (h3 : In64 c → w = c) : AV.tup [vi (z d w), vb d] = chk c := by
  by_cases h : In64 c
  · rw [h1 h, h3 h, chk, inI_iff.2 h]
  · have : inI c = false := by cases hh : inI c with | false => rfl | true => exact absurd (inI_iff.1 hh) h
    rw [h2 h, chk, this]; rfl
set_option maxRecDepth 100000 in
theorem add_ok {a b : Int} (ha : In64 a) (hb : In64 b) : APure Try.prog 122 [vi a, vi b] (chk (a + b)) := by
  have key : AV.tup [vi (z (decide (IntKind.i64.wrap (a + b) < a) == decide (b < 0)) (IntKind.i64.wrap (a + b))), vb (decide (IntKind.i64.wrap (a + b) < a) == decide (b < 0))] = chk (a + b) := by
    refine z_chk (fun h => ?_) (fun h => ?_) wrap_in
    · rw [wrap_in h, beq_iff_eq, decide_eq_decide]; unfold In64 at *; omega
    · rw [beq_eq_false_iff_ne, ne_eq, decide_eq_decide]; unfold In64 at *; rw [wrap_eq]; omega
  rw [← key]
  refine apure_in Try.func122 Try.ntmps122 rfl ?_
  repeat' first | refine aw_N [] trivial (And.intro @told1 trivial) ?_ | refine aw_cond rfl (fun h => ?_) (fun h => ?_)
  rfl
set_option maxRecDepth 100000 in
theorem sub_ok {a b : Int} (ha : In64 a) (hb : In64 b) : APure Try.prog 120 [vi a, vi b] (chk (a - b)) := by
  have key : AV.tup [vi (z (decide (a < IntKind.i64.wrap (a - b)) == decide (b < 0)) (IntKind.i64.wrap (a - b))), vb (decide (a < IntKind.i64.wrap (a - b)) == decide (b < 0))] = chk (a - b) := by
    refine z_chk (fun h => ?_) (fun h => ?_) wrap_in
    · rw [wrap_in h, beq_iff_eq, decide_eq_decide]; unfold In64 at *; omega
    · rw [beq_eq_false_iff_ne, ne_eq, decide_eq_decide]; unfold In64 at *; rw [wrap_eq]; omega
  rw [← key]
  refine apure_in Try.func120 Try.ntmps120 rfl ?_
  repeat' first | refine aw_N [] trivial (And.intro @told1 trivial) ?_ | refine aw_cond rfl (fun h => ?_) (fun h => ?_)
  rfl
set_option maxRecDepth 100000 in
theorem neg_ok {a : Int} (ha : In64 a) : APure Try.prog 89 [vi a] (chk (-a)) := by
  have hs := sub_ok (a := 0) (b := a) (by unfold In64; omega) ha
  rw [Int.zero_sub] at hs
  refine apure_in Try.func89 Try.ntmps89 rfl ?_
  repeat' first | refine aw_N [] trivial (And.intro @hs trivial) ?_ | refine aw_cond rfl (fun h => ?_) (fun h => ?_)
  rfl
theorem tdiv_in {a b : Int} (ha : In64 a) (h : ¬ (a = -9223372036854775808 ∧ b = -1)) : In64 (a.tdiv b) := by
  have e : (a.tdiv b).natAbs = a.natAbs / b.natAbs := Int.natAbs_tdiv a b
  by_cases hb : b.natAbs ≤ 1
  · have hb' : b = 0 ∨ b = 1 ∨ b = -1 := by omega
    rcases hb' with rfl | rfl | rfl
    · simp [In64]
    · simpa using ha
    · rw [Int.tdiv_neg, Int.tdiv_one]; unfold In64 at *; omega
  · have h2 : a.natAbs / b.natAbs ≤ a.natAbs / 2 := Nat.div_le_div_left (by omega) (by omega)
    generalize a.natAbs / b.natAbs = q at *
    generalize a.tdiv b = p at *
    unfold In64 at *
    omega
theorem mul_core {a b c : Int} (hb : In64 b) (hq : ∃ q, c = a * b + 18446744073709551616 * q) (h : c.tdiv b = a) (hb0 : b ≠ 0) : c = a * b := by
  obtain ⟨q, hq⟩ := hq
  have e := Int.mul_tdiv_add_tmod c b
  rw [h, Int.mul_comm] at e
  have l := Int.natAbs_tmod c b
  have l2 : c.natAbs % b.natAbs < b.natAbs := Nat.mod_lt _ (by omega)
  unfold In64 at hb
  generalize a * b = p at *
  omega
theorem mul_key {a b : Int} (ha : In64 a) (hb : In64 b) (b0 : b ≠ 0) : ∀ A B : Bool, (a ≠ -1 → A = true) → (a = -1 → A = !decide (b = -9223372036854775808)) → (b ≠ -1 → B = true) → (b = -1 → B = !decide (a = -9223372036854775808)) →
    AV.tup [vi (z (A && B && decide (IntKind.i64.wrap ((IntKind.i64.wrap (a * b)).tdiv b) = a)) (IntKind.i64.wrap (a * b))), vb (A && B && decide (IntKind.i64.wrap ((IntKind.i64.wrap (a * b)).tdiv b) = a))] = chk (a * b) := by
  intro A B A1 A2 B1 B2
  refine z_chk (fun h => ?_) (fun h => ?_) wrap_in
  · have hA : A = true := by
      by_cases e : a = -1
      · rw [A2 e]; simp; rintro rfl; subst e; unfold In64 at h; omega
      · exact A1 e
    have hB : B = true := by
      by_cases e : b = -1
      · rw [B2 e]; simp; rintro rfl; subst e; unfold In64 at h; omega
      · exact B1 e
    rw [hA, hB, wrap_in h, Int.mul_tdiv_cancel _ b0, wrap_in ha]
    simp
  · cases hA : A with
    | false => rfl
    | true =>
      cases hB : B with
      | false => rfl
      | true =>
        rw [Bool.and_self, Bool.true_and, decide_eq_false_iff_not]
        intro hC
        by_cases sp : IntKind.i64.wrap (a * b) = -9223372036854775808 ∧ b = -1
        · rw [sp.1, sp.2] at hC
          have hB' := B2 sp.2
          rw [hB] at hB'
          have : a ≠ -9223372036854775808 := by simpa using hB'.symm
          exact this (by rw [← hC, wrap_eq]; decide)
        · rw [wrap_in (tdiv_in (in_wrap _) sp)] at hC
          exact h ((mul_core hb (wrap_q _) hC b0) ▸ in_wrap _)
set_option maxRecDepth 100000 in
theorem mul_ok {a b : Int} (ha : In64 a) (hb : In64 b) : APure Try.prog 123 [vi a, vi b] (chk (a * b)) := by
  by_cases a0 : a = 0
  · subst a0
    refine apure_in Try.func123 Try.ntmps123 rfl ?_
    repeat' first | refine aw_N [] trivial trivial ?_ | refine aw_cond rfl (fun h => ?_) (fun h => ?_)
    simp [tupOf, inI]
  by_cases b0 : b = 0
  · subst b0
    refine apure_in Try.func123 Try.ntmps123 rfl ?_
    repeat' first | refine aw_N [] @a0 trivial ?_ | refine aw_cond rfl (fun h => ?_) (fun h => ?_)
    simp [tupOf, inI]
  · have key := mul_key ha hb b0
    refine apure_in Try.func123 Try.ntmps123 rfl ?_
    repeat' first | refine aw_N [] (And.intro @a0 @b0) (And.intro @told3 trivial) ?_ | refine aw_cond rfl (fun h => ?_) (fun h => ?_)
    refine key _ _ ?_ ?_ ?_ ?_ <;> intro h <;> simp [h]
set_option maxRecDepth 100000 in
theorem div_ok {a b : Int} (ha : In64 a) (hb : In64 b) (b0 : b ≠ 0) : APure Try.prog 159 [vi a, vi b] (chk (a.tdiv b)) := by
  refine apure_in Try.func159 Try.ntmps159 rfl ?_
  repeat' first | refine aw_N [] @b0 (And.intro @told1 trivial) ?_ | refine aw_cond rfl (fun h => ?_) (fun h => ?_)
  refine z_chk (fun h => ?_) (fun h => ?_) wrap_in
  · by_cases am : a = -9223372036854775808
    · subst am
      by_cases bm : b = -1
      · subst bm; exact absurd h (by unfold In64; decide)
      · simp [bm]
    · simp [am]
  · have : ¬ ¬ (a = -9223372036854775808 ∧ b = -1) := fun hh => h (tdiv_in ha hh)
    have := Classical.not_not.1 this
    simp [this]
end Go.AL
/-! Contracts: gridironref01's numbers. -/
namespace Go.AL
open Go.Proofs
set_option linter.unusedSimpArgs false
set_option linter.unusedVariables false
end Go.AL
namespace Go.Proofs.Ytjldlcakinmajaa.Dec
open Go.Lib
/-- Is a byte a figure? -/
def fig (c : UInt8) : Bool := decide (48 ≤ c.toNat ∧ c.toNat ≤ 57)
theorem of_fig {c : UInt8} (h : fig c = true) : 48 ≤ c.toNat ∧ c.toNat ≤ 57 := by unfold fig at h; simpa using h
/-- What figures come to. -/
def fv : List UInt8 → Nat → Nat
  | [], acc => acc
  | c :: r, acc => fv r (acc * 10 + (c.toNat - 48))
def fval (acc : Nat) (l : List UInt8) : Nat := fv l acc
theorem fval_nil (acc : Nat) : fval acc [] = acc := rfl
theorem fval_cons (acc : Nat) (c : UInt8) (r : List UInt8) : fval acc (c :: r) = fval (acc * 10 + (c.toNat - 48)) r := by unfold fval; rw [fv]
theorem fval_append (acc : Nat) (l m : List UInt8) : fval acc (l ++ m) = fval (fval acc l) m := by
  induction l generalizing acc with
  | nil => rfl
  | cons c r ih => rw [List.cons_append, fval_cons, fval_cons]; exact ih _
theorem fval_ge (acc : Nat) (l : List UInt8) : acc ≤ fval acc l := by
  induction l generalizing acc with
  | nil => exact Nat.le_refl _
  | cons c r ih => rw [fval_cons]; exact Nat.le_trans (by omega) (ih _)
theorem u8_of (n : Nat) (h : n < 256) : (UInt8.ofNat n).toNat = n := by simp [UInt8.toNat_ofNat', Nat.mod_eq_of_lt h]
/-- Atoi's own reading of figures. -/
theorem parse_figs (l : List UInt8) : ∀ acc, l.all fig = true → fval acc l < 18446744073709551616 → parseUint10 acc l = .ok (fval acc l) := by
  induction l with
  | nil => intro acc _ _; rfl
  | cons c r ih =>
    intro acc ha hv
    simp only [List.all_cons, Bool.and_eq_true] at ha
    have hc : 48 ≤ c.toNat ∧ c.toNat ≤ 57 := of_fig ha.1
    rw [fval_cons] at hv ⊢
    have := fval_ge (acc * 10 + (c.toNat - 48)) r
    simp only [parseUint10]
    rw [if_pos hc, if_neg (by omega), if_neg (by omega)]
    exact ih _ ha.2 hv
theorem fig_head {l : List UInt8} (h : l.all fig = true) {c : UInt8} (hc : l.head? = some c) : 48 ≤ c.toNat ∧ c.toNat ≤ 57 := by
  cases l with
  | nil => simp at hc
  | cons x r => simp at hc; subst hc; simp only [List.all_cons, Bool.and_eq_true] at h; exact of_fig h.1
theorem mag_figs {l : List UInt8} (h0 : l ≠ []) (ha : l.all fig = true) (hv : fval 0 l < 18446744073709551616) : parseMag l = .ok (fval 0 l) := by
  unfold parseMag
  rw [if_neg h0, parse_figs l 0 ha hv]
theorem atoi_plain {l : List UInt8} (h0 : l ≠ []) (ha : l.all fig = true) (hv : fval 0 l < 18446744073709551616) :
    atoiAll l = if 9223372036854775808 ≤ fval 0 l then .range else .ok (fval 0 l) := by
  have hm := mag_figs h0 ha hv
  cases l with
  | nil => exact absurd rfl h0
  | cons c r =>
    have hc := fig_head ha (c := c) rfl
    simp only [atoiAll]
    rw [if_neg (by omega), hm]
    have : ¬ c.toNat = 45 := by omega
    simp only [this, not_false_eq_true, true_and, false_and, if_false]
end Go.Proofs.Ytjldlcakinmajaa.Dec
/-! Contracts: the number of a text. -/
namespace Go.AL
open Go.Proofs Go.Proofs.Ytjldlcakinmajaa.Dec Go.Lib
set_option linter.unusedSimpArgs false
set_option linter.unusedVariables false
end Go.AL
/-! Contracts: num.Parse. -/
namespace Go.AL
open Go.Proofs Go.Proofs.Ytjldlcakinmajaa.Dec Go.Lib
set_option linter.unusedSimpArgs false
set_option linter.unusedVariables false
instance (a : Int) : Decidable (In64 a) := by unfold In64; infer_instance
end Go.AL
/-! Contracts: value. -/
namespace Go.AL
open Go.Proofs
set_option linter.unusedSimpArgs false
set_option linter.unusedVariables false
abbrev value (n f : Int) : AV := .agg [vi n, vi f]
abbrev vf (n : Nat) : AV := .p (.func (.func n) #[] #[])
set_option maxRecDepth 100000 in
theorem faulty_ok (f : Int) : APure Try.prog 88 [vi f] (value 0 f) := by
  refine apure_in Try.func88 Try.ntmps88 rfl ?_
  repeat' first | refine aw_N [2] trivial trivial ?_ | refine aw_cond rfl (fun h => ?_) (fun h => ?_)
  rfl
set_option maxRecDepth 100000 in
theorem fine_ok (n : Int) (ok : Bool) (f : Int) : APure Try.prog 90 [vi n, vb ok, vi f] (value (z ok n) (z (!ok) f)) := by
  cases ok
  · refine apure_in Try.func90 Try.ntmps90 rfl ?_
    repeat' first | refine aw_N [6] trivial (And.intro @faulty_ok trivial) ?_ | refine aw_cond rfl (fun h => ?_) (fun h => ?_)
    rfl
  · refine apure_in Try.func90 Try.ntmps90 rfl ?_
    repeat' first | refine aw_N [6] trivial (And.intro @faulty_ok trivial) ?_ | refine aw_cond rfl (fun h => ?_) (fun h => ?_)
    rfl
set_option maxRecDepth 100000 in
theorem truth_ok (b : Bool) : APure Try.prog 161 [vb b] (value (z b 1) 0) := by
  cases b
  · refine apure_in Try.func161 Try.ntmps161 rfl ?_
    repeat' first | refine aw_N [2] trivial trivial ?_ | refine aw_cond rfl (fun h => ?_) (fun h => ?_)
    rfl
  · refine apure_in Try.func161 Try.ntmps161 rfl ?_
    repeat' first | refine aw_N [2] trivial trivial ?_ | refine aw_cond rfl (fun h => ?_) (fun h => ?_)
    rfl
set_option maxRecDepth 100000 in
theorem reckon_ok (g : Nat) : APure Try.prog 121 [vf g] (.fn (.func 158) [] [.vel [vf g] 0 0]) := by
  refine apure_in Try.func121 Try.ntmps121 rfl ?_
  repeat' first | refine aw_N [] trivial trivial ?_ | refine aw_cond rfl (fun h => ?_) (fun h => ?_)
  rfl
set_option maxRecDepth 100000 in
theorem reckon1_ok (g : Nat) (a b c : Int) (hc : callable Try.prog g = true) (h : APure Try.prog g [vi a, vi b] (chk c)) : APure Try.prog 158 [vi a, vi b, .vel [vf g] 0 0] (value (z (inI c) c) (z (!inI c) 1)) := by
  refine apure_in Try.func158 Try.ntmps158 rfl ?_
  repeat' first | refine aw_N [5] trivial (And.intro @h (And.intro @fine_ok trivial)) ?_ | refine aw_cond rfl (fun h => ?_) (fun h => ?_)
  cases inI c <;> rfl
set_option maxRecDepth 100000 in
theorem ask_ok (g : Nat) : APure Try.prog 125 [vf g] (.fn (.func 160) [] [.vel [vf g] 0 0]) := by
  refine apure_in Try.func125 Try.ntmps125 rfl ?_
  repeat' first | refine aw_N [] trivial trivial ?_ | refine aw_cond rfl (fun h => ?_) (fun h => ?_)
  rfl
set_option maxRecDepth 100000 in
theorem ask1_ok (g : Nat) (a b : Int) (t : Bool) (hc : callable Try.prog g = true) (h : APure Try.prog g [vi a, vi b] (vb t)) : APure Try.prog 160 [vi a, vi b, .vel [vf g] 0 0] (value (z t 1) 0) := by
  refine apure_in Try.func160 Try.ntmps160 rfl ?_
  repeat' first | refine aw_N [5] trivial (And.intro @h (And.intro @truth_ok trivial)) ?_ | refine aw_cond rfl (fun h => ?_) (fun h => ?_)
  rfl
set_option maxRecDepth 100000 in
theorem op1_ok (a b : Int) : APure Try.prog 126 [vi a, vi b] (vb (decide (a < b))) := by
  refine apure_in Try.func126 Try.ntmps126 rfl ?_
  repeat' first | refine aw_N [] trivial trivial ?_ | refine aw_cond rfl (fun h => ?_) (fun h => ?_)
  rfl
set_option maxRecDepth 100000 in
theorem op2_ok (a b : Int) : APure Try.prog 127 [vi a, vi b] (vb (decide (a ≤ b))) := by
  refine apure_in Try.func127 Try.ntmps127 rfl ?_
  repeat' first | refine aw_N [] trivial trivial ?_ | refine aw_cond rfl (fun h => ?_) (fun h => ?_)
  rfl
set_option maxRecDepth 100000 in
theorem op3_ok (a b : Int) : APure Try.prog 128 [vi a, vi b] (vb (decide (a = b))) := by
  refine apure_in Try.func128 Try.ntmps128 rfl ?_
  repeat' first | refine aw_N [] trivial trivial ?_ | refine aw_cond rfl (fun h => ?_) (fun h => ?_)
  rfl
set_option maxRecDepth 100000 in
theorem op4_ok (a b : Int) : APure Try.prog 129 [vi a, vi b] (vb (!decide (a = b))) := by
  refine apure_in Try.func129 Try.ntmps129 rfl ?_
  repeat' first | refine aw_N [] trivial trivial ?_ | refine aw_cond rfl (fun h => ?_) (fun h => ?_)
  rfl
set_option maxRecDepth 100000 in
theorem op5_ok (a b : Int) : APure Try.prog 130 [vi a, vi b] (vb (decide (b ≤ a))) := by
  refine apure_in Try.func130 Try.ntmps130 rfl ?_
  repeat' first | refine aw_N [] trivial trivial ?_ | refine aw_cond rfl (fun h => ?_) (fun h => ?_)
  rfl
set_option maxRecDepth 100000 in
theorem op6_ok (a b : Int) : APure Try.prog 131 [vi a, vi b] (vb (decide (b < a))) := by
  refine apure_in Try.func131 Try.ntmps131 rfl ?_
  repeat' first | refine aw_N [] trivial trivial ?_ | refine aw_cond rfl (fun h => ?_) (fun h => ?_)
  rfl
set_option maxRecDepth 100000 in
theorem quotient_zero (a : Int) : APure Try.prog 124 [vi a, vi 0] (value 0 2) := by
  refine apure_in Try.func124 Try.ntmps124 rfl ?_
  repeat' first | refine aw_N [4] trivial (And.intro @faulty_ok trivial) ?_ | refine aw_cond rfl (fun h => ?_) (fun h => ?_)
  rfl
set_option maxRecDepth 100000 in
theorem quotient_ok {a b : Int} (ha : In64 a) (hb : In64 b) (b0 : b ≠ 0) : APure Try.prog 124 [vi a, vi b] (value (z (inI (a.tdiv b)) (a.tdiv b)) (z (!inI (a.tdiv b)) 1)) := by
  have hc : callable Try.prog 159 = true := by kernel_rfl
  have hd := reckon1_ok 159 a b (a.tdiv b) hc (div_ok ha hb b0)
  refine apure_in Try.func124 Try.ntmps124 rfl ?_
  repeat' first | refine aw_N [4] @b0 (And.intro @faulty_ok (And.intro @reckon_ok (And.intro @hd trivial))) ?_ | refine aw_cond rfl (fun h => ?_) (fun h => ?_)
  rfl
end Go.AL
/-! Contracts: value.ops, value.Do. -/
namespace Go.AL
open Go.Proofs
set_option linter.unusedSimpArgs false
set_option linter.unusedVariables false
attribute [simp] amput amfind akey
/-- What they do. -/
def opsE : List (AV × AV) :=
  [(.p (.string ⟨#[43]⟩), .fn (.func 158) [] [.vel [vf 122] 0 0]), (.p (.string ⟨#[45]⟩), .fn (.func 158) [] [.vel [vf 120] 0 0]),
   (.p (.string ⟨#[42]⟩), .fn (.func 158) [] [.vel [vf 123] 0 0]), (.p (.string ⟨#[47]⟩), vf 124),
   (.p (.string ⟨#[60]⟩), .fn (.func 160) [] [.vel [vf 126] 0 0]), (.p (.string ⟨#[60, 61]⟩), .fn (.func 160) [] [.vel [vf 127] 0 0]),
   (.p (.string ⟨#[61]⟩), .fn (.func 160) [] [.vel [vf 128] 0 0]), (.p (.string ⟨#[60, 62]⟩), .fn (.func 160) [] [.vel [vf 129] 0 0]),
   (.p (.string ⟨#[62, 61]⟩), .fn (.func 160) [] [.vel [vf 130] 0 0]), (.p (.string ⟨#[62]⟩), .fn (.func 160) [] [.vel [vf 131] 0 0])]
theorem opsT : tmap Try.prog 153 = some (.string, 151) := by kernel_rfl
set_option maxRecDepth 100000 in
theorem ops_ok (σ : ASt) : ACall Try.prog 91 [] σ fun r τ => r = .map σ.next ∧ τ = { σ with mp := upd σ.mp σ.next (some opsE), next := σ.next + 1 } := by
  refine acall_of Try.func91 Try.ntmps91 rfl ?_
  simp only [List.length_cons, List.length_nil, List.cons_append, List.nil_append, List.replicate]
  refine aw_seq (aw_run [] ?_)
  simp -implicitDefEqProofs
  refine aw_seq (aw_run [] ?_)
  simp -implicitDefEqProofs
  refine awl_makeMap [] rfl rfl ?_
  simp -implicitDefEqProofs
  repeat' (first
    | (refine awl_pure' [] rfl rfl rfl (by kernel_rfl) rfl (by first | exact reckon_ok _ | exact ask_ok _) (by simp) (by simp) ?_; simp -implicitDefEqProofs)
    | (refine awl_mapNew [] (.inl rfl) rfl opsT rfl (upd_same _ _ _) rfl (by simp) ?_; simp -implicitDefEqProofs))
  repeat' first | refine aw_N [] trivial trivial ?_ | refine aw_cond rfl (fun h => ?_) (fun h => ?_)
  exact ⟨rfl, rfl⟩
end Go.AL
