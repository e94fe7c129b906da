/- Parts of the proof of MonoHolds: the logic, contracts, plain laws. -/
import Derived.Test.YtjldlcakinmajaaZMonoHolds12
import Derived.Lib.ItoaLen
import Derived.Sort.Grow
import Derived.Laws.BytesArg
import Derived.Lib.ConvBytes
import Derived.Lib.AtoiAll
import Derived.Shelf.Strconv.Itoa3
import Derived.Lib.AtoiAllCases
/-! One step of a walk, as the default of an argument: it is looked for anew wherever the lemma is used. -/
namespace Go.AL
set_option linter.unusedVariables false
set_option linter.unusedSimpArgs false
variable {P : Program} {σ : ASt} {R : AV → ASt → Prop} {D : List Deferred} {Q : Exit → List AV → ASt → Prop} {fr : List AV} {ops : Array Oper}
/-- The variables that are written. -/
inductive Mu (l : List Nat) : Prop where
  | mk
theorem aw_runM {mu : List Nat} (m : Mu mu) {id : Nat} {l : List Oper} (h : Shut (ARun P D l.toArray Q mu l fr σ)) : AW P D (.region id l.toArray false) Q fr σ := aw_run mu h
theorem aw_ymixM {mu : List Nat} (m : Mu mu) {id : Nat} {l : List Oper} (hm : P.follows .mixedOrders = true) (hB : mixB .any (preSt mu l) (postSt mu l) = true) (h : Shut (YRun P l.toArray σ (fun fr => Shut (ARun P D l.toArray Q mu (postSt mu l) fr σ)) (preSt mu l) fr)) : AW P D (.region id l.toArray true) Q fr σ := aw_ymix mu hm hB h
theorem aw_zrunM {mu : List Nat} (m : Mu mu) {id : Nat} {l : List Oper} (hm : P.follows .mixedOrders = true) (hne : l.any (zst mu []) = true) (hB : zB mu [] l = true) (h : Shut (ZRun P mu [] l (fun fr σ => Q .normal fr σ) 0 l fr σ [] [])) : AW P D (.region id l.toArray true) Q fr σ := aw_zrun mu [] hm hne hB h
theorem awl_skipM {mu : List Nat} (m : Mu mu) {o : Oper} {rest : List Oper} (hw : awanted ops o fr = some false) (hk : Shut (ARun P D ops Q mu rest (aput fr o.dst (.p undef)) σ)) : AWL P D ops Q (o :: rest) fr σ := awl_skip' mu hw hk
theorem awl_pureM {mu : List Nat} (m : Mu mu) {o : Oper} {rest : List Oper} {f : Operand} {aa : Array Operand} {ts : Array TypeId} (ho : o.op = .call { callee := .value f, args := aa, argTypes := ts }) (hw : awanted ops o fr = some true)
    {F : FuncId} {first cap : List AV} (hf : acallee (aev fr f) = some (F, first, cap)) (hc : callable P F = true) {args : List AV} (ha : first ++ aa.toList.map (aev fr) ++ cap = args) {r : AV} (h : APure P F args r) (hcl : ∀ a ∈ args, Cl a) (hr : Cl r)
    (hk : Shut (ARun P D ops Q mu rest (aput fr o.dst r) σ)) : AWL P D ops Q (o :: rest) fr σ := awl_pure' mu ho hw hf hc ha h hcl hr hk
theorem awl_pureGM {mu : List Nat} (m : Mu mu) {o : Oper} {rest : List Oper} {f : Operand} {aa : Array Operand} {ts : Array TypeId} (ho : o.op = .call { callee := .value f, args := aa, argTypes := ts }) {c : Bool} (hg : gcond ops o fr = some c)
    {F : FuncId} {first cap : List AV} (hf : acallee (peel (aev fr f)) = some (F, first, cap)) (hc : callable P F = true) {args : List AV} (ha : first ++ aa.toList.map (fun x => peel (aev fr x)) ++ cap = args) {r : AV} (h : c = true → APure P F args r)
    (hok : okS c (aev fr f) = true ∧ ∀ x ∈ aa.toList, okS c (aev fr x) = true) (hcl : ∀ a ∈ args, Cl a) (hr : Cl r)
    (hk : Shut (ARun P D ops Q mu rest (aput fr o.dst (.opt c r)) σ)) : AWL P D ops Q (o :: rest) fr σ := awl_pure_guard mu ho hg hf hc ha h hok hcl hr hk
theorem awl_boxM {mu : List Nat} (m : Mu mu) {o : Oper} {rest : List Oper} {f : Operand} {aa : Array Operand} {ts : Array TypeId} (ho : o.op = .call { callee := .value f, args := aa, argTypes := ts }) (hw : awanted ops o fr = some true)
    {F : FuncId} {first cap : List AV} (hf : acallee (aev fr f) = some (F, first, cap)) (hc : callable P F = true) {args args' cs cs' : List AV} {r : AV} {b : Nat} (h : BK P F args cs r cs') (he : first ++ aa.toList.map (aev fr) ++ cap = args') (ha : ArgBs b args args')
    (hb : σ.bx b = some cs) (hbm : σ.mp b = none) (hbs : σ.sl b = none)
    (hk : Shut (ARun P D ops Q mu rest (aput fr o.dst r) { σ with bx := upd σ.bx b (some cs') })) : AWL P D ops Q (o :: rest) fr σ := awl_boxK mu ho hw hf hc h he ha hb hbm hbs hk
theorem aw_condT {c : Operand} {x y : Code} {t : Bool} (hc : aev fr c = .p (.bool t)) (ht : t = true) (h : AW P D x Q fr σ) : AW P D (.cond c x y) Q fr σ := aw_cond hc (fun _ => h) fun e => by rw [ht] at e; cases e
theorem aw_condF {c : Operand} {x y : Code} {t : Bool} (hc : aev fr c = .p (.bool t)) (ht : t = false) (h : AW P D y Q fr σ) : AW P D (.cond c x y) Q fr σ := aw_cond hc (fun e => by rw [ht] at e; cases e) fun _ => h
/-- Into a function. -/
theorem apure_in {f : FuncId} {fn : Func} {c : Code} {n : Nat} {args : List AV} {r : AV} {K : Prop} (hf : P.funcs[f]? = some fn) (hn : fn.ntmps = n) (hb : fn.body = some c) (k : K)
    (h : K → AW P [] c (RetQ P fn fun r' _ => r' = r) (args ++ List.replicate (n - args.length) (.p undef)) σ0 := by intro k; simp only [List.length_cons, List.length_nil, List.cons_append, List.nil_append, List.replicate]; exact k) : APure P f args r := apure_of hf hn hb (h k)
theorem aw_id {c : Code} (h : AW P D c Q fr σ) : AW P D c Q fr σ := h
theorem awl_id {l : List Oper} (h : AWL P D ops Q l fr σ) : AWL P D ops Q l fr σ := h
theorem yl_id {K : List AV → Prop} {l : List Oper} (h : YL P ops σ K l fr) : YL P ops σ K l fr := h
theorem zl_id {mu imp : List Nat} {l l' : List Oper} {K : List AV → ASt → Prop} {i : Nat} {old : List ASt} {pd : List Pend} (h : ZS P mu imp l K i l' fr σ old pd) : ZS P mu imp l K i l' fr σ old pd := h
/-- A step: ms the variables that are written, F what simp may use, C contracts. -/
theorem aw_W {P Q A B : Prop} (ms : List Nat) (F : A) (C : B) (k : Q) (h : Mu ms → A → B → Shut Q → P := by
  intro m F C k
  first
  | (with_reducible refine aw_id ?_
     first
     | (refine aw_seq ?_; exact k.1; done)
     | ((first | refine aw_runM m ?_ | refine aw_ymixM m draws (by decide +kernel) ?_); (try simp -implicitDefEqProofs (maxSteps := 1000000) [F]); exact k.1; done)
     | (refine aw_zrunM m draws (by decide +kernel) (by decide +kernel) ?_; (try simp -implicitDefEqProofs (maxSteps := 1000000) [F]); (repeat first | refine zcurL (by decide +kernel) ?_ | refine zcurH (by decide +kernel) ?_ | refine zcurL' (by decide +kernel) ?_ | refine zcurH' (by decide +kernel) ?_); exact k.1; done)
     | ((first | refine aw_yrun draws (by kernel_rfl) ?_ | refine aw_skip ?_ | refine aw_exit ?_); (try simp -implicitDefEqProofs (maxSteps := 1000000) [F]); exact k.1; done)
     | (refine aw_condT rfl (by with_reducible exact rfl) ?_; exact k.1; done)
     | (refine aw_condF rfl (by with_reducible exact rfl) ?_; exact k.1; done)
     | (refine aw_block ?_; exact k.1; done)
     | (refine aw_ret (ret_of (.inr rfl) (by simp; rfl) (Fin.of ?_)); exact k.1; done))
  | (with_reducible refine awl_id ?_
     first
     | ((first
         | refine awl_skipM m rfl ?_
         | refine awl_pureGM m rfl rfl rfl (by first | assumption | kernel_rfl) rfl (fun hc => by first | exact C.1 | exact C.2.1 | exact C.2.2.1 | exact C.2.2.2.1 | exact C.2.2.2.2.1 | exact C.2.2.2.2.2.1 | exact C.2.2.2.2.2.2.1 | exact C.2.2.2.2.2.2.2.1 | exact C.2.2.2.2.2.2.2.2.1 | exact C.2.2.2.2.2.2.2.2.2.1 | apply C.1 | apply C.2.1 | apply C.2.2.1 | apply C.2.2.2.1 | apply C.2.2.2.2.1 | apply C.2.2.2.2.2.1 | apply C.2.2.2.2.2.2.1 | apply C.2.2.2.2.2.2.2.1 | apply C.2.2.2.2.2.2.2.2.1 | apply C.2.2.2.2.2.2.2.2.2.1) (by simp) (by simp) (by simp) ?_
         | refine awl_pureM m rfl rfl rfl (by first | assumption | kernel_rfl) rfl (by first | exact C.1 | exact C.2.1 | exact C.2.2.1 | exact C.2.2.2.1 | exact C.2.2.2.2.1 | exact C.2.2.2.2.2.1 | exact C.2.2.2.2.2.2.1 | exact C.2.2.2.2.2.2.2.1 | exact C.2.2.2.2.2.2.2.2.1 | exact C.2.2.2.2.2.2.2.2.2.1 | apply C.1 | apply C.2.1 | apply C.2.2.1 | apply C.2.2.2.1 | apply C.2.2.2.2.1 | apply C.2.2.2.2.2.1 | apply C.2.2.2.2.2.2.1 | apply C.2.2.2.2.2.2.2.1 | apply C.2.2.2.2.2.2.2.2.1 | apply C.2.2.2.2.2.2.2.2.2.1) (by simp) (by simp) ?_)
        (try simp -implicitDefEqProofs (maxSteps := 1000000) [F])
        exact k.1; done)
     | (refine awl_boxM m rfl rfl rfl (by first | assumption | kernel_rfl) (by first | exact C.1 | exact C.2.1 | exact C.2.2.1 | exact C.2.2.2.1 | exact C.2.2.2.2.1 | exact C.2.2.2.2.2.1 | exact C.2.2.2.2.2.2.1 | exact C.2.2.2.2.2.2.2.1 | exact C.2.2.2.2.2.2.2.2.1 | exact C.2.2.2.2.2.2.2.2.2.1 | apply C.1 | apply C.2.1 | apply C.2.2.1 | apply C.2.2.2.1 | apply C.2.2.2.2.1 | apply C.2.2.2.2.2.1 | apply C.2.2.2.2.2.2.1 | apply C.2.2.2.2.2.2.2.1 | apply C.2.2.2.2.2.2.2.2.1 | apply C.2.2.2.2.2.2.2.2.2.1) rfl (by repeat (first | exact .nil | refine .cons (.ptr _) ?_ | refine .cons (.cl (by simp)) ?_)) ?_ ?_ ?_ ?_; (iterate 3 (focus (simp [σ0]; done))); simp -implicitDefEqProofs (maxSteps := 1000000) [F]; exact k.1; done))
  | (with_reducible refine yl_id ?_
     first
     | refine yl_skip rfl ?_
     | refine yl_pureG rfl rfl rfl (by first | assumption | kernel_rfl) rfl (fun hc => by first | exact C.1 | exact C.2.1 | exact C.2.2.1 | exact C.2.2.2.1 | exact C.2.2.2.2.1 | exact C.2.2.2.2.2.1 | exact C.2.2.2.2.2.2.1 | exact C.2.2.2.2.2.2.2.1 | exact C.2.2.2.2.2.2.2.2.1 | exact C.2.2.2.2.2.2.2.2.2.1 | apply C.1 | apply C.2.1 | apply C.2.2.1 | apply C.2.2.2.1 | apply C.2.2.2.2.1 | apply C.2.2.2.2.2.1 | apply C.2.2.2.2.2.2.1 | apply C.2.2.2.2.2.2.2.1 | apply C.2.2.2.2.2.2.2.2.1 | apply C.2.2.2.2.2.2.2.2.2.1) (by simp) (by simp) (by simp) ?_
     | refine yl_pure rfl rfl rfl (by first | assumption | kernel_rfl) rfl (by first | exact C.1 | exact C.2.1 | exact C.2.2.1 | exact C.2.2.2.1 | exact C.2.2.2.2.1 | exact C.2.2.2.2.2.1 | exact C.2.2.2.2.2.2.1 | exact C.2.2.2.2.2.2.2.1 | exact C.2.2.2.2.2.2.2.2.1 | exact C.2.2.2.2.2.2.2.2.2.1 | apply C.1 | apply C.2.1 | apply C.2.2.1 | apply C.2.2.2.1 | apply C.2.2.2.2.1 | apply C.2.2.2.2.2.1 | apply C.2.2.2.2.2.2.1 | apply C.2.2.2.2.2.2.2.1 | apply C.2.2.2.2.2.2.2.2.1 | apply C.2.2.2.2.2.2.2.2.2.1) (by simp) (by simp) ?_
     (try simp -implicitDefEqProofs (maxSteps := 1000000) [F])
     exact k.1; done)
  | (with_reducible refine zl_id ?_
     first
     | refine zl_skip (by simp) rfl ?_
     | refine zl_pure_guard (by simp) rfl rfl rfl (by first | assumption | kernel_rfl) rfl (fun hc => by first | exact C.1 | exact C.2.1 | exact C.2.2.1 | exact C.2.2.2.1 | exact C.2.2.2.2.1 | exact C.2.2.2.2.2.1 | exact C.2.2.2.2.2.2.1 | exact C.2.2.2.2.2.2.2.1 | exact C.2.2.2.2.2.2.2.2.1 | exact C.2.2.2.2.2.2.2.2.2.1 | apply C.1 | apply C.2.1 | apply C.2.2.1 | apply C.2.2.2.1 | apply C.2.2.2.2.1 | apply C.2.2.2.2.2.1 | apply C.2.2.2.2.2.2.1 | apply C.2.2.2.2.2.2.2.1 | apply C.2.2.2.2.2.2.2.2.1 | apply C.2.2.2.2.2.2.2.2.2.1) (by simp) (by simp) (by simp) ?_
     | refine zl_pure (by simp) rfl rfl rfl (by first | assumption | kernel_rfl) rfl (by first | exact C.1 | exact C.2.1 | exact C.2.2.1 | exact C.2.2.2.1 | exact C.2.2.2.2.1 | exact C.2.2.2.2.2.1 | exact C.2.2.2.2.2.2.1 | exact C.2.2.2.2.2.2.2.1 | exact C.2.2.2.2.2.2.2.2.1 | exact C.2.2.2.2.2.2.2.2.2.1 | apply C.1 | apply C.2.1 | apply C.2.2.1 | apply C.2.2.2.1 | apply C.2.2.2.2.1 | apply C.2.2.2.2.2.1 | apply C.2.2.2.2.2.2.1 | apply C.2.2.2.2.2.2.2.1 | apply C.2.2.2.2.2.2.2.2.1 | apply C.2.2.2.2.2.2.2.2.2.1) (by simp) (by simp) ?_
     (try simp -implicitDefEqProofs (maxSteps := 1000000) [F])
     (repeat first | refine zcurL (by decide +kernel) ?_ | refine zcurH (by decide +kernel) ?_ | refine zcurL' (by decide +kernel) ?_ | refine zcurH' (by decide +kernel) ?_)
     exact k.1; done)
  | (refine ret_of (.inl rfl) (by simp; rfl) (Fin.of ?_); exact k.1; done)
  | ((fail_if_success (with_reducible first | refine awl_id ?_ | refine aw_id ?_ | refine yl_id ?_ | refine zl_id ?_)); (first | refine awl_id ?_ | refine aw_id ?_ | refine yl_id ?_ | refine zl_id ?_); (try simp -implicitDefEqProofs (maxSteps := 1000000) [F]); exact k.1; done)) : P := h ⟨⟩ F C ⟨k⟩
/-- A step: ms the variables that are written, F what simp may use, C contracts. -/
theorem aw_N {P Q A B : Prop} (ms : List Nat) (F : A) (C : B) (k : Q) (h : Mu ms → A → B → Shut Q → P := by
  intro m F C k
  first
  | (with_reducible refine aw_id ?_
     first
     | (refine aw_seq ?_; exact k.1; done)
     | (refine aw_runM m ?_; (try simp -implicitDefEqProofs (maxSteps := 1000000) [F]); exact k.1; done)
     | ((first | refine aw_skip ?_ | refine aw_exit ?_); (try simp -implicitDefEqProofs (maxSteps := 1000000) [F]); exact k.1; done)
     | (refine aw_condT rfl (by with_reducible exact rfl) ?_; exact k.1; done)
     | (refine aw_condF rfl (by with_reducible exact rfl) ?_; exact k.1; done)
     | (refine aw_block ?_; exact k.1; done)
     | (refine aw_ret (ret_of (.inr rfl) (by simp; rfl) (Fin.of ?_)); exact k.1; done))
  | (with_reducible refine awl_id ?_
     first
     | ((first
         | refine awl_skipM m rfl ?_
         | refine awl_pureGM m rfl rfl rfl (by first | assumption | kernel_rfl) rfl (fun hc => by first | exact C.1 | exact C.2.1 | exact C.2.2.1 | exact C.2.2.2.1 | exact C.2.2.2.2.1 | exact C.2.2.2.2.2.1 | exact C.2.2.2.2.2.2.1 | exact C.2.2.2.2.2.2.2.1 | exact C.2.2.2.2.2.2.2.2.1 | exact C.2.2.2.2.2.2.2.2.2.1 | apply C.1 | apply C.2.1 | apply C.2.2.1 | apply C.2.2.2.1 | apply C.2.2.2.2.1 | apply C.2.2.2.2.2.1 | apply C.2.2.2.2.2.2.1 | apply C.2.2.2.2.2.2.2.1 | apply C.2.2.2.2.2.2.2.2.1 | apply C.2.2.2.2.2.2.2.2.2.1) (by simp) (by simp) (by simp) ?_
         | refine awl_pureM m rfl rfl rfl (by first | assumption | kernel_rfl) rfl (by first | exact C.1 | exact C.2.1 | exact C.2.2.1 | exact C.2.2.2.1 | exact C.2.2.2.2.1 | exact C.2.2.2.2.2.1 | exact C.2.2.2.2.2.2.1 | exact C.2.2.2.2.2.2.2.1 | exact C.2.2.2.2.2.2.2.2.1 | exact C.2.2.2.2.2.2.2.2.2.1 | apply C.1 | apply C.2.1 | apply C.2.2.1 | apply C.2.2.2.1 | apply C.2.2.2.2.1 | apply C.2.2.2.2.2.1 | apply C.2.2.2.2.2.2.1 | apply C.2.2.2.2.2.2.2.1 | apply C.2.2.2.2.2.2.2.2.1 | apply C.2.2.2.2.2.2.2.2.2.1) (by simp) (by simp) ?_)
        (try simp -implicitDefEqProofs (maxSteps := 1000000) [F])
        exact k.1; done)
     | (refine awl_boxM m rfl rfl rfl (by first | assumption | kernel_rfl) (by first | exact C.1 | exact C.2.1 | exact C.2.2.1 | exact C.2.2.2.1 | exact C.2.2.2.2.1 | exact C.2.2.2.2.2.1 | exact C.2.2.2.2.2.2.1 | exact C.2.2.2.2.2.2.2.1 | exact C.2.2.2.2.2.2.2.2.1 | exact C.2.2.2.2.2.2.2.2.2.1 | apply C.1 | apply C.2.1 | apply C.2.2.1 | apply C.2.2.2.1 | apply C.2.2.2.2.1 | apply C.2.2.2.2.2.1 | apply C.2.2.2.2.2.2.1 | apply C.2.2.2.2.2.2.2.1 | apply C.2.2.2.2.2.2.2.2.1 | apply C.2.2.2.2.2.2.2.2.2.1) rfl (by repeat (first | exact .nil | refine .cons (.ptr _) ?_ | refine .cons (.cl (by simp)) ?_)) ?_ ?_ ?_ ?_; (iterate 3 (focus (simp [σ0]; done))); simp -implicitDefEqProofs (maxSteps := 1000000) [F]; exact k.1; done))
  | (refine ret_of (.inl rfl) (by simp; rfl) (Fin.of ?_); exact k.1; done)
  | ((fail_if_success (with_reducible first | refine awl_id ?_ | refine aw_id ?_)); (first | refine awl_id ?_ | refine aw_id ?_); (try simp -implicitDefEqProofs (maxSteps := 1000000) [F]); exact k.1; done)) : P := h ⟨⟩ F C ⟨k⟩
/-- A step: ms the variables that are written, F what simp may use, C contracts. -/
theorem aw_V {P Q A B : Prop} (ms : List Nat) (F : A) (C : B) (k : Q) (h : Mu ms → A → B → Shut Q → P := by
  intro m F C k
  first
  | (with_reducible refine aw_id ?_
     first
     | (refine aw_seq ?_; exact k.1; done)
     | ((first | refine aw_runM m ?_ | refine aw_ymixM m draws (by decide +kernel) ?_); (try simp -implicitDefEqProofs (maxSteps := 1000000) [F]); exact k.1; done)
     | (refine aw_zrunM m draws (by decide +kernel) (by decide +kernel) ?_; (try simp -implicitDefEqProofs (maxSteps := 1000000) [F]); (repeat first | refine zcurL (by decide +kernel) ?_ | refine zcurH (by decide +kernel) ?_ | refine zcurL' (by decide +kernel) ?_ | refine zcurH' (by decide +kernel) ?_); exact k.1; done)
     | ((first | refine aw_yrun draws (by kernel_rfl) ?_ | refine aw_skip ?_ | refine aw_exit ?_); (try simp -implicitDefEqProofs (maxSteps := 1000000) [F]); exact k.1; done)
     | (refine aw_condT rfl (by with_reducible exact rfl) ?_; exact k.1; done)
     | (refine aw_condF rfl (by with_reducible exact rfl) ?_; exact k.1; done)
     | (refine aw_block ?_; exact k.1; done)
     | (refine aw_ret (ret_of (.inr rfl) (by simp; rfl) (Fin.close (Fin.of ?_))); exact k.1; done))
  | (with_reducible refine awl_id ?_
     first
     | ((first
         | refine awl_skipM m rfl ?_
         | refine awl_pureGM m rfl rfl rfl (by first | assumption | kernel_rfl) rfl (fun hc => by first | exact C.1 | exact C.2.1 | exact C.2.2.1 | exact C.2.2.2.1 | exact C.2.2.2.2.1 | exact C.2.2.2.2.2.1 | exact C.2.2.2.2.2.2.1 | exact C.2.2.2.2.2.2.2.1 | exact C.2.2.2.2.2.2.2.2.1 | exact C.2.2.2.2.2.2.2.2.2.1 | apply C.1 | apply C.2.1 | apply C.2.2.1 | apply C.2.2.2.1 | apply C.2.2.2.2.1 | apply C.2.2.2.2.2.1 | apply C.2.2.2.2.2.2.1 | apply C.2.2.2.2.2.2.2.1 | apply C.2.2.2.2.2.2.2.2.1 | apply C.2.2.2.2.2.2.2.2.2.1) (by simp) (by simp) (by simp) ?_
         | refine awl_pureM m rfl rfl rfl (by first | assumption | kernel_rfl) rfl (by first | exact C.1 | exact C.2.1 | exact C.2.2.1 | exact C.2.2.2.1 | exact C.2.2.2.2.1 | exact C.2.2.2.2.2.1 | exact C.2.2.2.2.2.2.1 | exact C.2.2.2.2.2.2.2.1 | exact C.2.2.2.2.2.2.2.2.1 | exact C.2.2.2.2.2.2.2.2.2.1 | apply C.1 | apply C.2.1 | apply C.2.2.1 | apply C.2.2.2.1 | apply C.2.2.2.2.1 | apply C.2.2.2.2.2.1 | apply C.2.2.2.2.2.2.1 | apply C.2.2.2.2.2.2.2.1 | apply C.2.2.2.2.2.2.2.2.1 | apply C.2.2.2.2.2.2.2.2.2.1) (by simp) (by simp) ?_)
        (try simp -implicitDefEqProofs (maxSteps := 1000000) [F])
        exact k.1; done)
     | (refine awl_boxM m rfl rfl rfl (by first | assumption | kernel_rfl) (by first | exact C.1 | exact C.2.1 | exact C.2.2.1 | exact C.2.2.2.1 | exact C.2.2.2.2.1 | exact C.2.2.2.2.2.1 | exact C.2.2.2.2.2.2.1 | exact C.2.2.2.2.2.2.2.1 | exact C.2.2.2.2.2.2.2.2.1 | exact C.2.2.2.2.2.2.2.2.2.1 | apply C.1 | apply C.2.1 | apply C.2.2.1 | apply C.2.2.2.1 | apply C.2.2.2.2.1 | apply C.2.2.2.2.2.1 | apply C.2.2.2.2.2.2.1 | apply C.2.2.2.2.2.2.2.1 | apply C.2.2.2.2.2.2.2.2.1 | apply C.2.2.2.2.2.2.2.2.2.1) rfl (by repeat (first | exact .nil | refine .cons (.ptr _) ?_ | refine .cons (.cl (by simp)) ?_)) ?_ ?_ ?_ ?_; (iterate 3 (focus (simp [σ0]; done))); simp -implicitDefEqProofs (maxSteps := 1000000) [F]; exact k.1; done))
  | (with_reducible refine yl_id ?_
     first
     | refine yl_skip rfl ?_
     | refine yl_pureG rfl rfl rfl (by first | assumption | kernel_rfl) rfl (fun hc => by first | exact C.1 | exact C.2.1 | exact C.2.2.1 | exact C.2.2.2.1 | exact C.2.2.2.2.1 | exact C.2.2.2.2.2.1 | exact C.2.2.2.2.2.2.1 | exact C.2.2.2.2.2.2.2.1 | exact C.2.2.2.2.2.2.2.2.1 | exact C.2.2.2.2.2.2.2.2.2.1 | apply C.1 | apply C.2.1 | apply C.2.2.1 | apply C.2.2.2.1 | apply C.2.2.2.2.1 | apply C.2.2.2.2.2.1 | apply C.2.2.2.2.2.2.1 | apply C.2.2.2.2.2.2.2.1 | apply C.2.2.2.2.2.2.2.2.1 | apply C.2.2.2.2.2.2.2.2.2.1) (by simp) (by simp) (by simp) ?_
     | refine yl_pure rfl rfl rfl (by first | assumption | kernel_rfl) rfl (by first | exact C.1 | exact C.2.1 | exact C.2.2.1 | exact C.2.2.2.1 | exact C.2.2.2.2.1 | exact C.2.2.2.2.2.1 | exact C.2.2.2.2.2.2.1 | exact C.2.2.2.2.2.2.2.1 | exact C.2.2.2.2.2.2.2.2.1 | exact C.2.2.2.2.2.2.2.2.2.1 | apply C.1 | apply C.2.1 | apply C.2.2.1 | apply C.2.2.2.1 | apply C.2.2.2.2.1 | apply C.2.2.2.2.2.1 | apply C.2.2.2.2.2.2.1 | apply C.2.2.2.2.2.2.2.1 | apply C.2.2.2.2.2.2.2.2.1 | apply C.2.2.2.2.2.2.2.2.2.1) (by simp) (by simp) ?_
     (try simp -implicitDefEqProofs (maxSteps := 1000000) [F])
     exact k.1; done)
  | (with_reducible refine zl_id ?_
     first
     | refine zl_skip (by simp) rfl ?_
     | refine zl_pure_guard (by simp) rfl rfl rfl (by first | assumption | kernel_rfl) rfl (fun hc => by first | exact C.1 | exact C.2.1 | exact C.2.2.1 | exact C.2.2.2.1 | exact C.2.2.2.2.1 | exact C.2.2.2.2.2.1 | exact C.2.2.2.2.2.2.1 | exact C.2.2.2.2.2.2.2.1 | exact C.2.2.2.2.2.2.2.2.1 | exact C.2.2.2.2.2.2.2.2.2.1 | apply C.1 | apply C.2.1 | apply C.2.2.1 | apply C.2.2.2.1 | apply C.2.2.2.2.1 | apply C.2.2.2.2.2.1 | apply C.2.2.2.2.2.2.1 | apply C.2.2.2.2.2.2.2.1 | apply C.2.2.2.2.2.2.2.2.1 | apply C.2.2.2.2.2.2.2.2.2.1) (by simp) (by simp) (by simp) ?_
     | refine zl_pure (by simp) rfl rfl rfl (by first | assumption | kernel_rfl) rfl (by first | exact C.1 | exact C.2.1 | exact C.2.2.1 | exact C.2.2.2.1 | exact C.2.2.2.2.1 | exact C.2.2.2.2.2.1 | exact C.2.2.2.2.2.2.1 | exact C.2.2.2.2.2.2.2.1 | exact C.2.2.2.2.2.2.2.2.1 | exact C.2.2.2.2.2.2.2.2.2.1 | apply C.1 | apply C.2.1 | apply C.2.2.1 | apply C.2.2.2.1 | apply C.2.2.2.2.1 | apply C.2.2.2.2.2.1 | apply C.2.2.2.2.2.2.1 | apply C.2.2.2.2.2.2.2.1 | apply C.2.2.2.2.2.2.2.2.1 | apply C.2.2.2.2.2.2.2.2.2.1) (by simp) (by simp) ?_
     (try simp -implicitDefEqProofs (maxSteps := 1000000) [F])
     (repeat first | refine zcurL (by decide +kernel) ?_ | refine zcurH (by decide +kernel) ?_ | refine zcurL' (by decide +kernel) ?_ | refine zcurH' (by decide +kernel) ?_)
     exact k.1; done)
  | (refine ret_of (.inl rfl) (by simp; rfl) (Fin.close (Fin.of ?_)); exact k.1; done)
  | ((fail_if_success (with_reducible first | refine awl_id ?_ | refine aw_id ?_ | refine yl_id ?_ | refine zl_id ?_)); (first | refine awl_id ?_ | refine aw_id ?_ | refine yl_id ?_ | refine zl_id ?_); (try simp -implicitDefEqProofs (maxSteps := 1000000) [F]); exact k.1; done)) : P := h ⟨⟩ F C ⟨k⟩
/-- A step: ms the variables that are written, F what simp may use, C contracts. -/
theorem aw_M {P Q A B : Prop} (ms : List Nat) (F : A) (C : B) (k : Q) (h : Mu ms → A → B → Shut Q → P := by
  intro m F C k
  first
  | (with_reducible refine aw_id ?_
     first
     | (refine aw_seq ?_; exact k.1; done)
     | (refine aw_runM m ?_; (try simp -implicitDefEqProofs (maxSteps := 1000000) [F]); exact k.1; done)
     | ((first | refine aw_skip ?_ | refine aw_exit ?_); (try simp -implicitDefEqProofs (maxSteps := 1000000) [F]); exact k.1; done)
     | (refine aw_condT rfl (by with_reducible exact rfl) ?_; exact k.1; done)
     | (refine aw_condF rfl (by with_reducible exact rfl) ?_; exact k.1; done)
     | (refine aw_block ?_; exact k.1; done)
     | (refine aw_ret (ret_of (.inr rfl) (by simp; rfl) (Fin.close (Fin.of ?_))); exact k.1; done))
  | (with_reducible refine awl_id ?_
     first
     | ((first
         | refine awl_skipM m rfl ?_
         | refine awl_pureGM m rfl rfl rfl (by first | assumption | kernel_rfl) rfl (fun hc => by first | exact C.1 | exact C.2.1 | exact C.2.2.1 | exact C.2.2.2.1 | exact C.2.2.2.2.1 | exact C.2.2.2.2.2.1 | exact C.2.2.2.2.2.2.1 | exact C.2.2.2.2.2.2.2.1 | exact C.2.2.2.2.2.2.2.2.1 | exact C.2.2.2.2.2.2.2.2.2.1 | apply C.1 | apply C.2.1 | apply C.2.2.1 | apply C.2.2.2.1 | apply C.2.2.2.2.1 | apply C.2.2.2.2.2.1 | apply C.2.2.2.2.2.2.1 | apply C.2.2.2.2.2.2.2.1 | apply C.2.2.2.2.2.2.2.2.1 | apply C.2.2.2.2.2.2.2.2.2.1) (by simp) (by simp) (by simp) ?_
         | refine awl_pureM m rfl rfl rfl (by first | assumption | kernel_rfl) rfl (by first | exact C.1 | exact C.2.1 | exact C.2.2.1 | exact C.2.2.2.1 | exact C.2.2.2.2.1 | exact C.2.2.2.2.2.1 | exact C.2.2.2.2.2.2.1 | exact C.2.2.2.2.2.2.2.1 | exact C.2.2.2.2.2.2.2.2.1 | exact C.2.2.2.2.2.2.2.2.2.1 | apply C.1 | apply C.2.1 | apply C.2.2.1 | apply C.2.2.2.1 | apply C.2.2.2.2.1 | apply C.2.2.2.2.2.1 | apply C.2.2.2.2.2.2.1 | apply C.2.2.2.2.2.2.2.1 | apply C.2.2.2.2.2.2.2.2.1 | apply C.2.2.2.2.2.2.2.2.2.1) (by simp) (by simp) ?_)
        (try simp -implicitDefEqProofs (maxSteps := 1000000) [F])
        exact k.1; done)
     | (refine awl_boxM m rfl rfl rfl (by first | assumption | kernel_rfl) (by first | exact C.1 | exact C.2.1 | exact C.2.2.1 | exact C.2.2.2.1 | exact C.2.2.2.2.1 | exact C.2.2.2.2.2.1 | exact C.2.2.2.2.2.2.1 | exact C.2.2.2.2.2.2.2.1 | exact C.2.2.2.2.2.2.2.2.1 | exact C.2.2.2.2.2.2.2.2.2.1 | apply C.1 | apply C.2.1 | apply C.2.2.1 | apply C.2.2.2.1 | apply C.2.2.2.2.1 | apply C.2.2.2.2.2.1 | apply C.2.2.2.2.2.2.1 | apply C.2.2.2.2.2.2.2.1 | apply C.2.2.2.2.2.2.2.2.1 | apply C.2.2.2.2.2.2.2.2.2.1) rfl (by repeat (first | exact .nil | refine .cons (.ptr _) ?_ | refine .cons (.cl (by simp)) ?_)) ?_ ?_ ?_ ?_; (iterate 3 (focus (simp [σ0]; done))); simp -implicitDefEqProofs (maxSteps := 1000000) [F]; exact k.1; done))
  | (refine ret_of (.inl rfl) (by simp; rfl) (Fin.close (Fin.of ?_)); exact k.1; done)
  | ((fail_if_success (with_reducible first | refine awl_id ?_ | refine aw_id ?_)); (first | refine awl_id ?_ | refine aw_id ?_); (try simp -implicitDefEqProofs (maxSteps := 1000000) [F]); exact k.1; done)) : P := h ⟨⟩ F C ⟨k⟩
end Go.AL
/-! No contracts of the library here. -/
namespace Go.AL
end Go.AL
/-! Contracts: gridironref01's texts. -/
namespace Go.AL
open Go.Proofs
set_option linter.unusedSimpArgs false
set_option linter.unusedVariables false
set_option maxRecDepth 100000 in
theorem size_ok (a : Int) (h1 : -9223372036854775808 ≤ a) (h2 : a ≤ 9223372036854775807) : APure Try.prog 154 [vi a] (vu a.natAbs) := by
  refine apure_in Try.func154 Try.ntmps154 rfl ?_
  repeat' first | refine aw_N [] trivial trivial ?_ | refine aw_cond rfl (fun h => ?_) (fun h => ?_)
  · simp [tupOf] at h ⊢
    rw [wrap_id (n := a + 1) (by omega) (by omega), wrap_id (by omega) (by omega), uwrap_id (n := -(a + 1)) (by omega) (by omega), uwrap_id (by omega) (by omega)]
    omega
  · simp [tupOf] at h ⊢
    rw [uwrap_id (by omega) (by omega)]
    omega
def dig (d : Nat) : ByteArray := ⟨#[UInt8.ofNat (48 + d)]⟩
def figs (u : Nat) : ByteArray := if u < 10 then dig u else figs (u / 10) ++ dig (u % 10)
theorem figs_len (u : Nat) (h : u < 18446744073709551616) : (figs u).size ≤ 20 := by
  have key : ∀ (n u : Nat), u < 10 ^ (n + 1) → (figs u).size ≤ n + 1 := by
    intro n
    induction n with
    | zero => intro u hu; unfold figs; rw [if_pos (by omega)]; exact Nat.le_refl _
    | succ n ih =>
      intro u hu
      unfold figs
      split
      · have e : (dig u).size = 1 := rfl
        omega
      · have := ih (u / 10) (by rw [Nat.pow_succ] at hu; omega)
        rw [ByteArray.size_append]
        have e : (dig (u % 10)).size = 1 := rfl
        omega
  exact key 19 u (by omega)
set_option maxRecDepth 100000 in
theorem figures_ok (u : Nat) (h : u < 18446744073709551616) : APure Try.prog 174 [vu u] (vs (figs u)) := by
  induction u using Nat.strongRecOn with
  | _ u ih =>
    have hd : strOf [IntKind.u8.wrap (IntKind.u64.wrap (48 + (u : Int).tmod 10))] = dig (u % 10) := by
      rw [show (u : Int).tmod 10 = ((u % 10 : Nat) : Int) from rfl, uwrap_id (by omega) (by omega), bwrap_id (by omega) (by omega)]
      simp only [strOf, dig, List.map_cons, List.map_nil]
      rw [show (48 + ((u % 10 : Nat) : Int)).toNat = 48 + u % 10 by omega]
    have hq : IntKind.u64.wrap ((u : Int) / 10) = ((u / 10 : Nat) : Int) := by rw [uwrap_id (by omega) (by omega)]; rfl
    have hs : (figs (u / 10)).size + (dig (u % 10)).size ≤ 9223372036854775807 := by
      have := figs_len (u / 10) (by omega)
      have e : (dig (u % 10)).size = 1 := rfl
      omega
    have hf := figs.eq_1 u
    refine apure_in Try.func174 Try.ntmps174 rfl ?_
    repeat' first | refine aw_N [] trivial trivial ?_ | refine aw_cond rfl (fun h => ?_) (fun h => ?_)
    · have h10 : 10 ≤ u := by simp at h; omega
      rw [hd, hq]
      refine awl_pure' [] rfl rfl rfl (by kernel_rfl) rfl (ih (u / 10) (by omega) (by omega)) (by simp) (by simp) ?_
      simp -implicitDefEqProofs [hs]
      repeat' first | refine aw_N [] trivial trivial ?_ | refine aw_cond rfl (fun h => ?_) (fun h => ?_)
      rw [hf, if_neg (by omega)]
      rfl
    · have h10 : u < 10 := by simp at h; omega
      rw [hd, hf, if_pos h10, Nat.mod_eq_of_lt h10]
      rfl
/-- A number's text. -/
def textI (a : Int) : ByteArray := if a < 0 then ⟨#[45]⟩ ++ figs a.natAbs else figs a.natAbs
set_option maxRecDepth 100000 in
theorem rtext1_ok (a : Int) (h1 : -9223372036854775808 ≤ a) (h2 : a ≤ 9223372036854775807) : APure Try.prog 168 [vi a] (vs (textI a)) := by
  have hl := figs_len a.natAbs (by omega)
  have hs : (⟨#[45]⟩ : ByteArray).size + (figs a.natAbs).size ≤ 9223372036854775807 := by
    have e : (⟨#[45]⟩ : ByteArray).size = 1 := rfl
    omega
  refine apure_in Try.func168 Try.ntmps168 rfl ?_
  repeat' first | refine aw_N [] @hs (And.intro (size_ok a h1 h2) (And.intro (figures_ok a.natAbs (by omega)) trivial)) ?_ | refine aw_cond rfl (fun h => ?_) (fun h => ?_)
  · have : a < 0 := by simpa using h
    simp [tupOf, textI, this]
  · have : ¬ a < 0 := by simpa using h
    simp [tupOf, textI, this]
end Go.AL
/-! Contracts: num. -/
namespace Go.AL
open Go.Proofs
set_option linter.unusedSimpArgs false
set_option linter.unusedVariables false
def inI (c : Int) : Bool := decide (-9223372036854775808 ≤ c) && decide (c ≤ 9223372036854775807)
theorem inI_iff {c : Int} : inI c = true ↔ In64 c := by simp [inI, In64]
/-- A number, if it is one. -/
abbrev chk (c : Int) : AV := .tup [vi (z (inI c) c), vb (inI c)]
theorem wrap_eq (c : Int) : IntKind.i64.wrap c = (c + 9223372036854775808) % 18446744073709551616 - 9223372036854775808 := by
  simp only [IntKind.wrap, IntKind.bits, IntKind.signed]
  simp
  split <;> omega
theorem uwrap_eq (c : Int) : IntKind.u64.wrap c = c % 18446744073709551616 := by simp [IntKind.wrap, IntKind.bits, IntKind.signed]
theorem wrap_in {c : Int} (h : In64 c) : IntKind.i64.wrap c = c := by unfold In64 at h; rw [wrap_eq]; omega
@[simp high] theorem cl_vbs (l : List Bool) : Cl (.vsl (l.map vb)) := by
  simp; rintro c (⟨_, rfl⟩ | ⟨_, rfl⟩) <;> simp
theorem z_chk {c w : Int} {d : Bool} (h1 : In64 c → d = true) (h2 : ¬ In64 c → d = false) (h3 : In64 c → w = c) : AV.tup [vi (z d w), vb d] = chk c := by
  by_cases h : In64 c
  · rw [h1 h, h3 h, chk, inI_iff.2 h]
  · have : inI c = false := by cases hh : inI c with | false => rfl | true => exact absurd (inI_iff.1 hh) h
    rw [h2 h, chk, this]; rfl
end Go.AL
/-! Contracts: gridironref01's numbers. -/
namespace Go.AL
open Go.Proofs
set_option linter.unusedSimpArgs false
set_option linter.unusedVariables false
theorem no_chk {c : Int} (h : ¬ In64 c) : AV.tup [vi 0, vb false] = chk c := z_chk (d := false) (fun hh => absurd hh h) (fun _ => rfl) (w := 0) (fun hh => absurd hh h)
theorem yes_chk {c w : Int} (h : In64 c) (e : w = c) : AV.tup [vi w, vb true] = chk c := z_chk (d := true) (fun _ => rfl) (fun hh => absurd h hh) (fun _ => e)
theorem wrap_u {x : Int} (h0 : 0 ≤ x) (h1 : x ≤ 18446744073709551615) : IntKind.u64.wrap x = x := uwrap_id h0 (by omega)
/-- With its sign. -/
def sgn (m : Bool) (u : Int) : Int := if m = true then -u else u
theorem chk_of {X Y : Int} (h : X = Y) : tupOf [vi (z (inI X) X), vb (inI X)] = chk Y := by subst h; rfl
theorem uw_lo (x : Int) : 0 ≤ IntKind.u64.wrap x := by rw [uwrap_eq]; omega
theorem uw_hi (x : Int) : IntKind.u64.wrap x ≤ 18446744073709551615 := by rw [uwrap_eq]; omega
set_option maxRecDepth 100000 in
theorem signed_ok (u : Int) (m : Bool) (h0 : 0 ≤ u) (h1 : u ≤ 18446744073709551615) : APure Try.prog 156 [vu u, vb m] (chk (sgn m u)) := by
  cases m with
  | true =>
    refine apure_in Try.func156 Try.ntmps156 rfl ?_
    repeat' first | refine aw_N [] trivial trivial ?_ | refine aw_cond rfl (fun h => ?_) (fun h => ?_)
    · simp at h
      subst h
      exact yes_chk (by unfold In64 sgn; decide) (by unfold sgn; decide)
    · rename_i g1
      simp at h g1
      exact no_chk (by unfold In64 sgn; simp; omega)
    · rename_i g1; have g2 := h
      simp at g1 g2
      rw [wrap_in (c := u) (by unfold In64; omega), wrap_in (c := -u) (by unfold In64; omega)]
      exact yes_chk (by unfold In64 sgn; simp; omega) (by unfold sgn; simp)
  | false =>
    refine apure_in Try.func156 Try.ntmps156 rfl ?_
    repeat' first | refine aw_N [] trivial trivial ?_ | refine aw_cond rfl (fun h => ?_) (fun h => ?_)
    · simp at h
      exact no_chk (by unfold In64 sgn; simp; omega)
    · have g2 := h
      simp at g2
      rw [wrap_in (c := u) (by unfold In64; omega)]
      exact yes_chk (by unfold In64 sgn; simp; omega) (by unfold sgn; simp)
set_option maxRecDepth 100000 in
theorem both_ok (x y : Int) (m : Bool) (hx0 : 0 ≤ x) (hx : x ≤ 9223372036854775808) (hy0 : 0 ≤ y) (hy : y ≤ 9223372036854775808) : APure Try.prog 155 [vu x, vu y, vb m] (chk (sgn m (x + y))) := by
  have w1 : IntKind.u64.wrap (9223372036854775808 - y) = 9223372036854775808 - y := wrap_u (by omega) (by omega)
  refine apure_in Try.func155 Try.ntmps155 rfl ?_
  repeat' (first
    | refine aw_seq ?_
    | (refine aw_run [] ?_; try simp -implicitDefEqProofs (maxSteps := 1000000) [w1])
    | ((first | refine awl_skip' [] rfl ?_ | refine awl_pure_guard [] rfl rfl rfl (by first | assumption | kernel_rfl) rfl (fun hc => by first | exact signed_ok _ _ (uw_lo _) (uw_hi _)) (by simp) (by simp) (by simp) ?_ | refine awl_pure' [] rfl rfl rfl (by first | assumption | kernel_rfl) rfl (by first | exact signed_ok _ _ (uw_lo _) (uw_hi _)) (by simp) (by simp) ?_ | refine aw_skip ?_ | refine aw_exit ?_); try simp -implicitDefEqProofs (maxSteps := 1000000) [w1])
    | (refine aw_cond rfl (fun h => ?_) (fun h => ?_) <;> try (with_reducible first | exact ff_tt h | exact tt_ff h))
    | refine aw_block ?_
    | refine aw_ret (ret_of (.inr rfl) (by simp [Try.results155]; rfl) (Fin.of ?_))
    | refine ret_of (.inl rfl) (by simp [Try.results155]; rfl) (Fin.of ?_))
  · simp at h
    exact no_chk (by unfold In64 sgn; split <;> omega)
  · simp at h
    refine chk_of ?_
    rw [wrap_u (by omega) (by omega)]
theorem dec_eq (p q : Prop) [Decidable p] [Decidable q] : ((decide p == decide q) = true) ↔ (p ↔ q) := by rw [beq_iff_eq, decide_eq_decide]
theorem dec_ne' (p q : Prop) [Decidable p] [Decidable q] : ((decide p == decide q) = false) ↔ ¬ (p ↔ q) := by rw [beq_eq_false_iff_ne, ne_eq, decide_eq_decide]
theorem dec_neT (p q : Prop) [Decidable p] [Decidable q] : ((decide p != decide q) = true) ↔ ¬ (p ↔ q) := by rw [bne_iff_ne, ne_eq, decide_eq_decide]
theorem dec_neF (p q : Prop) [Decidable p] [Decidable q] : ((decide p != decide q) = false) ↔ (p ↔ q) := by rw [bne_eq_false_iff_eq, decide_eq_decide]
set_option maxRecDepth 100000 in
theorem radd_ok {a b : Int} (ha : In64 a) (hb : In64 b) : APure Try.prog 114 [vi a, vi b] (chk (a + b)) := by
  have ha' := ha
  have hb' := hb
  unfold In64 at ha' hb'
  have h1 := both_ok a.natAbs b.natAbs (decide (a < 0)) (by omega) (by omega) (by omega) (by omega)
  refine apure_in Try.func114 Try.ntmps114 rfl ?_
  repeat' (first
    | refine aw_seq ?_
    | (refine aw_run [] ?_; try simp -implicitDefEqProofs (maxSteps := 1000000))
    | ((first | refine awl_skip' [] rfl ?_ | refine awl_pure_guard [] rfl rfl rfl (by first | assumption | kernel_rfl) rfl (fun hc => by first | exact size_ok a ha.1 ha.2 | exact size_ok b hb.1 hb.2 | exact h1 | exact signed_ok _ _ (uw_lo _) (uw_hi _)) (by simp) (by simp) (by simp) ?_ | refine awl_pure' [] rfl rfl rfl (by first | assumption | kernel_rfl) rfl (by first | exact size_ok a ha.1 ha.2 | exact size_ok b hb.1 hb.2 | exact h1 | exact signed_ok _ _ (uw_lo _) (uw_hi _)) (by simp) (by simp) ?_ | refine aw_skip ?_ | refine aw_exit ?_); try simp -implicitDefEqProofs (maxSteps := 1000000))
    | (refine aw_cond rfl (fun h => ?_) (fun h => ?_) <;> try (with_reducible first | exact ff_tt h | exact tt_ff h))
    | refine aw_block ?_
    | refine aw_ret (ret_of (.inr rfl) (by simp [Try.results114]; rfl) (Fin.of ?_))
    | refine ret_of (.inl rfl) (by simp [Try.results114]; rfl) (Fin.of ?_))
  · rw [dec_eq] at h
    refine chk_of ?_
    unfold sgn; split <;> rename_i h3 <;> simp at h3 <;> omega
  · rename_i h4
    rw [dec_ne'] at h4
    simp at h
    refine chk_of ?_
    rw [wrap_u (by omega) (by omega)]
    unfold sgn; split <;> rename_i h3 <;> simp at h3 <;> omega
  · rename_i h4
    rw [dec_ne'] at h4
    simp at h
    refine chk_of ?_
    rw [wrap_u (by omega) (by omega)]
    unfold sgn; split <;> rename_i h3 <;> simp at h3 <;> omega
set_option maxRecDepth 100000 in
theorem rsub_ok {a b : Int} (ha : In64 a) (hb : In64 b) : APure Try.prog 115 [vi a, vi b] (chk (a - b)) := by
  have ha' := ha
  have hb' := hb
  unfold In64 at ha' hb'
  have h1 := both_ok a.natAbs b.natAbs (decide (a < 0)) (by omega) (by omega) (by omega) (by omega)
  refine apure_in Try.func115 Try.ntmps115 rfl ?_
  repeat' (first
    | refine aw_seq ?_
    | (refine aw_run [] ?_; try simp -implicitDefEqProofs (maxSteps := 1000000))
    | ((first | refine awl_skip' [] rfl ?_ | refine awl_pure_guard [] rfl rfl rfl (by first | assumption | kernel_rfl) rfl (fun hc => by first | exact size_ok a ha.1 ha.2 | exact size_ok b hb.1 hb.2 | exact h1 | exact signed_ok _ _ (uw_lo _) (uw_hi _)) (by simp) (by simp) (by simp) ?_ | refine awl_pure' [] rfl rfl rfl (by first | assumption | kernel_rfl) rfl (by first | exact size_ok a ha.1 ha.2 | exact size_ok b hb.1 hb.2 | exact h1 | exact signed_ok _ _ (uw_lo _) (uw_hi _)) (by simp) (by simp) ?_ | refine aw_skip ?_ | refine aw_exit ?_); try simp -implicitDefEqProofs (maxSteps := 1000000))
    | (refine aw_cond rfl (fun h => ?_) (fun h => ?_) <;> try (with_reducible first | exact ff_tt h | exact tt_ff h))
    | refine aw_block ?_
    | refine aw_ret (ret_of (.inr rfl) (by simp [Try.results115]; rfl) (Fin.of ?_))
    | refine ret_of (.inl rfl) (by simp [Try.results115]; rfl) (Fin.of ?_))
  · rw [dec_neT] at h
    refine chk_of ?_
    unfold sgn; split <;> rename_i h3 <;> simp at h3 <;> omega
  · rename_i h4
    rw [dec_neF] at h4
    simp at h
    refine chk_of ?_
    rw [wrap_u (by omega) (by omega)]
    unfold sgn; split <;> rename_i h3 <;> simp at h3 <;> omega
  · rename_i h4
    rw [dec_neF] at h4
    simp at h
    refine chk_of ?_
    rw [wrap_u (by omega) (by omega)]
    unfold sgn; split <;> rename_i h3 <;> simp at h3 <;> omega
theorem sign_mul (a b : Int) : sgn (decide (a < 0) != decide (b < 0)) ((a.natAbs : Int) * b.natAbs) = a * b := by
  unfold sgn
  rcases Int.natAbs_eq a with ea | ea <;> rcases Int.natAbs_eq b with eb | eb <;> generalize a.natAbs = x at * <;> generalize b.natAbs = y at * <;> subst ea <;> subst eb <;> by_cases hx : x = 0 <;> by_cases hy : y = 0 <;> simp [hx, hy, Int.neg_mul, Int.mul_neg] <;> omega
theorem sign_div (a b : Int) : sgn (decide (a < 0) != decide (b < 0)) ((a.natAbs : Int) / b.natAbs) = a.tdiv b := by
  have e : (a.natAbs : Int) / (b.natAbs : Int) = Int.tdiv (a.natAbs : Int) (b.natAbs : Int) := (Int.tdiv_eq_ediv_of_nonneg (by omega)).symm
  rw [e]
  unfold sgn
  rcases Int.natAbs_eq a with ea | ea <;> rcases Int.natAbs_eq b with eb | eb <;> generalize a.natAbs = x at * <;> generalize b.natAbs = y at * <;> subst ea <;> subst eb <;> by_cases hx : x = 0 <;> by_cases hy : y = 0 <;> simp [hx, hy, Int.neg_tdiv, Int.tdiv_neg] <;> omega
set_option maxRecDepth 100000 in
theorem rmul_ok {a b : Int} (ha : In64 a) (hb : In64 b) : APure Try.prog 116 [vi a, vi b] (chk (a * b)) := by
  by_cases a0 : a = 0
  · subst a0
    refine apure_in Try.func116 Try.ntmps116 rfl ?_
    repeat' (first
      | refine aw_seq ?_
      | (refine aw_run [] ?_; try simp -implicitDefEqProofs (maxSteps := 1000000))
      | ((first | refine awl_skip' [] rfl ?_ | refine awl_pure_guard [] rfl rfl rfl (by first | assumption | kernel_rfl) rfl (fun hc => by first | exact size_ok 0 ha.1 ha.2 | exact size_ok b hb.1 hb.2 | exact signed_ok _ _ (uw_lo _) (uw_hi _)) (by simp) (by simp) (by simp) ?_ | refine awl_pure' [] rfl rfl rfl (by first | assumption | kernel_rfl) rfl (by first | exact size_ok 0 ha.1 ha.2 | exact size_ok b hb.1 hb.2 | exact signed_ok _ _ (uw_lo _) (uw_hi _)) (by simp) (by simp) ?_ | refine aw_skip ?_ | refine aw_exit ?_); try simp -implicitDefEqProofs (maxSteps := 1000000))
      | (refine aw_cond rfl (fun h => ?_) (fun h => ?_) <;> try (with_reducible first | exact ff_tt h | exact tt_ff h))
      | refine aw_block ?_
      | refine aw_ret (ret_of (.inr rfl) (by simp [Try.results116]; rfl) (Fin.of ?_))
      | refine ret_of (.inl rfl) (by simp [Try.results116]; rfl) (Fin.of ?_))
    refine chk_of ?_
    rw [show IntKind.u64.wrap 0 = 0 by rw [uwrap_eq]; rfl]
    unfold sgn; split <;> rfl
  · have hx : ¬ (a.natAbs : Int) = 0 := by omega
    have hq : IntKind.u64.wrap (Int.tdiv 9223372036854775808 (a.natAbs : Int)) = 9223372036854775808 / (a.natAbs : Int) := by
      have e : Int.tdiv 9223372036854775808 (a.natAbs : Int) = 9223372036854775808 / (a.natAbs : Int) := Int.tdiv_eq_ediv_of_nonneg (by omega)
      have q0 : 0 ≤ (9223372036854775808 : Int) / (a.natAbs : Int) := Int.ediv_nonneg (by omega) (by omega)
      have q1 : (9223372036854775808 : Int) / (a.natAbs : Int) ≤ 9223372036854775808 := Int.ediv_le_self _ (by omega)
      rw [e, wrap_u q0 (by omega)]
    refine apure_in Try.func116 Try.ntmps116 rfl ?_
    repeat' (first
      | refine aw_seq ?_
      | (refine aw_run [] ?_; try simp -implicitDefEqProofs (maxSteps := 1000000) [hx, a0])
      | ((first | refine awl_skip' [] rfl ?_ | refine awl_pure_guard [] rfl rfl rfl (by first | assumption | kernel_rfl) rfl (fun hc => by first | exact size_ok a ha.1 ha.2 | exact size_ok b hb.1 hb.2 | exact signed_ok _ _ (uw_lo _) (uw_hi _)) (by simp) (by simp) (by simp) ?_ | refine awl_pure' [] rfl rfl rfl (by first | assumption | kernel_rfl) rfl (by first | exact size_ok a ha.1 ha.2 | exact size_ok b hb.1 hb.2 | exact signed_ok _ _ (uw_lo _) (uw_hi _)) (by simp) (by simp) ?_ | refine aw_skip ?_ | refine aw_exit ?_); try simp -implicitDefEqProofs (maxSteps := 1000000) [hx, a0])
      | (refine aw_cond rfl (fun h => ?_) (fun h => ?_) <;> try (with_reducible first | exact ff_tt h | exact tt_ff h))
      | refine aw_block ?_
      | refine aw_ret (ret_of (.inr rfl) (by simp [Try.results116]; rfl) (Fin.of ?_))
      | refine ret_of (.inl rfl) (by simp [Try.results116]; rfl) (Fin.of ?_))
    · simp at h
      have g2 : 9223372036854775808 < (b.natAbs : Int) * a.natAbs := (Int.ediv_lt_iff_lt_mul (by omega)).1 (by rw [hq] at h; exact h)
      refine no_chk ?_
      have g3 : (a * b).natAbs = a.natAbs * b.natAbs := Int.natAbs_mul a b
      have g4 : 9223372036854775808 < ((a * b).natAbs : Int) := by rw [g3, Int.natCast_mul, Int.mul_comm]; exact g2
      unfold In64
      generalize a * b = p at *
      omega
    · simp at h
      refine chk_of ?_
      have g2 : (b.natAbs : Int) * a.natAbs ≤ 9223372036854775808 := Int.not_lt.1 (fun hh => by
        have := (Int.ediv_lt_iff_lt_mul (show 0 < (a.natAbs : Int) by omega)).2 hh
        rw [hq] at h; omega)
      have hp : 0 ≤ (a.natAbs : Int) * b.natAbs := Int.mul_nonneg (by omega) (by omega)
      rw [Int.mul_comm] at g2
      rw [wrap_u hp (by omega), sign_mul]
set_option maxRecDepth 100000 in
theorem rdiv_ok {a b : Int} (ha : In64 a) (hb : In64 b) (b0 : b ≠ 0) : APure Try.prog 117 [vi a, vi b] (chk (a.tdiv b)) := by
  have hy : ¬ (b.natAbs : Int) = 0 := by omega
  refine apure_in Try.func117 Try.ntmps117 rfl ?_
  repeat' (first
    | refine aw_seq ?_
    | (refine aw_run [] ?_; try simp -implicitDefEqProofs (maxSteps := 1000000) [hy, b0])
    | ((first | refine awl_skip' [] rfl ?_ | refine awl_pure_guard [] rfl rfl rfl (by first | assumption | kernel_rfl) rfl (fun hc => by first | exact size_ok a ha.1 ha.2 | exact size_ok b hb.1 hb.2 | exact signed_ok _ _ (uw_lo _) (uw_hi _)) (by simp) (by simp) (by simp) ?_ | refine awl_pure' [] rfl rfl rfl (by first | assumption | kernel_rfl) rfl (by first | exact size_ok a ha.1 ha.2 | exact size_ok b hb.1 hb.2 | exact signed_ok _ _ (uw_lo _) (uw_hi _)) (by simp) (by simp) ?_ | refine aw_skip ?_ | refine aw_exit ?_); try simp -implicitDefEqProofs (maxSteps := 1000000) [hy, b0])
    | (refine aw_cond rfl (fun h => ?_) (fun h => ?_) <;> try (with_reducible first | exact ff_tt h | exact tt_ff h))
    | refine aw_block ?_
    | refine aw_ret (ret_of (.inr rfl) (by simp [Try.results117]; rfl) (Fin.of ?_))
    | refine ret_of (.inl rfl) (by simp [Try.results117]; rfl) (Fin.of ?_))
  refine chk_of ?_
  have q0 : 0 ≤ (a.natAbs : Int) / (b.natAbs : Int) := Int.ediv_nonneg (by omega) (by omega)
  have q1 : (a.natAbs : Int) / (b.natAbs : Int) ≤ a.natAbs := Int.ediv_le_self _ (by omega)
  unfold In64 at ha
  rw [wrap_u q0 (by omega), sign_div]
end Go.AL
namespace Go.Proofs.Ytjldlcakinmajaa.Dec
open Go.Lib
/-- Is a byte a figure? -/
def fig (c : UInt8) : Bool := decide (48 ≤ c.toNat ∧ c.toNat ≤ 57)
theorem of_fig {c : UInt8} (h : fig c = true) : 48 ≤ c.toNat ∧ c.toNat ≤ 57 := by unfold fig at h; simpa using h
/-- What figures come to. -/
def fv : List UInt8 → Nat → Nat
  | [], acc => acc
  | c :: r, acc => fv r (acc * 10 + (c.toNat - 48))
def fval (acc : Nat) (l : List UInt8) : Nat := fv l acc
theorem fval_nil (acc : Nat) : fval acc [] = acc := rfl
theorem fval_cons (acc : Nat) (c : UInt8) (r : List UInt8) : fval acc (c :: r) = fval (acc * 10 + (c.toNat - 48)) r := by unfold fval; rw [fv]
theorem fval_append (acc : Nat) (l m : List UInt8) : fval acc (l ++ m) = fval (fval acc l) m := by
  induction l generalizing acc with
  | nil => rfl
  | cons c r ih => rw [List.cons_append, fval_cons, fval_cons]; exact ih _
theorem fval_ge (acc : Nat) (l : List UInt8) : acc ≤ fval acc l := by
  induction l generalizing acc with
  | nil => exact Nat.le_refl _
  | cons c r ih => rw [fval_cons]; exact Nat.le_trans (by omega) (ih _)
theorem u8_of (n : Nat) (h : n < 256) : (UInt8.ofNat n).toNat = n := by simp [UInt8.toNat_ofNat', Nat.mod_eq_of_lt h]
/-- Atoi's own reading of figures. -/
theorem parse_figs (l : List UInt8) : ∀ acc, l.all fig = true → fval acc l < 18446744073709551616 → parseUint10 acc l = .ok (fval acc l) := by
  induction l with
  | nil => intro acc _ _; rfl
  | cons c r ih =>
    intro acc ha hv
    simp only [List.all_cons, Bool.and_eq_true] at ha
    have hc : 48 ≤ c.toNat ∧ c.toNat ≤ 57 := of_fig ha.1
    rw [fval_cons] at hv ⊢
    have := fval_ge (acc * 10 + (c.toNat - 48)) r
    simp only [parseUint10]
    rw [if_pos hc, if_neg (by omega), if_neg (by omega)]
    exact ih _ ha.2 hv
theorem fig_head {l : List UInt8} (h : l.all fig = true) {c : UInt8} (hc : l.head? = some c) : 48 ≤ c.toNat ∧ c.toNat ≤ 57 := by
  cases l with
  | nil => simp at hc
  | cons x r => simp at hc; subst hc; simp only [List.all_cons, Bool.and_eq_true] at h; exact of_fig h.1
theorem mag_figs {l : List UInt8} (h0 : l ≠ []) (ha : l.all fig = true) (hv : fval 0 l < 18446744073709551616) : parseMag l = .ok (fval 0 l) := by
  unfold parseMag
  rw [if_neg h0, parse_figs l 0 ha hv]
theorem atoi_plain {l : List UInt8} (h0 : l ≠ []) (ha : l.all fig = true) (hv : fval 0 l < 18446744073709551616) :
    atoiAll l = if 9223372036854775808 ≤ fval 0 l then .range else .ok (fval 0 l) := by
  have hm := mag_figs h0 ha hv
  cases l with
  | nil => exact absurd rfl h0
  | cons c r =>
    have hc := fig_head ha (c := c) rfl
    simp only [atoiAll]
    rw [if_neg (by omega), hm]
    have : ¬ c.toNat = 45 := by omega
    simp only [this, not_false_eq_true, true_and, false_and, if_false]
end Go.Proofs.Ytjldlcakinmajaa.Dec
/-! Contracts: the number of a text. -/
namespace Go.AL
open Go.Proofs Go.Proofs.Ytjldlcakinmajaa.Dec Go.Lib
set_option linter.unusedSimpArgs false
set_option linter.unusedVariables false
end Go.AL
/-! Contracts: num.Parse. -/
namespace Go.AL
open Go.Proofs Go.Proofs.Ytjldlcakinmajaa.Dec Go.Lib
set_option linter.unusedSimpArgs false
set_option linter.unusedVariables false
instance (a : Int) : Decidable (In64 a) := by unfold In64; infer_instance
end Go.AL
/-! Contracts: value. -/
namespace Go.AL
open Go.Proofs
set_option linter.unusedSimpArgs false
set_option linter.unusedVariables false
abbrev value (n f : Int) : AV := .agg [vi n, vi f]
abbrev vf (n : Nat) : AV := .p (.func (.func n) #[] #[])
end Go.AL
/-! Contracts: value.ops, value.Do. -/
namespace Go.AL
open Go.Proofs
set_option linter.unusedSimpArgs false
set_option linter.unusedVariables false
end Go.AL
/-! Contracts: value.Do. -/
namespace Go.AL
open Go.Proofs
set_option linter.unusedSimpArgs false
set_option linter.unusedVariables false
def doK (s : ByteArray) : Nat :=
  if s = ⟨#[43]⟩ then 0 else if s = ⟨#[45]⟩ then 1 else if s = ⟨#[42]⟩ then 2 else if s = ⟨#[47]⟩ then 3 else if s = ⟨#[60]⟩ then 4 else if s = ⟨#[60, 61]⟩ then 5 else if s = ⟨#[61]⟩ then 6 else if s = ⟨#[60, 62]⟩ then 7 else if s = ⟨#[62, 61]⟩ then 8 else if s = ⟨#[62]⟩ then 9 else 10
/-- What an op comes to, by its number. -/
def numK (k : Nat) (a b : Int) : Int :=
  if k = 0 then z (inI (a + b)) (a + b) else if k = 1 then z (inI (a - b)) (a - b) else if k = 2 then z (inI (a * b)) (a * b) else if k = 3 then (if b = 0 then 0 else z (inI (a.tdiv b)) (a.tdiv b))
  else if k = 4 then z (decide (a < b)) 1 else if k = 5 then z (decide (a ≤ b)) 1 else if k = 6 then z (decide (a = b)) 1 else if k = 7 then z (!decide (a = b)) 1 else if k = 8 then z (decide (b ≤ a)) 1 else z (decide (b < a)) 1
def fltK (k : Nat) (a b : Int) : Int :=
  if k = 0 then z (!inI (a + b)) 1 else if k = 1 then z (!inI (a - b)) 1 else if k = 2 then z (!inI (a * b)) 1 else if k = 3 then (if b = 0 then 2 else z (!inI (a.tdiv b)) 1) else 0
def doN (k : Nat) (a fa b fb : Int) : Int := if k = 10 ∨ fa ≠ 0 ∨ fb ≠ 0 then 0 else numK k a b
def doF (k : Nat) (a fa b fb : Int) : Int := if k = 10 then 0 else if fa ≠ 0 then fa else if fb ≠ 0 then fb else fltK k a b
def doB (k : Nat) : Bool := !decide (k = 10)
end Go.AL
/-! Contracts: value's texts, and gridironref03's. -/
namespace Go.AL
open Go.Proofs
set_option linter.unusedSimpArgs false
set_option linter.unusedVariables false
/-- The faults' names. -/
def nameF (f : Nat) : ByteArray := if f = 1 then ⟨#[35, 79, 86, 69, 82]⟩ else if f = 2 then ⟨#[35, 68, 73, 86]⟩ else if f = 3 then ⟨#[35, 82, 69, 70]⟩ else if f = 4 then ⟨#[35, 67, 89, 67, 76, 69]⟩ else ⟨#[]⟩
/-- Whose name a text is. -/
def faultK (s : ByteArray) : Nat := if s = nameF 1 then 1 else if s = nameF 2 then 2 else if s = nameF 3 then 3 else if s = nameF 4 then 4 else 0
/-- No name so far. -/
def NoName (s : ByteArray) (i : Nat) : Prop := ∀ j, 1 ≤ j → j < i → s ≠ nameF j
theorem NoName.next {s : ByteArray} {i : Nat} (h : NoName s i) (hs : ¬ s = nameF i) : NoName s (i + 1) := fun j h1 h2 => by
  by_cases e : j = i
  · subst e; exact hs
  · exact h j h1 (by omega)
theorem NoName.one (s : ByteArray) : NoName s 1 := fun j h1 h2 => by omega
theorem NoName.all {s : ByteArray} (h : NoName s 5) : faultK s = 0 := by
  unfold faultK
  rw [if_neg (h 1 (by omega) (by omega)), if_neg (h 2 (by omega) (by omega)), if_neg (h 3 (by omega) (by omega)), if_neg (h 4 (by omega) (by omega))]
end Go.AL
