/-
  DERIVED: THE SHELF's CONTRACTS AT THIS DUMP, IN PLAIN WORDS (tools/lay-plain.mjs out of 'YtjldlcakinmajaaSlsoft.lean', which tools/lay-shelf.mjs wrote): THE SAME DECLARATIONS UNDER THE SAME NAMES: 'import', 'namespace', 'open', 'def', 'theorem' AND NOTHING ELSE: no command of the shelf's: FOR A HAND-IN. Each laying: the table of numbers ('.._ren') and one theorem, a field a fact of the dump's own or the kernel's comparison; each contract: ONE APPLICATION.
-/
import Derived.Test.YtjldlcakinmajaaZBranchOthers11
import Derived.Shelf.SlIter.Nil
import Derived.Shelf.SortM.Plain
import Derived.Shelf.SortM.SortNone
import Derived.Ground.GgzProg
import Derived.Ground.SlgmProg
import Derived.Test.YtjldlcakinmajaaProg
/-! Methods on a variable that holds a map. -/
namespace Go.AL
set_option linter.unusedVariables false
set_option linter.unusedSimpArgs false
variable {P : Program} {σ : ASt} {R : AV → ASt → Prop} {D : List Deferred} {Q : Exit → List AV → ASt → Prop} {fr : List AV} {ops : Array Oper} {o : Oper} {rest : List Oper}
/-- The variable number 0, with the map number 1. -/
def tbS (es : List (AV × AV)) : ASt := ⟨fun i => if i = 0 then some [.map 1] else none, fun i => if i = 1 then some es else none, fun _ => none, 2⟩
@[simp] theorem tbS_bx (es : List (AV × AV)) (i : Nat) : (tbS es).bx i = if i = 0 then some [.map 1] else none := rfl
@[simp] theorem tbS_mp (es : List (AV × AV)) (i : Nat) : (tbS es).mp i = if i = 1 then some es else none := rfl
@[simp] theorem tbS_sl (es : List (AV × AV)) (i : Nat) : (tbS es).sl i = none := rfl
@[simp] theorem tbS_next (es : List (AV × AV)) : (tbS es).next = 2 := rfl
/-- By its address it hands back r, and leaves es'. -/
def TC (P : Program) (f : FuncId) (args : List AV) (es : List (AV × AV)) (r : AV) (es' : List (AV × AV)) : Prop := ACall P f (.ptr 0 0 :: args) (tbS es) fun r' σ' => r' = r ∧ σ'.bx 0 = some [.map 1] ∧ σ'.mp 1 = some es'
theorem TC.call {f : FuncId} {args : List AV} {es es' : List (AV × AV)} {r : AV} {b m : Nat} (h : TC P f args es r es') (ha : ∀ a ∈ args, Cl a) (hr : Cl r) (hes : ∀ p ∈ es, Cl p.1 ∧ Cl p.2) (hes' : ∀ p ∈ es', Cl p.1 ∧ Cl p.2)
    (hne : b ≠ m) (hb : σ.bx b = some [.map m]) (hm : σ.mp m = some es) (z1 : σ.mp b = none) (z2 : σ.sl b = none) (z3 : σ.bx m = none) (z4 : σ.sl m = none) :
    ACall P f (.ptr b 0 :: args) σ fun r' σ' => r' = r ∧ σ' = { σ with mp := upd σ.mp m (some es') } := by
  refine acall_ok fun hok => ?_
  have hbn : b < σ.next := by
    rcases Nat.lt_or_ge b σ.next with h' | h'
    · exact h'
    · rw [hok.bx b h'] at hb; cases hb
  have hmn : m < σ.next := by
    rcases Nat.lt_or_ge m σ.next with h' | h'
    · exact h'
    · rw [hok.mp m h'] at hm; cases hm
  obtain ⟨ρ, hρ⟩ : ∃ ρ, ρ = ridx [b, m] σ.next := ⟨_, rfl⟩
  have r0 : ρ 0 = b := by rw [hρ]; rfl
  have r1 : ρ 1 = m := by rw [hρ]; rfl
  have h0 : ACall P f (.ptr 0 0 :: args) (tbS es) fun r' σ' => r' = r ∧ σ'.bx = (tbS es').bx ∧ σ'.mp = (tbS es').mp ∧ σ'.sl = (tbS es').sl :=
    ACall.low h fun r' τ ⟨e1, e2, e3⟩ => ⟨⟨(tbS es').bx, (tbS es').mp, (tbS es').sl, τ.next⟩, {
      bx := fun i cs e => by
        simp only [tbS_bx] at e
        split at e
        · rename_i hi; subst hi; rw [e2]; exact e
        · cases e
      mp := fun i cs e => by
        simp only [tbS_mp] at e
        split at e
        · rename_i hi; subst hi; rw [e3]; exact e
        · cases e
      sl := fun _ _ e => by cases e
      next := Nat.le_refl _ }, e1, rfl, rfl, rfl⟩
  have h1 := ACall.frame1 (σ := σ) [b, m] (h := h0) rfl ⟨fun i hi => by
      have : ¬ i = 0 := by have : 2 ≤ i := hi; omega
      simp [this], fun i hi => by
      have : ¬ i = 1 := by have : 2 ≤ i := hi; omega
      simp [this], fun _ _ => rfl⟩ (by intro x hx; simp at hx; rcases hx with rfl | rfl <;> assumption) (by simpa using hne) (fun i cs e => by
      simp only [tbS_bx] at e
      split at e
      · rename_i hi; subst hi
        obtain rfl := Option.some.inj e
        rw [← hρ]; simp [rens, ren, r0, r1, hb]
      · cases e) (fun i xs e => by
      simp only [tbS_mp] at e
      split at e
      · rename_i hi; subst hi
        obtain rfl := Option.some.inj e
        rw [← hρ, r1, hm]
        refine congrArg some ?_
        conv => lhs; rw [← List.map_id es]
        exact List.map_congr_left fun p hp => by rw [renE, ren_closed _ (hes p hp).1, ren_closed _ (hes p hp).2]; rfl
      · cases e) (fun i xs e => by cases e) (fun r' τ ⟨e1, e2, e3, e4⟩ => by
      subst e1
      refine ⟨.of_cl hr, fun i cs e hi c hc => ?_, fun i es e hi p hp => ?_, fun i xs e hi => by rw [e4] at e; cases e⟩
      · rw [e2] at e
        simp only [tbS_bx] at e
        split at e
        · obtain rfl := Option.some.inj e
          obtain rfl := List.mem_singleton.1 hc
          intro π hπ
          simp only [ren]
          rw [hπ 1 (by simp)]
        · cases e
      · rw [e3] at e
        simp only [tbS_mp] at e
        split at e
        · obtain rfl := Option.some.inj e
          exact ⟨.of_cl (hes' p hp).1, .of_cl (hes' p hp).2⟩
        · cases e)
  rw [← hρ] at h1
  have ea : rens ρ (.ptr 0 0 :: args) = .ptr b 0 :: args := by
    simp only [rens, ren, r0]
    rw [rens_cl ha]
  rw [ea] at h1
  refine h1.mono fun r' σ' ⟨rc, τ, ⟨e1, e2, e3, e4⟩, e5, e6⟩ => ?_
  subst e1
  refine ⟨by rw [e5, ren_closed _ hr], ?_⟩
  rw [e6]
  unfold back1
  have hmb : ¬ m = b := fun e => hne e.symm
  have f0 : ∀ x, rfind x [b, m] 0 = if x = b then some 0 else if x = m then some 1 else none := fun x => by
    simp only [rfind]
  have esE : es'.map (renE ρ) = es' := by
    conv => rhs; rw [← List.map_id es']
    exact List.map_congr_left fun p hp => by rw [renE, ren_closed _ (hes' p hp).1, ren_closed _ (hes' p hp).2]; rfl
  rw [← hρ]
  congr 1
  · funext x
    rw [f0, e2]
    by_cases q1 : x = b
    · subst q1; simp [rens, ren, r1, hb]
    · by_cases q2 : x = m
      · subst q2; simp [hmb, z3]
      · simp [q1, q2]
  · funext x
    rw [f0, e3]
    by_cases q1 : x = b
    · subst q1; simp [upd, hne, z1]
    · by_cases q2 : x = m
      · subst q2; simp [hmb, upd, esE]
      · simp [q1, q2, upd]
  · funext x
    rw [f0, e4]
    by_cases q1 : x = b
    · subst q1; simp [z2]
    · by_cases q2 : x = m
      · subst q2; simp [hmb, z4]
      · simp [q1, q2]
/-- Such a call, next in a run. -/
theorem awl_tab {f : Operand} {aa : Array Operand} {ts : Array TypeId} (mu : List Nat) (ho : o.op = .call { callee := .value f, args := aa, argTypes := ts }) (hw : awanted ops o fr = some true)
    {F : FuncId} {first cap : List AV} (hf : acallee (aev fr f) = some (F, first, cap)) (hc : callable P F = true) {args : List AV} {es es' : List (AV × AV)} {r : AV} {b m : Nat} (h : TC P F args es r es') (he : first ++ aa.toList.map (aev fr) ++ cap = .ptr b 0 :: args) (ha : ∀ a ∈ args, Cl a) (hr : Cl r) (hes : ∀ p ∈ es, Cl p.1 ∧ Cl p.2) (hes' : ∀ p ∈ es', Cl p.1 ∧ Cl p.2)
    (hne : b ≠ m) (hb : σ.bx b = some [.map m]) (hm : σ.mp m = some es) (z : σ.mp b = none ∧ σ.sl b = none ∧ σ.bx m = none ∧ σ.sl m = none)
    (hk : Shut (ARun P D ops Q mu rest (aput fr o.dst r) { σ with mp := upd σ.mp m (some es') })) : AWL P D ops Q (o :: rest) fr σ :=
  awl_cons hw (opq_call ho hf hc (by rw [he]; exact (h.call ha hr hes hes' hne hb hm z.1 z.2.1 z.2.2.1 z.2.2.2).mono fun r' τ' ⟨e1, e2⟩ => by subst e1; subst e2; exact awl_run' mu hk))
theorem tc_in {f : FuncId} {fn : Func} {c : Code} {n : Nat} {args : List AV} {es es' : List (AV × AV)} {r : AV} {K : Prop} (hf : P.funcs[f]? = some fn) (hn : fn.ntmps = n) (hb : fn.body = some c) (k : K)
    (h : K → AW P [] c (RetQ P fn fun r' σ' => r' = r ∧ σ'.bx 0 = some [.map 1] ∧ σ'.mp 1 = some es') ((.ptr 0 0 :: args) ++ List.replicate (n - (.ptr 0 0 :: args : List AV).length) (.p undef)) (tbS es) := by intro k; simp only [List.length_cons, List.length_nil, List.cons_append, List.nil_append, List.replicate]; exact k) : TC P f args es r es' :=
  acall_of hf hn hb (h k)
end Go.AL
/-! Contracts: branch.Table's methods. -/
namespace Go.AL
open Go.Proofs
set_option linter.unusedSimpArgs false
set_option linter.unusedVariables false
def hes (L : List Br) : List (AV × AV) := L.map fun p => (vs p.1, vi p.2)
theorem cl_hes (L : List Br) : ∀ p ∈ hes L, Cl p.1 ∧ Cl p.2 := fun p hp => by
  obtain ⟨q, _, rfl⟩ := List.mem_map.1 hp
  simp
theorem hes_len (L : List Br) : (hes L).length = L.length := List.length_map _
theorem find_hes (n : ByteArray) : ∀ (L : List Br) (i : Nat), amfind .string (.p (.string n)) (hes L) i = some ((ixB L n i).map fun j => (j, vi ((gotB L n).getD 0)))
  | [], i => rfl
  | (a, h) :: L, i => by
    have ih := find_hes n L (i + 1)
    have e : hes ((a, h) :: L) = (vs a, vi h) :: hes L := rfl
    rw [e, amfind, ixB, gotB]
    by_cases hc : a = n
    · subst hc; simp [akey]
    · have hc' : ¬ n = a := fun e => hc e.symm
      simp [akey, hc, hc', ih]
theorem tbT : tmap Try.prog 101 = some (.string, 3) := by kernel_rfl
theorem ixB_some (L : List Br) (n : ByteArray) : (ixB L n 0).isSome = (gotB L n).isSome := by
  have := ixB_spec n L 0
  cases hq : ixB L n 0 with
  | none => rw [hq] at this; simp only at this; rw [this]; rfl
  | some j => rw [hq] at this; obtain ⟨_, v, hv, _⟩ := this; rw [hv]; rfl
theorem awl_lookupQ {P : Program} {σ : ASt} {D : List Deferred} {Q : Exit → List AV → ASt → Prop} {fr : List AV} {ops : Array Oper} {o : Oper} {rest : List Oper} {t : TypeId} {m k : Operand} {ok : Bool} (mu : List Nat) (ho : o.op = .lookup t m k ok) (hw : awanted ops o fr = some true) {d : TypeDesc} {el : TypeId} (ht : tmap P t = some (d, el)) {b : Nat} (hm : aev fr m = .map b) {es : List (AV × AV)} (hb : σ.mp b = some es)
    {kv : Value} (hk : aev fr k = .p kv) {r : Option (Nat × AV)} (hf : amfind d (.p kv) es 0 = some r) {x : AV} (h1 : ∀ j y, r = some (j, y) → x = y) (h2 : r = none → tzero P el = some x)
    (hk2 : Shut (ARun P D ops Q mu rest (aput fr o.dst (if ok = true then .tup [x, .p (.bool r.isSome)] else x)) σ)) : AWL P D ops Q (o :: rest) fr σ := by
  cases r with
  | none => exact awl_lookup mu ho hw ht hm hb hk hf (h2 rfl) hk2
  | some q => obtain ⟨j, y⟩ := q; exact awl_lookup mu ho hw ht hm hb hk hf (h1 j y rfl) hk2
theorem ixB_none {L : List Br} {n : ByteArray} (h : ixB L n 0 = none) : gotB L n = none := by
  have := ixB_spec n L 0
  rw [h] at this; exact this
set_option maxHeartbeats 8000000 in
set_option maxRecDepth 100000 in
theorem bhead_ok (L : List Br) (n : ByteArray) : TC Try.prog 23 [vs n] (hes L) (.tup [vi ((gotB L n).getD 0), vi (if (gotB L n).isSome = true then 0 else 4)]) (hes L) := by
  have hs := ixB_some L n
  refine tc_in Try.func23 Try.ntmps23 rfl ?_
  repeat' first | refine aw_N [] trivial trivial ?_ | refine aw_cond rfl (fun h => ?_) (fun h => ?_)
  refine awl_lookupQ [] rfl rfl tbT rfl (es := hes L) (by simp) rfl (find_hes n L 0) (x := vi ((gotB L n).getD 0)) (fun j y e => by
    obtain ⟨_, _, e⟩ := Option.map_eq_some_iff.1 e
    cases e; rfl) (fun e => by
    rw [ixB_none (Option.map_eq_none_iff.1 e)]; exact tz3) ?_
  simp -implicitDefEqProofs [hs]
  cases hq : (gotB L n).isSome with
  | true =>
    repeat' first | refine aw_N [] trivial trivial ?_ | refine aw_cond rfl (fun h => ?_) (fun h => ?_)
    exact ⟨rfl, rfl, rfl⟩
  | false =>
    have h0 : gotB L n = none := by simpa using hq
    repeat' first | refine aw_N [] trivial trivial ?_ | refine aw_cond rfl (fun h => ?_) (fun h => ?_)
    rw [h0]; exact ⟨rfl, rfl, rfl⟩
end Go.AL
/-! Contracts: branch.Table's Drop and Set. -/
namespace Go.AL
open Go.Proofs
set_option linter.unusedSimpArgs false
set_option linter.unusedVariables false
variable {P : Program} {σ : ASt} {D : List Deferred} {Q : Exit → List AV → ASt → Prop} {fr : List AV} {ops : Array Oper} {o : Oper} {rest : List Oper}
theorem tbS_upd (es es' : List (AV × AV)) : ({ tbS es with mp := upd (tbS es).mp 1 (some es') } : ASt) = tbS es' := by
  have h : upd (tbS es).mp 1 (some es') = (tbS es').mp := by
    funext i
    by_cases h : i = 1
    · subst h; simp [upd]
    · simp [upd, h]
  show ASt.mk (tbS es).bx (upd (tbS es).mp 1 (some es')) (tbS es).sl (tbS es).next = _
  rw [h]; rfl
theorem awl_tab0 {f : Operand} {aa : Array Operand} {ts : Array TypeId} (mu : List Nat) (ho : o.op = .call { callee := .value f, args := aa, argTypes := ts })
    {F : FuncId} {args : List AV} {L L' : List Br} {r : AV} (h : TC P F args (hes L) r (hes L')) (hw : awanted ops o fr = some true) {first cap : List AV} (hf : acallee (aev fr f) = some (F, first, cap)) (hc : callable P F = true) (he : first ++ aa.toList.map (aev fr) ++ cap = .ptr 0 0 :: args) (ha : ∀ a ∈ args, Cl a) (hr : Cl r)
    (hk : Shut (ARun P D ops Q mu rest (aput fr o.dst r) (tbS (hes L')))) : AWL P D ops Q (o :: rest) fr (tbS (hes L)) :=
  awl_tab mu ho hw hf hc h he ha hr (cl_hes L) (cl_hes L') (by omega) rfl rfl ⟨rfl, rfl, rfl, rfl⟩ (by rw [tbS_upd]; exact hk)
theorem isIt_hes (L : List Br) : isIt (hes L) = false := by cases L <;> rfl
def delB (L : List Br) (n : ByteArray) : List Br := match ixB L n 0 with | none => L | some j => L.eraseIdx j
def putB (L : List Br) (n : ByteArray) (h : Int) : List Br := match ixB L n 0 with | none => L ++ [(n, h)] | some j => L.set j (n, h)
theorem eraseIdx_map' {α β : Type} (f : α → β) : ∀ (l : List α) (i : Nat), (l.map f).eraseIdx i = (l.eraseIdx i).map f
  | [], _ => rfl
  | _ :: _, 0 => rfl
  | a :: l, i + 1 => by simp [eraseIdx_map' f l i]
theorem del_hes (L : List Br) (n : ByteArray) : amdel .string (.p (.string n)) (hes L) = some (hes (delB L n)) := by
  rw [amdel, find_hes, delB]
  cases hq : ixB L n 0 with
  | none => rfl
  | some j => simp [hes, eraseIdx_map']
theorem put_hes (L : List Br) (n : ByteArray) (h : Int) : amput .string (.p (.string n)) (vi h) (hes L) = some (hes (putB L n h)) := by
  rw [amput, find_hes, putB]
  cases hq : ixB L n 0 with
  | none => simp [hes]
  | some j => simp [hes, List.map_set]
theorem TC.fin {es es' : List (AV × AV)} {r r' : AV} (hr : r' = r) (he : es' = es) : r' = r ∧ (tbS es').bx 0 = some [.map 1] ∧ (tbS es').mp 1 = some es := by subst hr; subst he; exact ⟨rfl, rfl, rfl⟩
set_option maxHeartbeats 8000000 in
set_option maxRecDepth 100000 in
theorem bdrop_ok (L : List Br) (n : ByteArray) : TC Try.prog 21 [vs n] (hes L) (vi (if (gotB L n).isSome = true then 0 else 4)) (hes (delB L n)) := by
  refine tc_in Try.func21 Try.ntmps21 rfl ?_
  repeat' first | refine aw_N [] trivial trivial ?_ | refine aw_cond rfl (fun h => ?_) (fun h => ?_)
  refine awl_tab0 [] rfl (bhead_ok L n) rfl rfl rfl rfl (by simp) (by simp) ?_
  simp -implicitDefEqProofs
  cases hq : (gotB L n).isSome with
  | true =>
    repeat' first | refine aw_N [] trivial trivial ?_ | refine aw_cond rfl (fun h => ?_) (fun h => ?_)
    refine awl_mapDel [] rfl rfl tbT rfl (es := hes L) rfl (kv := .string n) rfl (del_hes L n) ?_
    rw [tbS_upd]
    simp -implicitDefEqProofs
    repeat' first | refine aw_N [] trivial trivial ?_ | refine aw_cond rfl (fun h => ?_) (fun h => ?_)
    exact TC.fin rfl rfl
  | false =>
    have h0 : delB L n = L := by
      have h1 : ixB L n 0 = none := by
        have := ixB_some L n
        rw [hq] at this
        simpa using this
      rw [delB, h1]
    rw [h0]
    repeat' first | refine aw_N [] trivial trivial ?_ | refine aw_cond rfl (fun h => ?_) (fun h => ?_)
    exact TC.fin rfl rfl
set_option maxHeartbeats 8000000 in
set_option maxRecDepth 100000 in
theorem bset_ok (L : List Br) (hL : L.length ≤ 1000000) (n : ByteArray) (hn : n.size ≤ 9223372036854775807) (h : Int) : TC Try.prog 25 [vs n, vi h] (hes L) (vi (setE L n)) (hes (if setE L n = 0 then putB L n h else L)) := by
  have hs := ixB_some L n
  have hr := bright_ok n hn
  have hLe := hes_len L
  have hI := isIt_hes L
  unfold setE
  refine tc_in Try.func25 Try.ntmps25 rfl ?_
  cases hnp : nameP n with
  | false =>
    rw [hnp] at hr
    repeat' first | refine aw_N [] trivial (And.intro @hr trivial) ?_ | refine aw_cond rfl (fun h => ?_) (fun h => ?_)
    exact TC.fin rfl rfl
  | true =>
    rw [hnp] at hr
    repeat' first | refine aw_N [] trivial (And.intro @hr trivial) ?_ | refine aw_cond rfl (fun h => ?_) (fun h => ?_)
    refine awl_lookupQ [] rfl rfl tbT rfl (es := hes L) rfl rfl (find_hes n L 0) (x := vi ((gotB L n).getD 0)) (fun j y e => by
      obtain ⟨_, _, e⟩ := Option.map_eq_some_iff.1 e
      cases e; rfl) (fun e => by
      rw [ixB_none (Option.map_eq_none_iff.1 e)]; exact tz3) ?_
    simp -implicitDefEqProofs [hs]
    cases hq : gotB L n with
    | none =>
      by_cases h16 : 16 ≤ L.length
      · have h16' : (16 : Int) ≤ (L.length : Int) := by omega
        rw [hq] at hs
        repeat' first | refine aw_N [] (And.intro @hLe (And.intro @hI (And.intro @h16 @h16'))) trivial ?_ | refine aw_cond rfl (fun h => ?_) (fun h => ?_)
        exact TC.fin rfl (by rw [if_neg (by omega)])
      · have h16' : ¬ (16 : Int) ≤ (L.length : Int) := by omega
        repeat' first | refine aw_N [] (And.intro @hLe (And.intro @hI (And.intro @h16 @h16'))) trivial ?_ | refine aw_cond rfl (fun h => ?_) (fun h => ?_)
        refine awl_mapPut [] (.inr rfl) rfl tbT rfl (es := hes L) rfl (kv := .string n) rfl (put_hes L n h) ?_
        rw [tbS_upd]
        simp -implicitDefEqProofs
        repeat' first | refine aw_N [] trivial trivial ?_ | refine aw_cond rfl (fun h => ?_) (fun h => ?_)
        exact TC.fin rfl (by rw [if_pos (by omega)])
    | some v =>
      repeat' first | refine aw_N [] (And.intro @hLe @hI) trivial ?_ | refine aw_cond rfl (fun h => ?_) (fun h => ?_)
      refine awl_mapPut [] (.inr rfl) rfl tbT rfl (es := hes L) rfl (kv := .string n) rfl (put_hes L n h) ?_
      rw [tbS_upd]
      simp -implicitDefEqProofs
      repeat' first | refine aw_N [] trivial trivial ?_ | refine aw_cond rfl (fun h => ?_) (fun h => ?_)
      exact TC.fin rfl rfl
end Go.AL
/-! slices.Sorted over a map's keys: texts. -/
namespace Go.AL
open Go.Proofs Go.Maps Go.WideElems
open Go.WideShapes (sorted_perm)
open Go.RowKit (Below)
set_option linter.unusedVariables false
set_option linter.unusedSimpArgs false
variable {P : Program} {σ : ASt}
abbrev txt (l : List UInt8) : ByteArray := ⟨l.toArray⟩
def sortS (ns : List ByteArray) : List ByteArray := ((ns.map fun s => s.data.toList).mergeSort leB).map txt
abbrev kRd : Value → Option (DataW Unit × List MemPlace) := fun _ => some (.lit (.bool true), [])
/-- The shelf's contract of slices.Sorted, over the iterator fI with a box that holds a map. -/
def SortsKeys (P : Program) (fS fI : FuncId) (kt : TypeId) : Prop :=
  ∀ (Bm b nn : Nat) (D0 : DataW Unit) (w : World), Bm < w.heap.size → w.cell? ⟨Bm, 0, none⟩ = some (.map (some b)) → w.ownsMap P kt kRd b nn D0 → Maps.size D0 ≤ maxLen → Maps.size D0 * 16 ≤ 140737488355328 →
    Calls P fS #[.func (.func fI) #[] #[.pointer (some ⟨Bm, 0, none⟩)]] w fun e w' => ∃ (v : Value) (ss : List (List UInt8)), e = .returned v ∧ ss.Perm (strKeys D0) ∧
      w'.ownsRow w.heap.size kt 1 v ss.length ((ss.mergeSort leB).map encStr) ∧ Below w.heap.size w w'
theorem owns_keys {G : Ghost} {w : World} {m μ : Nat} {kt : TypeId} (hkt : P.underlying kt = some .string) {es : List (AV × AV)} {ns : List ByteArray} (hk : es.map Prod.fst = ns.map fun s => .p (.string s)) (hnd : ns.Nodup) (hsz : ∀ s ∈ ns, s.size ≤ maxLen) (hl : ns.length ≤ maxLen) (hg : G.mp m = some μ) (h : MpOK G w m es) :
    ∃ D0, w.ownsMap P kt kRd μ ns.length D0 ∧ (strKeys D0).Perm (ns.map fun s => s.data.toList) ∧ Maps.size D0 = ns.length := by
  rcases h with ⟨μ', ents, clock, h1, h2, h3, h4, h5⟩ | ⟨μ', o, fr, h1, h2, h3, h4⟩
  · obtain rfl := Option.some.inj (hg.symm.trans h1)
    have hlen : es.length = ns.length := by have := congrArg List.length hk; simpa using this
    have hkey : ∀ (i : Nat) e, ents[i]? = some e → ∃ s, ns[i]? = some s ∧ e.key = .string s ∧ e.born < clock := fun i e he => by
      have hi : i < es.length := by have := (Array.getElem?_eq_some_iff.1 he).1; omega
      obtain ⟨⟨k, x⟩, hx⟩ : ∃ p, es[i]? = some p := ⟨_, List.getElem?_eq_getElem hi⟩
      have hk' := congrArg (·[i]?) hk
      simp only [List.getElem?_map, hx, Option.map_some] at hk'
      cases hn : ns[i]? with
      | none => rw [hn] at hk'; cases hk'
      | some s =>
        rw [hn] at hk'
        simp only [Option.map_some, Option.some.injEq] at hk'
        subst hk'
        obtain ⟨a, _, b⟩ := h4 i _ x e hx he
        generalize e.key = q at a
        cases a
        exact ⟨s, rfl, rfl, b⟩
    have hmem : ∀ e ∈ ents.toList, ∃ s, s ∈ ns ∧ e.key = .string s ∧ e.born < clock := fun e he => by
      obtain ⟨i, hi, rfl⟩ := List.getElem_of_mem he
      obtain ⟨s, a, b, c⟩ := hkey i ents.toList[i] (by simp at hi; simp [hi])
      exact ⟨s, List.mem_of_getElem? a, b, c⟩
    have hks : ents.toList.map (·.key) = ns.map Value.string := by
      refine List.ext_getElem? fun i => ?_
      simp only [List.getElem?_map, Array.getElem?_toList]
      cases he : ents[i]? with
      | none =>
        have : ns[i]? = none := by
          rw [List.getElem?_eq_none_iff]
          have := Array.getElem?_eq_none_iff.1 he
          omega
        rw [this]; rfl
      | some e =>
        obtain ⟨s, a, b, _⟩ := hkey i e he
        rw [a]; simp [b]
    have hrd : ∀ e ∈ ents.toList, rd P kt kRd e = some (.string (match e.key with | .string s => s.data.toList | _ => []), .lit (.bool true)) := fun e he => by
      obtain ⟨s, hs, e1, _⟩ := hmem e he
      have hm := hsz s hs
      simp [rd, keyOf, hkt, mapKey, e1, hm]
    have F : Fit P kt kRd ents clock := ⟨by omega, ⟨fun e he => (hmem e he).choose_spec.2.2, by
        rw [List.Nodup, List.pairwise_map]
        refine List.pairwise_iff_getElem.2 fun i j hi hj hij e => ?_
        have := h5 i j ents.toList[i] ents.toList[j] (by simp at hi; simp [hi]) (by simp at hj; simp [hj]) e
        omega, by
        rw [hks]
        exact List.Pairwise.map _ (fun a b h e => h (Value.string.inj e)) hnd⟩, fun e he => ⟨_, hrd e he⟩⟩
    refine ⟨_, ⟨ents, clock, h2, F, by omega, rfl⟩, ?_, ?_⟩
    · refine ((sorted_perm _).map _).trans ?_
      rw [List.map_map]
      have : ents.toList.map ((fun p => Go.strOf p.1) ∘ rg P kt kRd) = (ents.toList.map (·.key)).map fun v => match v with | .string s => s.data.toList | _ => [] := by
        rw [List.map_map]
        refine List.map_congr_left fun e he => ?_
        simp [rg, hrd e he, Go.strOf]
      rw [this, hks, List.map_map]
      exact List.Perm.refl _
    · rw [Maps.size_eq, (sorted_perm _).length_eq, List.length_map, Array.length_toList]
      omega
  · exfalso
    subst h4
    cases ns with
    | nil => simp [obE] at hk
    | cons s ns => simp [obE] at hk
theorem acall_sorted {fS fI : FuncId} {kt : TypeId} (hS : SortsKeys P fS fI kt) (hkt : P.underlying kt = some .string) {k m : Nat} {es : List (AV × AV)} {ns : List ByteArray} (hb : σ.bx k = some [.map m]) (hm : σ.mp m = some es) (hk : es.map Prod.fst = ns.map fun s => .p (.string s)) (hnd : ns.Nodup) (hsz : ∀ s ∈ ns, s.size ≤ maxLen) (hl : ns.length ≤ 1000000) :
    ACall P fS [.fn (.func fI) [] [.ptr k 0]] σ fun r τ => r = .vsl ((sortS ns).map fun s => .p (.string s)) ∧ τ = σ := by
  intro G w vs hv hw
  obtain ⟨hv1, hv2⟩ := hv
  obtain ⟨v0, rfl⟩ : ∃ v0, vs = #[v0] := by
    obtain ⟨l⟩ := vs
    match l, hv1 with
    | [v0], _ => exact ⟨v0, rfl⟩
  have hr := hv2 0 _ v0 rfl rfl
  obtain ⟨μ, β, arr, el, hg, hβ, harr, hcell, hlt⟩ : ∃ μ β arr el, G.mp m = some μ ∧ G.bx k = some β ∧ w.heap[β]? = some (.cells arr el (0, 0)) ∧ arr[0]? = some (.map (some μ)) ∧ β < w.heap.size := by
    obtain ⟨β, arr, el, g1, g2, g3, g4⟩ := hw.bx k _ hb
    obtain ⟨v, hv⟩ : ∃ v, arr[0]? = some v := ⟨_, Array.getElem?_eq_getElem (by rw [g3]; simp)⟩
    have := g4 0 _ v rfl hv
    generalize hq : v = q at this
    cases this with
    | map _ μ h => exact ⟨μ, β, arr, el, h, g1, g2, by rw [hv, hq], (Array.getElem?_eq_some_iff.1 g2).1⟩
  obtain rfl : v0 = .func (.func fI) #[] #[.pointer (some ⟨β, 0, none⟩)] := by
    cases hr with
    | fn f aa bs us vs h1 h2 h3 h4 =>
      obtain rfl : us = #[] := Array.eq_empty_of_size_eq_zero h1.symm
      obtain ⟨x, rfl⟩ : ∃ x, vs = #[x] := by
        obtain ⟨l⟩ := vs
        match l, h2 with
        | [v0], _ => exact ⟨v0, rfl⟩
      have hx := h4 0 _ x rfl rfl
      cases hx with
      | ptr _ _ β' h =>
        obtain rfl := Option.some.inj (h.symm.trans hβ)
        rfl
  obtain ⟨D0, hown, hperm, hsize⟩ := owns_keys (P := P) (kt := kt) hkt hk hnd hsz (by unfold maxLen; omega) hg (hw.mp m es hm)
  refine Calls.mono (hS β μ _ D0 w hlt (by simp [World.cell?, harr, hcell]) hown (by rw [hsize]; unfold maxLen; omega) (by rw [hsize]; omega)) fun e w' he => ?_
  obtain ⟨v, ss, rfl, hp, hrow, hbl⟩ := he
  have hpp := hp.trans hperm
  have hsort : ss.mergeSort leB = (ns.map fun s => s.data.toList).mergeSort leB := mergeSort_of_perm hpp
  have hav : (sortS ns).map (fun s => (.p (.string s) : AV)) = (ss.mergeSort leB).map fun l => .p (encStr l) := by
    rw [sortS, ← hsort, List.map_map]; rfl
  rw [hav]
  generalize hM : ss.mergeSort leB = M at *
  have hlenM : M.length = ss.length := by rw [← hM]; exact List.length_mergeSort _
  obtain ⟨_, hrow⟩ := hrow
  rcases hrow with ⟨rfl, h0⟩ | ⟨g, cap, cur, rfl, hge, hheap, hn, hcap, hcs, htake⟩
  · obtain rfl : M = [] := List.eq_nil_of_length_eq_zero (by omega)
    exact ⟨_, G, σ, Le.grow hw hbl, hw.grow hbl, .vnil _ _, rfl, rfl⟩
  · have hl := Le.addSt hw hbl (fun β _ => β = g) fun β o e => by subst e; exact hge
    have hglt : g < w'.heap.size := (Array.getElem?_eq_some_iff.1 hheap).1
    refine ⟨_, G.addSt fun β _ => β = g, σ, hl, hw.addSt hbl _ (fun β o e => by subst e; exact ⟨hge, hglt⟩), ?_, rfl, rfl⟩
    have hcell : ∀ (i j : Nat) c, rowCell (M.map fun l => (.p (encStr l) : AV)) i j = some c → ∃ l, j = 0 ∧ M[i]? = some l ∧ c = .p (encStr l) ∧ cur[i]? = some (encStr l) := fun i j c h => by
      unfold rowCell at h
      rw [List.getElem?_map] at h
      cases hq : M[i]? with
      | none => rw [hq] at h; cases h
      | some l =>
        rw [hq] at h
        match j, h with
        | 0, h =>
          refine ⟨l, rfl, rfl, by simpa [AV.cells] using h.symm, ?_⟩
          have := congrArg (·[i]?) htake
          have hi : i < ss.length := by have := (List.getElem?_eq_some_iff.1 hq).1; omega
          simp only [Nat.mul_one, List.getElem?_take, hi, if_true, Array.getElem?_toList, List.getElem?_map, hq, Option.map_some] at this
          exact this
        | j + 1, h => simp [AV.cells] at h
    rw [← hlenM]
    have := Rep.vsl (G := G.addSt fun β _ => β = g) (w := w') (M.map fun l => (.p (encStr l) : AV)) g 0 1 cap (fun i _ => (cur[i]?).getD default) (by simp; omega) (fun i x hx => by
      rw [List.getElem?_map] at hx
      obtain ⟨l, _, rfl⟩ := Option.map_eq_some_iff.1 hx
      rfl) (fun i j c h => by
      obtain ⟨l, rfl, h1, rfl, h2⟩ := hcell i j c h
      refine ⟨.inr rfl, ?_⟩
      simp [World.cell?, hheap, h2]) (fun i j c h => by
      obtain ⟨l, rfl, h1, rfl, h2⟩ := hcell i j c h
      rw [h2]; exact .p _)
    simpa using this
end Go.AL
/-! Contracts: branch.Table's Names and Heads. -/
namespace Go.AL
open Go.Proofs
set_option linter.unusedSimpArgs false
set_option linter.unusedVariables false
set_option maxHeartbeats 8000000 in
set_option maxRecDepth 100000 in
theorem bkeys_ok (m : Nat) (σ : ASt) : ACall Try.prog 50 [.map m] σ fun r τ => r = .fn (.func 74) [] [.ptr σ.next 0] ∧ τ = σ.addBx [.map m] := by
  refine acall_of Try.func50 Try.ntmps50 rfl ?_
  simp only [List.length_cons, List.length_nil, List.cons_append, List.nil_append, List.replicate]
  repeat' first | refine aw_N [1] trivial trivial ?_ | refine aw_cond rfl (fun h => ?_) (fun h => ?_)
  exact ⟨rfl, rfl⟩
theorem names_hes (L : List Br) : (hes L).map Prod.fst = (L.map Prod.fst).map fun s => .p (.string s) := by
  simp [hes]
set_option maxHeartbeats 8000000 in
set_option maxRecDepth 100000 in
theorem bnames_ok (hS : SortsKeys Try.prog 49 74 9) (L : List Br) (hnd : (L.map Prod.fst).Nodup) (hsz : ∀ s ∈ L.map Prod.fst, s.size ≤ 9223372036854775807) (hL : L.length ≤ 1000000) :
    TC Try.prog 30 [] (hes L) (.vsl ((sortS (L.map Prod.fst)).map vs)) (hes L) := by
  refine tc_in Try.func30 Try.ntmps30 rfl ?_
  repeat' first | refine aw_N [] trivial trivial ?_ | refine aw_cond rfl (fun h => ?_) (fun h => ?_)
  refine awl_cons rfl (opq_call rfl rfl rfl ((bkeys_ok 1 _).mono fun r τ ⟨e1, e2⟩ => ?_))
  subst e1 e2
  simp -implicitDefEqProofs only [aput, List.set]
  refine awl_cons rfl (opq_call rfl rfl rfl ((acall_sorted hS Try.underlying9 (k := 2) (m := 1) (es := hes L) (ns := L.map Prod.fst) rfl rfl (names_hes L) hnd hsz (by simpa using hL)).mono fun r τ ⟨e1, e2⟩ => ?_))
  subst e1 e2
  refine awl_run' [] ?_
  simp -implicitDefEqProofs
  repeat' first | refine aw_N [] trivial trivial ?_ | refine aw_cond rfl (fun h => ?_) (fun h => ?_)
  exact ⟨rfl, rfl, rfl⟩
end Go.AL
namespace Go.Proofs
open Go.Shelf
def Try.keysA_ren : Go.Shelf.Ren := ⟨fun | 7 => 50 | 10 => 74 | n => n, fun | 23 => 101 | 26 => 9 | 3 => 3 | 28 => 110 | 0 => 0 | 27 => 109 | 33 => 69 | 4 => 4 | n => n, fun | n => n⟩
theorem Try.keysA : Go.Proofs.SlLaysZ.n7 Try.prog Try.keysA_ren := {
  mixed := by kernel_rfl
  f7 := ⟨Try.f50.name, by decide, Try.func50.trans (congrArg some (by kernel_rfl))⟩
  f10 := ⟨Try.f74.name, by decide, Try.func74.trans (congrArg some (by kernel_rfl))⟩
  t0 := Try.underlying0
  a0 := Try.isAgg0
  z0 := Try.sizeOf0
  v0 := Try.zeroValue0
  t4 := Try.underlying4
  a4 := Try.isAgg4
  z4 := Try.sizeOf4
  v4 := Try.zeroValue4
  t23 := Try.underlying101
  a23 := Try.isAgg101
  z23 := Try.sizeOf101
  v23 := Try.zeroValue101
  t26 := Try.underlying9
  a26 := Try.isAgg9
  z26 := Try.sizeOf9
  v26 := Try.zeroValue9
  t27 := Try.underlying109
  a27 := Try.isAgg109
  z27 := Try.sizeOf109
  v27 := Try.zeroValue109
  t28 := Try.underlying110
  a28 := Try.isAgg110
  z28 := Try.sizeOf110
  v28 := Try.zeroValue110
  t33 := Try.underlying69
  a33 := Try.isAgg69
  z33 := Try.sizeOf69
  v33 := Try.zeroValue69 }
def Try.sortedA_ren : Go.Shelf.Ren := ⟨fun | 6 => 49 | 8 => 72 | 9 => 73 | 11 => 98 | 13 => 100 | 12 => 99 | 23 => 146 | 24 => 147 | 14 => 137 | 15 => 138 | 16 => 139 | 17 => 140 | 18 => 141 | 19 => 142 | 20 => 143 | 21 => 144 | 22 => 145 | 25 => 162 | 26 => 163 | 27 => 164 | 28 => 165 | 29 => 166 | 30 => 167 | 31 => 173 | n => n, fun | 26 => 9 | 28 => 110 | 24 => 70 | 0 => 0 | 3 => 3 | 37 => 160 | 48 => 186 | 50 => 84 | 4 => 4 | 40 => 179 | 39 => 178 | 45 => 107 | 5 => 5 | 9 => 9 | 51 => 198 | 55 => 202 | 57 => 210 | 58 => 211 | 33 => 69 | n => n, fun | n => n⟩
theorem Try.sortedA : Go.Proofs.SlLaysZ.n6 Try.prog Try.sortedA_ren := {
  mixed := by kernel_rfl
  f6 := ⟨Try.f49.name, by decide, Try.func49.trans (congrArg some (by kernel_rfl))⟩
  f8 := ⟨Try.f72.name, by decide, Try.func72.trans (congrArg some (by kernel_rfl))⟩
  f11 := ⟨Try.f98.name, by decide, Try.func98.trans (congrArg some (by kernel_rfl))⟩
  t0 := Try.underlying0
  a0 := Try.isAgg0
  z0 := Try.sizeOf0
  v0 := Try.zeroValue0
  t24 := Try.underlying70
  a24 := Try.isAgg70
  z24 := Try.sizeOf70
  v24 := Try.zeroValue70
  t26 := Try.underlying9
  a26 := Try.isAgg9
  z26 := Try.sizeOf9
  v26 := Try.zeroValue9
  t28 := Try.underlying110
  a28 := Try.isAgg110
  z28 := Try.sizeOf110
  v28 := Try.zeroValue110
  i26 := by kernel_rfl }
def Try.sortA_ren : Go.Shelf.Ren := ⟨fun | 6 => 73 | 8 => 100 | 9 => 99 | 19 => 146 | 20 => 147 | 21 => 137 | 22 => 138 | 23 => 139 | 24 => 140 | 25 => 141 | 26 => 142 | 27 => 143 | 28 => 144 | 29 => 145 | 36 => 162 | 31 => 163 | 32 => 164 | 37 => 165 | 38 => 166 | 39 => 167 | 41 => 173 | n => n, fun | 27 => 70 | 29 => 9 | 3 => 3 | 32 => 160 | 26 => 70 | 0 => 0 | 44 => 186 | 46 => 84 | 4 => 4 | 36 => 179 | 35 => 178 | 41 => 107 | 5 => 5 | 9 => 9 | 53 => 198 | 57 => 202 | 63 => 210 | 64 => 211 | n => n, fun | n => n⟩
theorem Try.sortA : Go.Proofs.SlLaysM.n6 Try.prog Try.sortA_ren := {
  mixed := by kernel_rfl
  f6 := ⟨Try.f73.name, by decide, Try.func73.trans (congrArg some (by kernel_rfl))⟩
  f8 := Try.func100.trans (congrArg some (by kernel_rfl))
  f9 := ⟨Try.f99.name, by decide, Try.func99.trans (congrArg some (by kernel_rfl))⟩
  f19 := Try.func146.trans (congrArg some (by kernel_rfl))
  f20 := Try.func147.trans (congrArg some (by kernel_rfl))
  f21 := ⟨Try.f137.name, by decide, Try.func137.trans (congrArg some (by kernel_rfl))⟩
  f22 := ⟨Try.f138.name, by decide, Try.func138.trans (congrArg some (by kernel_rfl))⟩
  f23 := ⟨Try.f139.name, by decide, Try.func139.trans (congrArg some (by kernel_rfl))⟩
  f24 := ⟨Try.f140.name, by decide, Try.func140.trans (congrArg some (by kernel_rfl))⟩
  f25 := ⟨Try.f141.name, by decide, Try.func141.trans (congrArg some (by kernel_rfl))⟩
  f26 := ⟨Try.f142.name, by decide, Try.func142.trans (congrArg some (by kernel_rfl))⟩
  f27 := ⟨Try.f143.name, by decide, Try.func143.trans (congrArg some (by kernel_rfl))⟩
  f28 := ⟨Try.f144.name, by decide, Try.func144.trans (congrArg some (by kernel_rfl))⟩
  f29 := ⟨Try.f145.name, by decide, Try.func145.trans (congrArg some (by kernel_rfl))⟩
  f31 := Try.func163.trans (congrArg some (by kernel_rfl))
  f32 := Try.func164.trans (congrArg some (by kernel_rfl))
  f36 := ⟨Try.f162.name, by decide, Try.func162.trans (congrArg some (by kernel_rfl))⟩
  f37 := ⟨Try.f165.name, by decide, Try.func165.trans (congrArg some (by kernel_rfl))⟩
  f38 := ⟨Try.f166.name, by decide, Try.func166.trans (congrArg some (by kernel_rfl))⟩
  f39 := ⟨Try.f167.name, by decide, Try.func167.trans (congrArg some (by kernel_rfl))⟩
  f41 := ⟨Try.f173.name, by decide, Try.func173.trans (congrArg some (by kernel_rfl))⟩
  t0 := Try.underlying0
  a0 := Try.isAgg0
  z0 := Try.sizeOf0
  v0 := Try.zeroValue0
  t3 := Try.underlying3
  a3 := Try.isAgg3
  z3 := Try.sizeOf3
  v3 := Try.zeroValue3
  t4 := Try.underlying4
  a4 := Try.isAgg4
  z4 := Try.sizeOf4
  v4 := Try.zeroValue4
  t5 := Try.underlying5
  a5 := Try.isAgg5
  z5 := Try.sizeOf5
  v5 := Try.zeroValue5
  t9 := Try.underlying9
  a9 := Try.isAgg9
  z9 := Try.sizeOf9
  v9 := Try.zeroValue9
  t26 := Try.underlying70
  a26 := Try.isAgg70
  z26 := Try.sizeOf70
  v26 := Try.zeroValue70
  t27 := Try.underlying70
  a27 := Try.isAgg70
  z27 := Try.sizeOf70
  v27 := Try.zeroValue70
  t29 := Try.underlying9
  a29 := Try.isAgg9
  z29 := Try.sizeOf9
  v29 := Try.zeroValue9
  t32 := Try.underlying160
  a32 := Try.isAgg160
  z32 := Try.sizeOf160
  v32 := Try.zeroValue160
  t35 := Try.underlying178
  a35 := Try.isAgg178
  z35 := Try.sizeOf178
  v35 := Try.zeroValue178
  t36 := Try.underlying179
  a36 := Try.isAgg179
  z36 := Try.sizeOf179
  v36 := Try.zeroValue179
  t41 := Try.underlying107
  a41 := Try.isAgg107
  z41 := Try.sizeOf107
  v41 := Try.zeroValue107
  t44 := Try.underlying186
  a44 := Try.isAgg186
  z44 := Try.sizeOf186
  v44 := Try.zeroValue186
  t46 := Try.underlying84
  a46 := Try.isAgg84
  z46 := Try.sizeOf84
  v46 := Try.zeroValue84
  t53 := Try.underlying198
  a53 := Try.isAgg198
  z53 := Try.sizeOf198
  v53 := Try.zeroValue198
  t57 := Try.underlying202
  a57 := Try.isAgg202
  z57 := Try.sizeOf202
  v57 := Try.zeroValue202
  t63 := Try.underlying210
  a63 := Try.isAgg210
  z63 := Try.sizeOf210
  v63 := Try.zeroValue210
  t64 := Try.underlying211
  a64 := Try.isAgg211
  z64 := Try.sizeOf211
  v64 := Try.zeroValue211 }
end Go.Proofs
/-! slices.Sorted over maps.Keys at this dump. -/
namespace Go.Proofs
open Go.RowKit Go.Maps Go.Sort Go.Shelf
theorem sorts_keys : Go.AL.SortsKeys Try.prog 49 74 9 := fun Bm b nn D0 w hB hc hown hmax hbytes => by
  refine (callsIn_wide (n := 5)).1 ?_
  have hseq : SeqGives Fence.wide 2 Try.prog 74 #[.pointer (some ⟨Bm, 0, none⟩)] encStr (fun ss => ss.Perm (strKeys D0)) (Maps.size D0) w :=
    AnyZ.keys_gives (ρ := Try.keysA_ren) { Try.keysA with } Fence.wide _ trivial rfl (by omega) Bm b nn D0 w hB hc hown
  have hs : ∀ m, AnyZ.SortsIn Try.prog Try.sortedA_ren Fence.wide m := fun m =>
    ⟨fun blk off cap ss W hH hblk hsz => callsIn_wide.2 (AnyM.slices_Sort_string Try.sortA blk off cap ss W hH hblk hsz), fun p cap W => callsIn_wide.2 (AnyM.slices_Sort_string_none Try.sortA p cap W)⟩
  have cS := AnyZ.sorted_in Try.sortedA Fence.wide 5 trivial trivial trivial trivial rfl (by omega) (hs _) (enters_of Try.func73 (by kernel_rfl) rfl) 74 #[.pointer (some ⟨Bm, 0, none⟩)] trivial (enters_of Try.func74 (by kernel_rfl) rfl) _ _ hmax hbytes _ hseq
  change CallsIn _ _ Try.prog 49 _ _ _ at cS
  exact cS.mono fun e w' ⟨v, ss, h1, h2, h3, _, h5⟩ => ⟨v, ss, h1, h2, h3, h5⟩
end Go.Proofs
/-! Contracts: branch.Table's Heads. -/
namespace Go.AL
open Go.Proofs
set_option linter.unusedSimpArgs false
set_option linter.unusedVariables false
/-- The variable with its map, and a slice of one's own. -/
def tbL (es : List (AV × AV)) (k : Nat) (xs : List AV) (n : Nat) : ASt := ⟨(tbS es).bx, (tbS es).mp, fun i => if i = k then some xs else none, n⟩
@[simp] theorem tbL_bx (es : List (AV × AV)) (k : Nat) (xs : List AV) (n i : Nat) : (tbL es k xs n).bx i = if i = 0 then some [.map 1] else none := rfl
@[simp] theorem tbL_mp (es : List (AV × AV)) (k : Nat) (xs : List AV) (n i : Nat) : (tbL es k xs n).mp i = if i = 1 then some es else none := rfl
@[simp] theorem tbL_sl (es : List (AV × AV)) (k : Nat) (xs : List AV) (n i : Nat) : (tbL es k xs n).sl i = if i = k then some xs else none := rfl
@[simp] theorem tbL_next (es : List (AV × AV)) (k : Nat) (xs : List AV) (n : Nat) : (tbL es k xs n).next = n := rfl
theorem le_tbL {es : List (AV × AV)} {k : Nat} {xs : List AV} {n : Nat} {σ : ASt} (h1 : σ.bx 0 = some [.map 1]) (h2 : σ.mp 1 = some es) (h3 : σ.sl k = some xs) (h4 : σ.next = n) : ASt.Le (tbL es k xs n) σ where
  bx := fun i cs e => by
    simp only [tbL_bx] at e
    split at e
    · rename_i hi; subst hi; rw [h1]; exact e
    · cases e
  mp := fun i cs e => by
    simp only [tbL_mp] at e
    split at e
    · rename_i hi; subst hi; rw [h2]; exact e
    · cases e
  sl := fun i cs e => by
    simp only [tbL_sl] at e
    split at e
    · rename_i hi; subst hi; rw [h3]; exact e
    · cases e
  next := by simp [h4]
def namesB (L : List Br) : List ByteArray := sortS (L.map Prod.fst)
def headsB (L : List Br) : List Int := (namesB L).map fun n => (gotB L n).getD 0
theorem headsB_len (L : List Br) : (headsB L).length = (namesB L).length := List.length_map _
theorem namesB_len (L : List Br) : (namesB L).length = L.length := by
  rw [namesB, sortS, List.length_map, List.length_mergeSort, List.length_map, List.length_map]
set_option maxHeartbeats 8000000 in
set_option maxRecDepth 100000 in
theorem bheads_ok (hS : SortsKeys Try.prog 49 74 9) (L : List Br) (hnd : (L.map Prod.fst).Nodup) (hsz : ∀ s ∈ L.map Prod.fst, s.size ≤ 9223372036854775807) (hL : L.length ≤ 1000000) :
    TC Try.prog 31 [] (hes L) (.vsl ((headsB L).map vi)) (hes L) := by
  have hn := bnames_ok hS L hnd hsz hL
  have hlen := namesB_len L
  have hhl := headsB_len L
  change TC _ _ _ _ (.vsl ((namesB L).map vs)) _ at hn
  have hvl : ((namesB L).map vs).length = (namesB L).length := List.length_map _
  refine tc_in Try.func31 Try.ntmps31 rfl ?_
  repeat' first | refine aw_N [] @hvl trivial ?_ | refine aw_cond rfl (fun h => ?_) (fun h => ?_)
  refine awl_tab0 [] rfl hn rfl rfl rfl rfl (by simp) (by simp) ?_
  simp -implicitDefEqProofs
  repeat' first | refine aw_N [] @hvl trivial ?_ | refine aw_cond rfl (fun h => ?_) (fun h => ?_)
  refine aw_open (i := 3) rfl ?_
  refine aw_loopW [0, 3, 7, 8, 9] (fun q fr σ => ∃ k m i : Nat, i + q = (namesB L).length ∧ 2 ≤ k ∧ k < m ∧ σ = tbL (hes L) k (((headsB L).map vi).take i) m ∧ fr = frm 24 [(0, .ptr 0 0), (3, .hsl k 0 i), (7, .vsl ((namesB L).map vs)), (8, vi ((namesB L).length : Nat)), (9, vi (i : Nat))]) (namesB L).length ?_ ?_
  · refine ⟨_, le_tbL (es := hes L) (k := 2) (xs := []) rfl rfl (by simp) rfl, 2, 3, 0, by omega, by omega, by omega, rfl, ?_⟩
    simp
  · rintro q fr σ ⟨k, m, i, hi, hk2, hkm, rfl, rfl⟩
    simp -implicitDefEqProofs
    by_cases hlt : i < (namesB L).length
    · have hlti : (i : Int) < (namesB L).length := by omega
      obtain ⟨n, hp⟩ : ∃ n, (namesB L)[i]? = some n := ⟨_, List.getElem?_eq_getElem hlt⟩
      have hg : ((namesB L).map vs)[i]? = some (vs n) := by rw [List.getElem?_map, hp]; rfl
      have wi : IntKind.i64.wrap ((i : Int) + 1) = (i : Int) + 1 := wrap_id (by omega) (by omega)
      have hla : i < ((namesB L).map vs).length := by omega
      have hI := isIt_hes L
      repeat' first | refine aw_N [] (And.intro @hlti (And.intro @hvl (And.intro @hg (And.intro @hla (And.intro @wi @hI))))) trivial ?_ | refine aw_cond rfl (fun h => ?_) (fun h => ?_)
      refine awl_lookupQ [] rfl rfl tbT rfl (es := hes L) (by simp) (kv := .string n) rfl (find_hes n L 0) (x := vi ((gotB L n).getD 0)) (fun j y e => by
        obtain ⟨_, _, e⟩ := Option.map_eq_some_iff.1 e
        cases e; rfl) (fun e => by
        rw [ixB_none (Option.map_eq_none_iff.1 e)]; exact tz3) ?_
      simp -implicitDefEqProofs
      have hxl : (((headsB L).map vi).take i).length = i := by simp; omega
      repeat' first | refine aw_N [] trivial trivial ?_ | refine aw_cond rfl (fun h => ?_) (fun h => ?_)
      refine awl_append [] rfl rfl rfl (xs := ((headsB L).map vi).take i) (by simp) (by simp; omega) rfl (by simp) te72 tet72 tz3 rfl (fun y hy => by
        obtain ⟨_, _, rfl⟩ := List.mem_map.1 (List.mem_of_mem_take hy)
        rfl) (by simp) (by simp; omega) (by simp; omega) ?_
      simp -implicitDefEqProofs
      repeat' first | refine aw_N [] @wi trivial ?_ | refine aw_cond rfl (fun h => ?_) (fun h => ?_)
      have hx : ((headsB L).map vi).take (i + 1) = ((headsB L).map vi).take i ++ [vi ((gotB L n).getD 0)] := by
        rw [List.take_add_one, List.getElem?_map, headsB, List.getElem?_map, hp]; rfl
      refine ⟨q - 1, by omega, _, le_tbL (es := hes L) (k := m) (xs := ((headsB L).map vi).take i ++ [vi ((gotB L n).getD 0)]) (n := m + 1) (by simp) (by simp) (by simp [List.take_take]) (by simp), m, m + 1, i + 1, by omega, by omega, by omega, ?_, ?_⟩
      · rw [hx]
      · simp
    · have hlti : ¬ (i : Int) < (namesB L).length := by omega
      refine aw_freeze (b := k) (xs := ((headsB L).map vi).take i) (by simp) ?_
      have hxl : (((headsB L).map vi).take i).length = i := by simp; omega
      have hxt : ((headsB L).map vi).take i = (headsB L).map vi := List.take_of_length_le (by simp; omega)
      simp -implicitDefEqProofs [frz, frz1, frz0, hxl]
      repeat' first | refine aw_N [] (And.intro @hlti @hvl) trivial ?_ | refine aw_cond rfl (fun h => ?_) (fun h => ?_)
      refine ⟨?_, rfl, rfl⟩
      rw [List.take_take, Nat.min_self, hxt]; rfl
end Go.AL
/-! Contracts: gridironlaw17.same; branch.New; no table. -/
namespace Go.AL
open Go.Proofs
set_option linter.unusedSimpArgs false
set_option linter.unusedVariables false
set_option maxHeartbeats 8000000 in
set_option maxRecDepth 100000 in
theorem bnewT_ok (σ : ASt) : ACall Try.prog 20 [] σ fun r τ => r = .ptr (σ.next + 1) 0 ∧ τ = (σ.addMp []).addBx [.map σ.next] := by
  refine acall_of Try.func20 Try.ntmps20 rfl ?_
  simp only [List.length_cons, List.length_nil, List.cons_append, List.nil_append, List.replicate]
  repeat' first | refine aw_N [] trivial trivial ?_ | refine aw_cond rfl (fun h => ?_) (fun h => ?_)
  refine awl_makeMap [3] rfl rfl ?_
  simp -implicitDefEqProofs
  repeat' first | refine aw_N [3] trivial trivial ?_ | refine aw_cond rfl (fun h => ?_) (fun h => ?_)
  exact ⟨rfl, rfl⟩
/-- The table number 1, with its map number 0. -/
def tb2 (es : List (AV × AV)) : ASt := ⟨fun i => if i = 1 then some [.map 0] else none, fun i => if i = 0 then some es else none, fun _ => none, 2⟩
@[simp] theorem tb2_bx (es : List (AV × AV)) (i : Nat) : (tb2 es).bx i = if i = 1 then some [.map 0] else none := rfl
@[simp] theorem tb2_mp (es : List (AV × AV)) (i : Nat) : (tb2 es).mp i = if i = 0 then some es else none := rfl
@[simp] theorem tb2_sl (es : List (AV × AV)) (i : Nat) : (tb2 es).sl i = none := rfl
@[simp] theorem tb2_next (es : List (AV × AV)) : (tb2 es).next = 2 := rfl
theorem tb2_upd (es es' : List (AV × AV)) : ({ tb2 es with mp := upd (tb2 es).mp 0 (some es') } : ASt) = tb2 es' := by
  have h : upd (tb2 es).mp 0 (some es') = (tb2 es').mp := by
    funext i
    by_cases h : i = 0
    · subst h; simp [upd]
    · simp [upd, h]
  show ASt.mk (tb2 es).bx (upd (tb2 es).mp 0 (some es')) (tb2 es).sl (tb2 es).next = _
  rw [h]; rfl
theorem tb2_new : (σ0.addMp []).addBx [.map σ0.next] = tb2 (hes []) := by
  have h1 : upd σ0.mp 0 (some []) = (tb2 (hes [])).mp := by
    funext i
    by_cases h : i = 0
    · subst h; rfl
    · simp [upd, h, σ0]
  have h2 : upd σ0.bx 1 (some [.map 0]) = (tb2 (hes [])).bx := by
    funext i
    by_cases h : i = 1
    · subst h; rfl
    · simp [upd, h, σ0]
  show ASt.mk (upd σ0.bx 1 (some [.map 0])) (upd σ0.mp 0 (some [])) σ0.sl 2 = _
  rw [h1, h2]; rfl
theorem le_tb2 {es : List (AV × AV)} : ASt.Le (tb2 es) (tb2 es) := ⟨fun _ _ e => e, fun _ _ e => e, fun _ _ e => e, Nat.le_refl _⟩
section
variable {P : Program} {D : List Deferred} {Q : Exit → List AV → ASt → Prop} {fr : List AV} {ops : Array Oper} {o : Oper} {rest : List Oper}
theorem awl_tab2 {f : Operand} {aa : Array Operand} {ts : Array TypeId} (mu : List Nat) (ho : o.op = .call { callee := .value f, args := aa, argTypes := ts })
    {F : FuncId} {args : List AV} {L L' : List Br} {r : AV} (h : TC P F args (hes L) r (hes L')) (hw : awanted ops o fr = some true) {first cap : List AV} (hf : acallee (aev fr f) = some (F, first, cap)) (hc : callable P F = true) (he : first ++ aa.toList.map (aev fr) ++ cap = .ptr 1 0 :: args) (ha : ∀ a ∈ args, Cl a) (hr : Cl r)
    (hk : Shut (ARun P D ops Q mu rest (aput fr o.dst r) (tb2 (hes L')))) : AWL P D ops Q (o :: rest) fr (tb2 (hes L)) :=
  awl_tab mu ho hw hf hc h he ha hr (cl_hes L) (cl_hes L') (by omega) rfl rfl ⟨rfl, rfl, rfl, rfl⟩ (by rw [tb2_upd]; exact hk)
theorem awl_new2 {f : Operand} {aa : Array Operand} {ts : Array TypeId} (mu : List Nat) (ho : o.op = .call { callee := .value f, args := aa, argTypes := ts }) (hw : awanted ops o fr = some true) {first cap : List AV} {F : FuncId} (hN : ∀ σ, ACall P F [] σ fun r τ => r = .ptr (σ.next + 1) 0 ∧ τ = (σ.addMp []).addBx [.map σ.next]) (hf : acallee (aev fr f) = some (F, first, cap)) (hc : callable P F = true) (he : first ++ aa.toList.map (aev fr) ++ cap = [])
    (hk : Shut (ARun P D ops Q mu rest (aput fr o.dst (.ptr 1 0)) (tb2 (hes [])))) : AWL P D ops Q (o :: rest) fr σ0 :=
  awl_cons hw (opq_call ho hf hc (by rw [he]; exact (hN σ0).mono fun r τ ⟨e1, e2⟩ => by subst e1; subst e2; rw [tb2_new]; exact awl_run' mu hk))
end
end Go.AL
/-! Contracts: gridironlaw17.alive, fits, same. -/
namespace Go.AL
open Go.Proofs
set_option linter.unusedSimpArgs false
set_option linter.unusedVariables false
theorem bset_to {L L' : List Br} {n : ByteArray} {h e : Int} (hL : L.length ≤ 1000000) (hn : n.size ≤ 9223372036854775807) (he : setE L n = e) (hl : (if setE L n = 0 then putB L n h else L) = L') : TC Try.prog 25 [vs n, vi h] (hes L) (vi e) (hes L') := by
  subst he hl
  exact bset_ok L hL n hn h
theorem bdrop_to {L L' : List Br} {n : ByteArray} {e : Int} (he : (if (gotB L n).isSome = true then (0 : Int) else 4) = e) (hl : delB L n = L') : TC Try.prog 21 [vs n] (hes L) (vi e) (hes L') := by
  subst he hl
  exact bdrop_ok L n
def mainT : ByteArray := ⟨#[109, 97, 105, 110]⟩
def a1T : ByteArray := ⟨#[97, 49]⟩
set_option maxHeartbeats 8000000 in
set_option maxRecDepth 100000 in
theorem alive17_ok : APure Try.prog 19 [] (vb true) := by
  have s1 : TC Try.prog 25 [vs mainT, vi 7] (hes []) (vi 0) (hes [(mainT, 7)]) := bset_to (by decide) (by decide) (by decide +kernel) (by decide +kernel)
  have s2 : TC Try.prog 25 [vs a1T, vi 8] (hes [(mainT, 7)]) (vi 0) (hes [(mainT, 7), (a1T, 8)]) := bset_to (by decide) (by decide) (by decide +kernel) (by decide +kernel)
  have s3 : TC Try.prog 25 [vs mainT, vi 9] (hes [(mainT, 7), (a1T, 8)]) (vi 0) (hes [(mainT, 9), (a1T, 8)]) := bset_to (by decide) (by decide) (by decide +kernel) (by decide +kernel)
  have s4 : TC Try.prog 25 [vs ⟨#[49, 97]⟩, vi 9] (hes [(mainT, 9), (a1T, 8)]) (vi 1) (hes [(mainT, 9), (a1T, 8)]) := bset_to (by decide) (by decide) (by decide +kernel) (by decide +kernel)
  have s5 : TC Try.prog 23 [vs mainT] (hes [(mainT, 9), (a1T, 8)]) (.tup [vi 9, vi 0]) (hes [(mainT, 9), (a1T, 8)]) := bhead_ok [(mainT, 9), (a1T, 8)] mainT
  have s6 : TC Try.prog 21 [vs a1T] (hes [(mainT, 9), (a1T, 8)]) (vi 0) (hes [(mainT, 9)]) := bdrop_to (by decide +kernel) (by decide +kernel)
  have s7 : TC Try.prog 21 [vs a1T] (hes [(mainT, 9)]) (vi 4) (hes [(mainT, 9)]) := bdrop_to (by decide +kernel) (by decide +kernel)
  have s8 : TC Try.prog 30 [] (hes [(mainT, 9)]) (.vsl [vs mainT]) (hes [(mainT, 9)]) := by
    have e : sortS [mainT] = [mainT] := by simp [sortS, List.mergeSort]
    have := bnames_ok sorts_keys [(mainT, 9)] (by simp) (by intro s hs; simp at hs; subst hs; decide) (by decide)
    simp only [List.map_cons, List.map_nil, e] at this
    exact this
  have r1 := bright_ok ⟨#[97, 98, 99, 100, 101, 102, 103, 104, 105, 106, 107, 57]⟩ (by decide)
  have r2 := bright_ok ⟨#[97, 98, 99, 100, 101, 102, 103, 104, 105, 106, 107, 108, 109]⟩ (by decide)
  rw [show nameP ⟨#[97, 98, 99, 100, 101, 102, 103, 104, 105, 106, 107, 57]⟩ = true by decide +kernel] at r1
  rw [show nameP ⟨#[97, 98, 99, 100, 101, 102, 103, 104, 105, 106, 107, 108, 109]⟩ = false by decide +kernel] at r2
  refine apure_in Try.func19 Try.ntmps19 rfl ?_
  repeat' first | refine aw_N [] trivial trivial ?_ | refine aw_cond rfl (fun h => ?_) (fun h => ?_)
  refine awl_new2 [] rfl rfl bnewT_ok rfl rfl rfl ?_
  simp -implicitDefEqProofs
  repeat' first | refine aw_N [] trivial trivial ?_ | refine aw_cond rfl (fun h => ?_) (fun h => ?_)
  refine awl_tab2 [] rfl s1 rfl rfl rfl rfl (by simp) (by simp) ?_
  simp -implicitDefEqProofs
  repeat' first | refine aw_N [] trivial trivial ?_ | refine aw_cond rfl (fun h => ?_) (fun h => ?_)
  refine awl_tab2 [] rfl s2 rfl rfl rfl rfl (by simp) (by simp) ?_
  simp -implicitDefEqProofs
  repeat' first | refine aw_N [] trivial trivial ?_ | refine aw_cond rfl (fun h => ?_) (fun h => ?_)
  refine awl_tab2 [] rfl s3 rfl rfl rfl rfl (by simp) (by simp) ?_
  simp -implicitDefEqProofs
  repeat' first | refine aw_N [] trivial trivial ?_ | refine aw_cond rfl (fun h => ?_) (fun h => ?_)
  refine awl_tab2 [] rfl s4 rfl rfl rfl rfl (by simp) (by simp) ?_
  simp -implicitDefEqProofs
  repeat' first | refine aw_N [] trivial trivial ?_ | refine aw_cond rfl (fun h => ?_) (fun h => ?_)
  refine awl_tab2 [] rfl s5 rfl rfl rfl rfl (by simp) (by simp) ?_
  simp -implicitDefEqProofs
  repeat' first | refine aw_N [] trivial trivial ?_ | refine aw_cond rfl (fun h => ?_) (fun h => ?_)
  refine awl_tab2 [] rfl s6 rfl rfl rfl rfl (by simp) (by simp) ?_
  simp -implicitDefEqProofs
  repeat' first | refine aw_N [] trivial trivial ?_ | refine aw_cond rfl (fun h => ?_) (fun h => ?_)
  refine awl_tab2 [] rfl s7 rfl rfl rfl rfl (by simp) (by simp) ?_
  simp -implicitDefEqProofs
  repeat' first | refine aw_N [] trivial trivial ?_ | refine aw_cond rfl (fun h => ?_) (fun h => ?_)
  refine awl_tab2 [] rfl s8 rfl rfl rfl rfl (by simp) (by simp) ?_
  simp -implicitDefEqProofs
  repeat' first | refine aw_N [] trivial (And.intro @r1 (And.intro @r2 trivial)) ?_ | refine aw_cond rfl (fun h => ?_) (fun h => ?_)
  simp [tupOf, mainT]
end Go.AL
/-! Contracts: gridironlaw17.fits, same. -/
namespace Go.AL
open Go.Proofs
set_option linter.unusedSimpArgs false
set_option linter.unusedVariables false
abbrev Act := Int × ByteArray × Int
def act (p : Act) : AV := .agg [.p (.int .u8 p.1), vs p.2.1, vi p.2.2]
def acts (l : List Act) : List AV := l.map act
@[simp] theorem cl_acts (l : List Act) : (∀ c ∈ acts l, Cl c) = True := eq_true fun c hc => by
  obtain ⟨p, _, rfl⟩ := List.mem_map.1 hc
  exact .agg _ (by simp)
theorem acts_len (l : List Act) : (acts l).length = l.length := List.length_map _
theorem acts_get {l : List Act} {i : Nat} {k : Int} {a : ByteArray} {n : Int} (h : l[i]? = some (k, a, n)) : (acts l)[i]? = some (.agg [.p (.int .u8 k), vs a, vi n]) := by rw [acts, List.getElem?_map, h]; rfl
def allA (l : List Act) : Bool := l.all fun p => decide (p.2.1.size ≤ 100)
theorem allA_cons (k : Int) (a : ByteArray) (h : Int) (l : List Act) : allA ((k, a, h) :: l) = (decide (a.size ≤ 100) && allA l) := rfl
theorem allA_nil : allA [] = true := rfl
def fitsA (l : List Act) : Bool := decide (l.length ≤ 100) && allA l
set_option maxHeartbeats 8000000 in
set_option maxRecDepth 100000 in
theorem fits17_ok (l : List Act) : APure Try.prog 18 [.vsl (acts l)] (vb (fitsA l)) := by
  have hvl := acts_len l
  unfold fitsA
  by_cases h100 : l.length ≤ 100
  · have h100' : ¬ (100 : Int) < l.length := by omega
    refine apure_in Try.func18 Try.ntmps18 rfl ?_
    repeat' first | refine aw_N [] (And.intro @hvl @h100') trivial ?_ | refine aw_cond rfl (fun h => ?_) (fun h => ?_)
    refine aw_loopW [0, 3] (fun q fr σ => ∃ i : Nat, i + q = l.length ∧ allA l = allA (l.drop i) ∧ σ = mkSt [] [] 0 ∧ fr = frm 20 [(0, .vsl (acts l)), (3, vi (i : Nat))]) l.length ?_ ?_
    · exact ⟨_, le_mkSt (bs := []) (ss := []) (n := 0) (by simp) (by simp) (by simp [σ0]), 0, by omega, rfl, rfl, by simp⟩
    · rintro q fr σ ⟨i, hi, hk, rfl, rfl⟩
      simp -implicitDefEqProofs
      by_cases hlt : i < l.length
      · have hlti : (i : Int) < l.length := by omega
        obtain ⟨⟨k, a, h⟩, hp⟩ : ∃ p, l[i]? = some p := ⟨_, List.getElem?_eq_getElem hlt⟩
        have hg := acts_get hp
        have wi : IntKind.i64.wrap ((i : Int) + 1) = (i : Int) + 1 := wrap_id (by omega) (by omega)
        have hla : i < (acts l).length := by omega
        have hc : l.drop i = (k, a, h) :: l.drop (i + 1) := by
          rw [List.drop_eq_getElem_cons hlt]
          congr 1
          exact Option.some.inj ((List.getElem?_eq_getElem hlt).symm.trans hp)
        rw [hc, allA_cons] at hk
        by_cases ha : a.size ≤ 100
        · have ha' : ¬ (100 : Int) < a.size := by omega
          repeat' first | refine aw_N [] (And.intro @hlti (And.intro @hvl (And.intro @hg (And.intro @hla (And.intro @wi @ha'))))) trivial ?_ | refine aw_cond rfl (fun h => ?_) (fun h => ?_)
          refine ⟨q - 1, by omega, _, le_mkSt (bs := []) (ss := []) (n := 0) (by simp) (by simp) (by simp), i + 1, by omega, ?_, rfl, ?_⟩
          · rw [hk]; simp [ha]
          · simp
        · have ha' : (100 : Int) < a.size := by omega
          repeat' first | refine aw_N [] (And.intro @hlti (And.intro @hvl (And.intro @hg (And.intro @hla @ha')))) trivial ?_ | refine aw_cond rfl (fun h => ?_) (fun h => ?_)
          simp [tupOf, hk, ha]
      · have hlti : ¬ (i : Int) < l.length := by omega
        rw [List.drop_eq_nil_of_le (by omega)] at hk
        repeat' first | refine aw_N [] (And.intro @hlti @hvl) trivial ?_ | refine aw_cond rfl (fun h => ?_) (fun h => ?_)
        simp [tupOf, hk, h100, allA_nil]
  · have h100' : (100 : Int) < l.length := by omega
    refine apure_in Try.func18 Try.ntmps18 rfl ?_
    repeat' first | refine aw_N [] (And.intro @hvl @h100') trivial ?_ | refine aw_cond rfl (fun h => ?_) (fun h => ?_)
    simp [tupOf, h100]
end Go.AL
