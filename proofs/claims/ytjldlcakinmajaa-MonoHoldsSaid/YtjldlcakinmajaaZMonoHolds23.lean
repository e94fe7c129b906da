/- Parts of the proof of MonoHolds: the logic, contracts, plain laws. -/
import Derived.Test.YtjldlcakinmajaaZMonoHolds22
import Derived.Test.YtjldlcakinmajaaZMonoHolds13
/-! Contracts: gridironlaw08.of, alive; MonoTells. -/
namespace Go.AL
open Go.Proofs
set_option linter.unusedSimpArgs false
set_option linter.unusedVariables false
theorem in_sh8 : ∀ t : Tree, t.In → t.sh := by
  refine Tree.byKids fun k n a b c d w ks ih => ?_
  intro h
  rw [Tree.In, ins_all] at h
  rw [Tree.sh, shs_all]
  exact ⟨h.2.2.2.2.2.2.2.1, fun t ht => ih t ht (h.2.2.2.2.2.2.2.2 t ht)⟩
theorem kns_okv (l : List (Int × Int × Int)) : ∀ y ∈ kns l, y.cells.length = 3 := fun y hy => by
  obtain ⟨p, _, rfl⟩ := List.mem_map.1 hy
  rfl
theorem apure_nil2 {P : Program} {F : FuncId} {a r : AV} {c : Nat} (h : APure P F [a, .vsl []] r) : APure P F [a, .p (.slice none 0 c)] r := by
  refine ⟨fun G w vs hv hs => h.out G w vs ?_ hs⟩
  refine ⟨hv.1, fun i x v hx hw => ?_⟩
  match i, hx with
  | 0, hx => exact hv.2 0 x v hx hw
  | 1, hx =>
    cases hx
    have := hv.2 1 _ v rfl hw
    cases this
    exact .vnil none c
/-! ### what is known, in the program and in the document -/
theorem gotK_snoc (x y a b w : Int) : ∀ M, gotK (M ++ [(a, b, w)]) x y = if (ixK M x y 0).isSome = true then gotK M x y else if x = a ∧ y = b then w else 0 := by
  have hix : ∀ (M : List (Int × Int × Int)) (i j : Nat), (ixK M x y i).isSome = (ixK M x y j).isSome := by
    intro M
    induction M with
    | nil => intro i j; rfl
    | cons p M ih =>
      intro i j
      obtain ⟨a, b, w⟩ := p
      rw [ixK, ixK]
      by_cases h : x = a ∧ y = b
      · rw [if_pos h, if_pos h]; rfl
      · rw [if_neg h, if_neg h]; exact ih _ _
  intro M
  induction M with
  | nil => simp [gotK, ixK]
  | cons p M ih =>
    obtain ⟨a', b', w'⟩ := p
    rw [List.cons_append, gotK, gotK, ixK]
    by_cases h : x = a' ∧ y = b'
    · simp [h]
    · rw [if_neg h, if_neg h, if_neg h, ih, hix M 1 0]
theorem ixK_snoc (x y a b w : Int) : ∀ (M : List (Int × Int × Int)) (i : Nat), (ixK (M ++ [(a, b, w)]) x y i).isSome = ((ixK M x y i).isSome || decide (x = a ∧ y = b))
  | [], i => by
    by_cases h : x = a ∧ y = b <;> simp [ixK, h]
  | (a', b', w') :: M, i => by
    rw [List.cons_append, ixK, ixK]
    by_cases h : x = a' ∧ y = b'
    · rw [if_pos h, if_pos h]; rfl
    · rw [if_neg h, if_neg h]; exact ixK_snoc x y a b w M (i + 1)
theorem got_fold (x y : Int) : ∀ (l M : List (Int × Int × Int)), gotK (l.foldl addK M) x y = if (ixK M x y 0).isSome = true then gotK M x y else atK l x y
  | [], M => by
    have h := shI x y M 0
    rw [List.foldl_nil, atK]
    cases hq : ixK M x y 0 with
    | none => rw [hq] at h; simpa using h
    | some j => simp
  | (a, b, w) :: l, M => by
    rw [List.foldl_cons, got_fold x y l, atK]
    unfold addK
    by_cases h1 : (ixK M a b 0).isSome = true
    · rw [if_pos h1]
      by_cases h2 : (ixK M x y 0).isSome = true
      · rw [if_pos h2, if_pos h2]
      · rw [if_neg h2, if_neg h2]
        rw [if_neg (fun e => h2 (by rw [← e.1, ← e.2]; exact h1))]
    · rw [if_neg h1, ixK_snoc, gotK_snoc]
      by_cases h2 : (ixK M x y 0).isSome = true
      · simp [h2]
      · have h2' := eq_false_of_ne_true h2
        simp only [h2', Bool.false_or, decide_eq_true_eq, Bool.false_eq_true, if_false]
        by_cases h3 : x = a ∧ y = b
        · rw [if_pos h3, if_pos h3, if_pos ⟨h3.1.symm, h3.2.symm⟩]
        · rw [if_neg h3, if_neg (fun e => h3 ⟨e.1.symm, e.2.symm⟩)]
theorem got_all (l : List (Int × Int × Int)) : gotK (l.foldl addK []) = atK l := by
  funext x y
  rw [got_fold]; rfl
theorem mOfD (t : Tree) (l : List (Int × Int × Int)) (hin : t.In) (hz : tszT t ≤ 1000000000) (hl : l.length ≤ 1000000000) : APure Try.prog 10 [t.av, .vsl (kns l)] (vi (if rightB t = true then wayT (atK l) t else 3)) := by
  refine mOf_ok t (rightB t) l _ hl (by rw [← rightK_B]; exact sRight_ok t (in_sh8 t hin)) fun h => ?_
  have := mway_ok (l.foldl addK []) (fun x y => by rw [got_all]; exact atK_in x y l) t hz hin (by unfold rightB at h; simp only [Bool.and_eq_true] at h; exact h.2)
  rw [got_all] at this
  exact this
end Go.AL
/-! gridironlaw08.MonoTells. -/
namespace Go.AL
open Go.Proofs
set_option linter.unusedSimpArgs false
set_option linter.unusedVariables false
/-- The first text of the live question. -/
def mText : ByteArray := ⟨#[83, 85, 77, 40, 65, 49, 58, 66, 50, 41, 47, 45, 50, 43, 73, 70, 40, 67, 49, 62, 49, 44, 45, 65, 49, 44, 48, 42, 66, 49, 41]⟩
def nText : ByteArray := ⟨#[65, 49, 42, 66, 49]⟩
def mKids : List Tree := [.mk 4 0 0 0 0 0 ⟨#[47]⟩ [.mk 5 0 0 0 0 0 ⟨#[83, 85, 77]⟩ [.mk 6 0 0 0 1 1 ⟨#[]⟩ []], .mk 3 0 0 0 0 0 ⟨#[]⟩ [.mk 0 2 0 0 0 0 ⟨#[]⟩ []]],
  .mk 5 0 0 0 0 0 ⟨#[73, 70]⟩ [.mk 4 0 0 0 0 0 ⟨#[62]⟩ [.mk 1 0 2 0 2 0 ⟨#[]⟩ [], .mk 0 1 0 0 0 0 ⟨#[]⟩ []], .mk 3 0 0 0 0 0 ⟨#[]⟩ [.mk 1 0 0 0 0 0 ⟨#[]⟩ []], .mk 4 0 0 0 0 0 ⟨#[42]⟩ [.mk 0 0 0 0 0 0 ⟨#[]⟩ [], .mk 1 0 1 0 1 0 ⟨#[]⟩ []]]]
def mTree : Tree := .mk 4 0 0 0 0 0 ⟨#[43]⟩ mKids
def nKids : List Tree := [.mk 1 0 0 0 0 0 ⟨#[]⟩ [], .mk 1 0 1 0 1 0 ⟨#[]⟩ []]
def nTree : Tree := .mk 4 0 0 0 0 0 ⟨#[42]⟩ nKids
set_option maxRecDepth 1000000 in
theorem mparse : parse5 mText = (mTree, 0, 0) := by kernel_rfl
set_option maxRecDepth 1000000 in
theorem nparse : parse5 nText = (nTree, 0, 0) := by kernel_rfl
set_option maxRecDepth 1000000 in
theorem mright : rightB mTree = true := by kernel_rfl
set_option maxRecDepth 1000000 in
theorem nright : rightB nTree = true := by kernel_rfl
theorem min8 : mTree.In := by
  simp only [mTree, mKids, Tree.In, ins, In64]
  repeat' apply And.intro
  all_goals decide
theorem nin8 : nTree.In := by
  simp only [nTree, nKids, Tree.In, ins, In64]
  repeat' apply And.intro
  all_goals decide
set_option maxRecDepth 1000000 in
theorem mway1 : wayT (atK [(0, 0, 1), (1, 0, 0)]) mTree = 2 := by decide +kernel
set_option maxRecDepth 1000000 in
theorem mway2 : wayT (atK [(2, 0, 1)]) mTree = 3 := by decide +kernel
set_option maxRecDepth 1000000 in
theorem nway1 : wayT (atK [(0, 0, 1)]) nTree = 3 := by decide +kernel
set_option maxRecDepth 1000000 in
theorem nway2 : wayT (atK []) nTree = 0 := by decide +kernel
set_option maxHeartbeats 8000000 in
set_option maxRecDepth 100000 in
theorem alive8_ok : APure Try.prog 8 [] (vb true) := by
  have hP := rparse5_ok mText (by decide)
  rw [mparse] at hP
  have hN := rparse5_ok nText (by decide)
  rw [nparse] at hN
  have h1 := mOfD mTree [(0, 0, 1), (1, 0, 0)] min8 (by decide) (by decide)
  rw [if_pos mright, mway1] at h1
  have h2 := mOfD mTree [(2, 0, 1)] min8 (by decide) (by decide)
  rw [if_pos mright, mway2] at h2
  have h3 := mOfD nTree [(0, 0, 1)] nin8 (by decide) (by decide)
  rw [if_pos nright, nway1] at h3
  have h4 := mOfD nTree [] nin8 (by decide) (by decide)
  rw [if_pos nright, nway2] at h4
  have h4 := apure_nil2 (c := 0) h4
  have h5 := join_ok [1, 0, 1] (by decide)
  rw [show joinW [1, 0, 1] = 1 from rfl] at h5
  have h6 := flip_ok 2
  rw [show flipW 2 = 1 from rfl] at h6
  simp only [kns, vis, List.map_cons, List.map_nil, kn] at h1 h2 h3 h5
  rw [mTree] at hP h1 h2
  rw [nTree] at hN h3 h4
  obtain ⟨mk, hmk⟩ : ∃ mk, mk = mKids := ⟨_, rfl⟩
  obtain ⟨nk, hnk⟩ : ∃ nk, nk = nKids := ⟨_, rfl⟩
  rw [← hmk] at hP h1 h2
  rw [← hnk] at hN h3 h4
  rw [Tree.av] at hP hN h1 h2 h3 h4
  simp only [mText] at hP
  simp only [nText] at hN
  refine apure_in Try.func8 Try.ntmps8 rfl ?_
  repeat' first | refine aw_N [1, 4] trivial (And.intro @hP (And.intro @hN (And.intro @h1 (And.intro @h2 (And.intro @h3 (And.intro @h4 (And.intro @h5 (And.intro @h6 trivial)))))))) ?_ | refine aw_cond rfl (fun h => ?_) (fun h => ?_)
  all_goals first | (simp [tupOf]; done) | trace_state
end Go.AL
/-! gridironlaw08.MonoTells. -/
namespace Go.AL
open Go.Proofs
set_option linter.unusedSimpArgs false
set_option linter.unusedVariables false
end Go.AL
/-! A slice of one's own, lent to a pure function that hands back plain values. -/
namespace Go.AL
open Go.RowKit (Below)
set_option linter.unusedVariables false
set_option linter.unusedSimpArgs false
variable {P : Program} {σ : ASt} {R : AV → ASt → Prop} {D : List Deferred} {Q : Exit → List AV → ASt → Prop} {fr : List AV} {ops : Array Oper}
/-- It holds wherever it holds. -/
def Pl (c : AV) : Prop := ∀ G w G' w' v, Rep G w c v → Rep G' w' c v
@[simp] theorem pl_p (x : Value) : Pl (.p x) := fun G w G' w' v h => by cases h; exact .p x
@[simp] theorem pl_agg (l : List AV) (h : ∀ c ∈ l, Pl c) : Pl (.agg l) := fun G w G' w' v hr => by
  cases hr with
  | agg _ vs hs hr => exact .agg _ vs hs fun i c v a b => h c (List.mem_of_getElem? a) _ _ _ _ _ (hr i c v a b)
@[simp] theorem pl_tup (l : List AV) (h : ∀ c ∈ l, Pl c) : Pl (.tup l) := fun G w G' w' v hr => by
  cases hr with
  | tup _ vs hs hr => exact .tup _ vs hs fun i c v a b => h c (List.mem_of_getElem? a) _ _ _ _ _ (hr i c v a b)
theorem APure.lend {f : FuncId} {args args' : List AV} {r : AV} (h : APure P f args' r) (he : args.map (clo σ) = args') (ha : ∀ a ∈ args', Cl a) (hr : Pl r) : ACall P f args σ fun r' σ' => r' = r ∧ σ' = σ := by
  intro G w vs hv hw
  obtain ⟨G2, hl2, hw2, hc⟩ := hw.close
  have hs := simW_σ0 hw2
  have h1 := h.out { base := w.heap.size, st := G2.st, bx := fun _ => none, mp := fun _ => none, sl := fun _ => none } w vs ⟨by rw [← he, List.length_map]; exact hv.1, fun i c v a b => by
    refine Rep.closed (G := G2) (fun _ _ e => e) ?_ (ha c (List.mem_of_getElem? a))
    rw [← he, List.getElem?_map] at a
    obtain ⟨c', hc', rfl⟩ := Option.map_eq_some_iff.1 a
    exact hc c' v (hv.2 i c' v hc' b)⟩ hs
  refine Calls.mono h1 fun e w' he => retOf_mono (fun v w1 ho => ?_) he
  obtain ⟨r', G1, σ1, hl, hw1, hr1, rfl⟩ := ho
  have hb : Below w.heap.size w w1 := hl.below
  exact ⟨r', G, σ, Le.grow hw hb, hw.grow hb, hr _ _ _ _ _ hr1, rfl, rfl⟩
theorem awl_lend {o : Oper} {rest : List Oper} {f : Operand} {aa : Array Operand} {ts : Array TypeId} (mu : List Nat) (ho : o.op = .call { callee := .value f, args := aa, argTypes := ts }) (hw : awanted ops o fr = some true)
    {F : FuncId} {first cap : List AV} (hf : acallee (aev fr f) = some (F, first, cap)) (hc : callable P F = true) {args args' : List AV} (ha : first ++ aa.toList.map (aev fr) ++ cap = args) (he : args.map (clo σ) = args') {r : AV} (h : APure P F args' r) (hcl : ∀ a ∈ args', Cl a) (hr : Pl r)
    (hk : Shut (ARun P D ops Q mu rest (aput fr o.dst r) σ)) : AWL P D ops Q (o :: rest) fr σ :=
  awl_call ho hw hf hc (R := fun r' σ' => r' = r ∧ σ' = σ) (by rw [ha]; exact h.lend he hcl hr) fun r' τ ⟨e1, e2⟩ => by subst e1; subst e2; exact awl_run' mu hk
end Go.AL
/-! gridironlaw08.cells, MonoHolds. -/
namespace Go.AL
open Go.Proofs
set_option linter.unusedSimpArgs false
set_option linter.unusedVariables false
abbrev Mov := Int × Int × Int × Int × Int
def mov (p : Mov) : AV := .agg [vi p.1, vi p.2.1, .p (.int .u8 p.2.2.1), vi p.2.2.2.1, vu p.2.2.2.2]
def movs (l : List Mov) : List AV := l.map mov
@[simp] theorem cl_movs (l : List Mov) : (∀ c ∈ movs l, Cl c) = True := eq_true fun c hc => by
  obtain ⟨p, _, rfl⟩ := List.mem_map.1 hc
  exact .agg _ (by simp)
theorem movs_len (l : List Mov) : (movs l).length = l.length := List.length_map _
theorem movs_get {l : List Mov} {i : Nat} {x y w f b : Int} (h : l[i]? = some (x, y, w, f, b)) : (movs l)[i]? = some (.agg [vi x, vi y, .p (.int .u8 w), vi f, vu b]) := by rw [movs, List.getElem?_map, h]; rfl
def upM (f : Int) : Int := 9223372036854775807 - max f 0
def downM (f : Int) : Int := if f < 0 then 9223372036854775807 - -(f + 1) else 9223372036854775807
def toM (w f b : Int) : Int := if w = 1 ∨ w = 3 ∧ b % 2 = 0 then f + min b (upM f) else if w = 2 ∨ w = 3 ∧ b % 2 = 1 then f - min b (downM f) else f
abbrev Tri := List Cel × List Cel × List (Int × Int × Int)
def stepM (T : Tri) (p : Mov) : Tri :=
  if (atE T.1 p.1 p.2.1).isSome = true then T
  else (T.1 ++ [(p.1, p.2.1, p.2.2.2.1, 0)], T.2.1 ++ [(p.1, p.2.1, toM (p.2.2.1 % 4) p.2.2.2.1 p.2.2.2.2, 0)], T.2.2 ++ [(p.1, p.2.1, p.2.2.1 % 4)])
def cellsM (l : List Mov) : Tri := l.foldl stepM ([], [], [])
theorem stepM_len (T : Tri) (p : Mov) (n : Nat) (h : T.1.length ≤ n ∧ T.2.1.length ≤ n ∧ T.2.2.length ≤ n) : (stepM T p).1.length ≤ n + 1 ∧ (stepM T p).2.1.length ≤ n + 1 ∧ (stepM T p).2.2.length ≤ n + 1 := by
  unfold stepM
  split
  · omega
  · simp; omega
theorem cellsM_take {l : List Mov} {i : Nat} {p : Mov} (h : l[i]? = some p) : cellsM (l.take (i + 1)) = stepM (cellsM (l.take i)) p := by
  unfold cellsM; rw [List.take_add_one, h, List.foldl_append]; rfl
theorem cellsM_len (l : List Mov) : ∀ i, (cellsM (l.take i)).1.length ≤ i ∧ (cellsM (l.take i)).2.1.length ≤ i ∧ (cellsM (l.take i)).2.2.length ≤ i
  | 0 => by simp [cellsM]
  | i + 1 => by
    have ih := cellsM_len l i
    cases h : l[i]? with
    | none =>
      have : l.take (i + 1) = l.take i := by rw [List.take_add_one, h]; simp
      rw [this]; omega
    | some p => rw [cellsM_take h]; exact stepM_len _ p i ih
theorem lk32 {k1 k2 k3 : Nat} {a b c : List AV} (h : ¬ k2 = k1) : List.lookup k2 [(k1, a), (k2, b), (k3, c)] = some b := by
  have e : (k2 == k1) = false := by simpa using h
  rw [List.lookup_cons, e]; simp
theorem lk33 {k1 k2 k3 : Nat} {a b c : List AV} (h : ¬ k3 = k1) (g : ¬ k3 = k2) : List.lookup k3 [(k1, a), (k2, b), (k3, c)] = some c := by
  have e : (k3 == k1) = false := by simpa using h
  have e2 : (k3 == k2) = false := by simpa using g
  rw [List.lookup_cons, e]
  simp only
  rw [List.lookup_cons, e2]; simp
set_option maxHeartbeats 32000000 in
set_option maxRecDepth 100000 in
theorem cells8_ok (l : List Mov) (hlen : l.length ≤ 300) (hw : ∀ p ∈ l, 0 ≤ p.2.2.1 ∧ p.2.2.1 < 256 ∧ In64 p.2.2.2.1 ∧ 0 ≤ p.2.2.2.2 ∧ p.2.2.2.2 < 18446744073709551616) :
    APure Try.prog 9 [.vsl (movs l)] (.tup [.vsl (cels (cellsM l).1), .vsl (cels (cellsM l).2.1), .vsl (kns (cellsM l).2.2)]) := by
  have hl := movs_len l
  refine apure_in Try.func9 Try.ntmps9 rfl ?_
  repeat' first | refine aw_N [9, 10] @hl trivial ?_ | refine aw_cond rfl (fun h => ?_) (fun h => ?_)
  refine aw_open (i := 5) rfl ?_
  refine aw_open (i := 6) rfl ?_
  refine aw_open (i := 7) rfl ?_
  refine aw_loopW [0, 5, 6, 7, 8] (fun q fr σ => ∃ k1 k2 k3 m i : Nat, i + q = l.length ∧ k1 < k2 ∧ k2 < k3 ∧ k3 < m ∧ σ = mkSt [] [(k1, cels (cellsM (l.take i)).1), (k2, cels (cellsM (l.take i)).2.1), (k3, kns (cellsM (l.take i)).2.2)] m ∧ fr = frm 121 [(0, .vsl (movs l)), (5, .hsl k1 0 (cellsM (l.take i)).1.length), (6, .hsl k2 0 (cellsM (l.take i)).2.1.length), (7, .hsl k3 0 (cellsM (l.take i)).2.2.length), (8, vi (i : Nat))]) l.length ?_ ?_
  · refine ⟨_, le_mkSt (bs := []) (ss := [(0, []), (1, []), (2, [])]) (n := 3) (by simp) (by simp [σ0]) (by decide), 0, 1, 2, 3, 0, by omega, by decide, by decide, by decide, by simp [cellsM, cels, kns], ?_⟩
    simp [σ0, cellsM]
  · rintro q fr σ ⟨k1, k2, k3, m, i, hi, h12, h23, hkm, rfl, rfl⟩
    simp -implicitDefEqProofs
    by_cases hlt : i < l.length
    · have hlti : (i : Int) < l.length := by omega
      obtain ⟨⟨x, y, w, f, b⟩, hp⟩ : ∃ p, l[i]? = some p := ⟨_, List.getElem?_eq_getElem hlt⟩
      have hg := movs_get hp
      have hla : i < (movs l).length := by omega
      have hwp := hw _ (List.mem_of_getElem? hp)
      simp only at hwp
      obtain ⟨hw0, hw1, hf, hb0, hb1⟩ := hwp
      have wi : IntKind.i64.wrap ((i : Int) + 1) = (i : Int) + 1 := wrap_id (by omega) (by omega)
      have hnx := cellsM_take hp
      have hle := cellsM_len l i
      generalize cellsM (l.take i) = T at *
      obtain ⟨A, B, K⟩ := T
      simp only at hle ⊢
      have hAl := cels_len A
      have hAt : (cels A).take A.length = cels A := List.take_of_length_le (by omega)
      have hBl := cels_len B
      have hKl := kns_len K
      have hAc := cels_okv A
      have hBc := cels_okv B
      have hKc := kns_okv K
      have hat := rat7_ok A (by omega) x y
      have n1 : ¬ m = k1 := by omega
      have n2 : ¬ m = k2 := by omega
      have n3 : ¬ m = k3 := by omega
      have n4 : ¬ k1 = m := by omega
      have n5 : ¬ k2 = m := by omega
      have n6 : ¬ k3 = m := by omega
      have n7 : ¬ k1 = k2 := by omega
      have n8 : ¬ k2 = k1 := by omega
      have n9 : ¬ k1 = k3 := by omega
      have na : ¬ k3 = k1 := by omega
      have nb : ¬ k2 = k3 := by omega
      have nc : ¬ k3 = k2 := by omega
      have p1 : ¬ k2 = m + 1 + 1 := by omega
      have p2 : ¬ k3 = m + 1 + 1 := by omega
      have p3 : ¬ k3 = m + 1 + 1 + 1 := by omega
      have p4 : ¬ m + 2 = k3 := by omega
      have p5 : ¬ m + 2 = k2 := by omega
      have p6 : ¬ m + 3 = k3 := by omega
      repeat' first | refine aw_N [9, 10] (And.intro @hlti (And.intro @hl (And.intro @hla (And.intro @hg (And.intro @wi (And.intro @n1 (And.intro @n2 (And.intro @n3 (And.intro @n4 (And.intro @n5 (And.intro @n6 (And.intro @n7 (And.intro @n8 (And.intro @n9 (And.intro @na (And.intro @nb @nc)))))))))))))))) trivial ?_ | refine aw_cond rfl (fun h => ?_) (fun h => ?_)
      unfold stepM at hnx
      simp only at hnx
      generalize atE A x y = o at *
      cases o with
      | some vv =>
        obtain ⟨vn, vf'⟩ := vv
        simp only [atR7, Option.getD, Option.isSome] at hat
        refine awl_lend [9, 10] rfl rfl rfl (by kernel_rfl) rfl (by simp [clo, clo1, clo0, hAt, hAl]) hat (by simp) (by simp) ?_
        simp -implicitDefEqProofs
        repeat' first | refine aw_N [9, 10] (And.intro @hlti (And.intro @hl (And.intro @hla (And.intro @hg (And.intro @wi (And.intro @n1 (And.intro @n2 (And.intro @n3 (And.intro @n4 (And.intro @n5 (And.intro @n6 (And.intro @n7 (And.intro @n8 (And.intro @n9 (And.intro @na (And.intro @nb @nc)))))))))))))))) trivial ?_ | refine aw_cond rfl (fun h => ?_) (fun h => ?_)
        refine ⟨q - 1, by omega, _, le_mkSt (bs := []) (ss := [(k1, cels A), (k2, cels B), (k3, kns K)]) (n := m + 2) (by simp) (by simp [n1, n2, n3, n4, n5, n6, n7, n8, n9, na, nb, nc, lk32 n8, lk33 na nc]) (by simp), k1, k2, k3, m + 2, i + 1, by omega, h12, h23, by omega, ?_, ?_⟩
        · rw [hnx]; simp
        · rw [hnx]; simp
      | none =>
        simp only [atR7, Option.getD, Option.isSome] at hat
        rw [if_neg (by simp)] at hnx
        unfold In64 at hf
        have hw4 : IntKind.i64.wrap (w.tmod 4) = w % 4 := by rw [Int.tmod_eq_emod_of_nonneg hw0]; exact wrap_id (by omega) (by omega)
        have hb2 : b.tmod 2 = b % 2 := Int.tmod_eq_emod_of_nonneg hb0
        have hU : IntKind.u64.wrap (9223372036854775807 - IntKind.u64.wrap (if f < 0 then 0 else f)) = upM f := by
          unfold upM
          rw [uwrap_id (n := if f < 0 then 0 else f) (by split <;> omega) (by split <;> omega), uwrap_id (by split <;> omega) (by split <;> omega)]
          split <;> omega
        have hUb : 0 ≤ upM f ∧ f + upM f ≤ 9223372036854775807 ∧ upM f ≤ 9223372036854775807 := by unfold upM; omega
        have hDb : 0 ≤ downM f ∧ -9223372036854775808 ≤ f - downM f ∧ downM f ≤ 9223372036854775807 := by unfold downM; split <;> omega
        have hto : toM (w % 4) f b = if decide (w % 4 = 1) || decide (w % 4 = 3) && decide (b % 2 = 0) then f + min b (upM f) else if decide (w % 4 = 2) || decide (w % 4 = 3) && decide (b % 2 = 1) then f - min b (downM f) else f := by
          unfold toM; simp
        have hn12 : (decide (w % 4 = 1) || decide (w % 4 = 3) && decide (b % 2 = 0)) = true → (decide (w % 4 = 2) || decide (w % 4 = 3) && decide (b % 2 = 1)) = false := by
          simp; omega
        obtain ⟨df, hD, hm2, hdf⟩ : ∃ df : Bool, (df = true → IntKind.u64.wrap (9223372036854775807 - IntKind.u64.wrap (IntKind.i64.wrap (-IntKind.i64.wrap (f + 1)))) = downM f) ∧ (df = false → 9223372036854775807 = downM f) ∧ decide (f < 0) = df := by
          refine ⟨_, fun h => ?_, fun h => ?_, rfl⟩
          · have h : f < 0 := of_decide_eq_true h
            unfold downM
            rw [if_pos h, wrap_id (n := f + 1) (by omega) (by omega), wrap_id (n := -(f + 1)) (by omega) (by omega), uwrap_id (n := -(f + 1)) (by omega) (by omega), uwrap_id (by omega) (by omega)]
          · unfold downM
            rw [if_neg (of_decide_eq_false h)]
        generalize upM f = U at *
        generalize downM f = E at *
        have hm1 : IntKind.i64.wrap (if U < b then U else b) = min b U := by rw [wrap_id (by split <;> omega) (by split <;> omega)]; omega
        have hm3 : IntKind.i64.wrap (f + min b U) = f + min b U := wrap_id (by omega) (by omega)
        have hm4 : IntKind.i64.wrap (f - min b E) = f - min b E := wrap_id (by omega) (by omega)
        have hm5 : IntKind.i64.wrap (if E < b then E else b) = min b E := by rw [wrap_id (by split <;> omega) (by split <;> omega)]; omega
        generalize min b U = M1 at *
        generalize min b E = M2 at *
        obtain ⟨t1, hc1⟩ : ∃ t1, (decide (w % 4 = 1) || decide (w % 4 = 3) && decide (b % 2 = 0)) = t1 := ⟨_, rfl⟩
        obtain ⟨t2, hc2⟩ : ∃ t2, (decide (w % 4 = 2) || decide (w % 4 = 3) && decide (b % 2 = 1)) = t2 := ⟨_, rfl⟩
        rw [hc1, hc2] at hto hn12
        refine awl_lend [9, 10] rfl rfl rfl (by kernel_rfl) rfl (by simp [clo, clo1, clo0, hAt, hAl]) hat (by simp) (by simp) ?_
        simp -implicitDefEqProofs
        cases df with
        | true =>
          have hD := hD rfl
          cases t1 <;> cases t2
          case true.true => exact absurd (hn12 rfl) (by decide)
          all_goals
            repeat' first | refine aw_N [9, 10] (And.intro @hlti (And.intro @hl (And.intro @hla (And.intro @hg (And.intro @wi (And.intro @hw4 (And.intro @hb2 (And.intro @hU (And.intro @hm1 (And.intro @hm3 (And.intro @hm4 (And.intro @hm5 (And.intro @hc1 (And.intro @hc2 (And.intro @hdf (And.intro @n1 (And.intro @n2 (And.intro @n3 (And.intro @n4 (And.intro @n5 (And.intro @n6 (And.intro @n7 (And.intro @n8 (And.intro @n9 (And.intro @na (And.intro @nb (And.intro @nc @hD))))))))))))))))))))))))))) trivial ?_ | refine aw_cond rfl (fun h => ?_) (fun h => ?_)
            refine awl_append [9, 10] rfl rfl rfl (xs := cels A) (by simp [n1, n2, n3, n4, n5, n6, n7, n8, n9, na, nb, nc]) (by omega) rfl (by simp) te33 tet33 tz49 rfl hAc (by simp) (by simp; omega) (by simp; omega) ?_
            simp -implicitDefEqProofs [n1, n2, n3, n4, n5, n6, n7, n8, n9, na, nb, nc]
            repeat' first | refine aw_N [9, 10] (And.intro @n1 (And.intro @n2 (And.intro @n3 (And.intro @n4 (And.intro @n5 (And.intro @n6 (And.intro @n7 (And.intro @n8 (And.intro @n9 (And.intro @na (And.intro @nb @nc))))))))))) trivial ?_ | refine aw_cond rfl (fun h => ?_) (fun h => ?_)
            refine awl_append [9, 10] rfl rfl rfl (xs := cels B) (by simp [p1, n1, n2, n3, n4, n5, n6, n7, n8, n9, na, nb, nc, lk32 n8, lk33 na nc]) (by omega) rfl (by simp) te33 tet33 tz49 rfl hBc (by simp) (by simp; omega) (by simp; omega) ?_
            simp -implicitDefEqProofs [n1, n2, n3, n4, n5, n6, n7, n8, n9, na, nb, nc]
            repeat' first | refine aw_N [9, 10] (And.intro @n1 (And.intro @n2 (And.intro @n3 (And.intro @n4 (And.intro @n5 (And.intro @n6 (And.intro @n7 (And.intro @n8 (And.intro @n9 (And.intro @na (And.intro @nb @nc))))))))))) trivial ?_ | refine aw_cond rfl (fun h => ?_) (fun h => ?_)
            refine awl_append [9, 10] rfl rfl rfl (xs := kns K) (by simp [p2, p3, n1, n2, n3, n4, n5, n6, n7, n8, n9, na, nb, nc, lk32 n8, lk33 na nc]) (by omega) rfl (by simp) te34 tet34 tz81 rfl hKc (by simp) (by simp; omega) (by simp; omega) ?_
            simp -implicitDefEqProofs [n1, n2, n3, n4, n5, n6, n7, n8, n9, na, nb, nc]
            repeat' first | refine aw_N [9, 10] (And.intro @wi (And.intro @n1 (And.intro @n2 (And.intro @n3 (And.intro @n4 (And.intro @n5 (And.intro @n6 (And.intro @n7 (And.intro @n8 (And.intro @n9 (And.intro @na (And.intro @nb @nc)))))))))))) trivial ?_ | refine aw_cond rfl (fun h => ?_) (fun h => ?_)
            refine ⟨q - 1, by omega, _, le_mkSt (bs := []) (ss := [(m + 2, (cels A).take A.length ++ [cel (x, y, f, 0)]), (m + 3, (cels B).take B.length ++ [cel (x, y, toM (w % 4) f b, 0)]), (m + 4, (kns K).take K.length ++ [kn (x, y, w % 4)])]) (n := m + 5) (by simp) (by simp [cel, kn, hto, p4, p5, p6]) (by simp), m + 2, m + 3, m + 4, m + 5, i + 1, by omega, by omega, by omega, by omega, ?_, ?_⟩
            · rw [hnx, List.take_of_length_le (by omega), List.take_of_length_le (by omega), List.take_of_length_le (by omega)]
              simp [cels, kns]
            · rw [hnx]; simp
        | false =>
          have hD := trivial
          obtain rfl := hm2 rfl
          cases t1 <;> cases t2
          case true.true => exact absurd (hn12 rfl) (by decide)
          all_goals
            repeat' first | refine aw_N [9, 10] (And.intro @hlti (And.intro @hl (And.intro @hla (And.intro @hg (And.intro @wi (And.intro @hw4 (And.intro @hb2 (And.intro @hU (And.intro @hm1 (And.intro @hm3 (And.intro @hm4 (And.intro @hm5 (And.intro @hc1 (And.intro @hc2 (And.intro @hdf (And.intro @n1 (And.intro @n2 (And.intro @n3 (And.intro @n4 (And.intro @n5 (And.intro @n6 (And.intro @n7 (And.intro @n8 (And.intro @n9 (And.intro @na (And.intro @nb (And.intro @nc @hD))))))))))))))))))))))))))) trivial ?_ | refine aw_cond rfl (fun h => ?_) (fun h => ?_)
            refine awl_append [9, 10] rfl rfl rfl (xs := cels A) (by simp [n1, n2, n3, n4, n5, n6, n7, n8, n9, na, nb, nc]) (by omega) rfl (by simp) te33 tet33 tz49 rfl hAc (by simp) (by simp; omega) (by simp; omega) ?_
            simp -implicitDefEqProofs [n1, n2, n3, n4, n5, n6, n7, n8, n9, na, nb, nc]
            repeat' first | refine aw_N [9, 10] (And.intro @n1 (And.intro @n2 (And.intro @n3 (And.intro @n4 (And.intro @n5 (And.intro @n6 (And.intro @n7 (And.intro @n8 (And.intro @n9 (And.intro @na (And.intro @nb @nc))))))))))) trivial ?_ | refine aw_cond rfl (fun h => ?_) (fun h => ?_)
            refine awl_append [9, 10] rfl rfl rfl (xs := cels B) (by simp [p1, n1, n2, n3, n4, n5, n6, n7, n8, n9, na, nb, nc, lk32 n8, lk33 na nc]) (by omega) rfl (by simp) te33 tet33 tz49 rfl hBc (by simp) (by simp; omega) (by simp; omega) ?_
            simp -implicitDefEqProofs [n1, n2, n3, n4, n5, n6, n7, n8, n9, na, nb, nc]
            repeat' first | refine aw_N [9, 10] (And.intro @n1 (And.intro @n2 (And.intro @n3 (And.intro @n4 (And.intro @n5 (And.intro @n6 (And.intro @n7 (And.intro @n8 (And.intro @n9 (And.intro @na (And.intro @nb @nc))))))))))) trivial ?_ | refine aw_cond rfl (fun h => ?_) (fun h => ?_)
            refine awl_append [9, 10] rfl rfl rfl (xs := kns K) (by simp [p2, p3, n1, n2, n3, n4, n5, n6, n7, n8, n9, na, nb, nc, lk32 n8, lk33 na nc]) (by omega) rfl (by simp) te34 tet34 tz81 rfl hKc (by simp) (by simp; omega) (by simp; omega) ?_
            simp -implicitDefEqProofs [n1, n2, n3, n4, n5, n6, n7, n8, n9, na, nb, nc]
            repeat' first | refine aw_N [9, 10] (And.intro @wi (And.intro @n1 (And.intro @n2 (And.intro @n3 (And.intro @n4 (And.intro @n5 (And.intro @n6 (And.intro @n7 (And.intro @n8 (And.intro @n9 (And.intro @na (And.intro @nb @nc)))))))))))) trivial ?_ | refine aw_cond rfl (fun h => ?_) (fun h => ?_)
            refine ⟨q - 1, by omega, _, le_mkSt (bs := []) (ss := [(m + 2, (cels A).take A.length ++ [cel (x, y, f, 0)]), (m + 3, (cels B).take B.length ++ [cel (x, y, toM (w % 4) f b, 0)]), (m + 4, (kns K).take K.length ++ [kn (x, y, w % 4)])]) (n := m + 5) (by simp) (by simp [cel, kn, hto, p4, p5, p6]) (by simp), m + 2, m + 3, m + 4, m + 5, i + 1, by omega, by omega, by omega, by omega, ?_, ?_⟩
            · rw [hnx, List.take_of_length_le (by omega), List.take_of_length_le (by omega), List.take_of_length_le (by omega)]
              simp [cels, kns]
            · rw [hnx]; simp
    · have hlti : ¬ (i : Int) < l.length := by omega
      obtain rfl : i = l.length := by omega
      rw [List.take_of_length_le (Nat.le_refl _)]
      generalize cellsM l = T at *
      obtain ⟨A, B, K⟩ := T
      have hAl := cels_len A
      have hBl := cels_len B
      have hKl := kns_len K
      have hAt : (cels A).take A.length = cels A := List.take_of_length_le (by omega)
      have hBt : (cels B).take B.length = cels B := List.take_of_length_le (by omega)
      have hKt : (kns K).take K.length = kns K := List.take_of_length_le (by omega)
      have n7 : ¬ k1 = k2 := by omega
      have n8 : ¬ k2 = k1 := by omega
      have n9 : ¬ k1 = k3 := by omega
      have na : ¬ k3 = k1 := by omega
      have nb : ¬ k2 = k3 := by omega
      have nc : ¬ k3 = k2 := by omega
      simp only
      refine aw_freeze (b := k1) (xs := cels A) (by simp) ?_
      simp -implicitDefEqProofs [frz, frz1, frz0, n7, n8, n9, na, nb, nc]
      refine aw_freeze (b := k2) (xs := cels B) (by simp [n7, n8, n9, na, nb, nc, lk32 n8]) ?_
      simp -implicitDefEqProofs [frz, frz1, frz0, n7, n8, n9, na, nb, nc]
      refine aw_freeze (b := k3) (xs := kns K) (by simp [n7, n8, n9, na, nb, nc, lk33 na nc]) ?_
      simp -implicitDefEqProofs [frz, frz1, frz0, n7, n8, n9, na, nb, nc]
      repeat' first | refine aw_N [9, 10] (And.intro @hlti @hl) trivial ?_ | refine aw_cond rfl (fun h => ?_) (fun h => ?_)
      all_goals first | (simp [tupOf, hAt, hBt, hKt, hAl, hBl, hKl]; done) | trace_state
end Go.AL
/-! gridironlaw08.MonoHolds. -/
namespace Go.AL
open Go.Proofs
set_option linter.unusedSimpArgs false
set_option linter.unusedVariables false
def MovOK (p : Mov) : Prop := 0 ≤ p.2.2.1 ∧ p.2.2.1 < 256 ∧ In64 p.2.2.2.1 ∧ 0 ≤ p.2.2.2.2 ∧ p.2.2.2.2 < 18446744073709551616
def hasK (l : List (Int × Int × Int)) (x y : Int) : Bool := l.any fun p => decide (p.1 = x ∧ p.2.1 = y)
theorem atK_snoc (a b w x y : Int) : ∀ l : List (Int × Int × Int), atK (l ++ [(a, b, w)]) x y = if hasK l x y = true then atK l x y else if a = x ∧ b = y then cleanW w else 0
  | [] => by simp [atK, hasK]
  | (c, d, v) :: l => by
    have ih := atK_snoc a b w x y l
    rw [List.cons_append, atK, atK, ih]
    have e : hasK ((c, d, v) :: l) x y = (decide (c = x ∧ d = y) || hasK l x y) := rfl
    rw [e]
    by_cases h : c = x ∧ d = y
    · simp [h]
    · rw [if_neg h, if_neg h, show decide (c = x ∧ d = y) = false by simpa using h, Bool.false_or]
theorem atE_snoc (a b n f x y : Int) : ∀ l : List Cel, atE (l ++ [(a, b, n, f)]) x y = if (atE l x y).isSome = true then atE l x y else if a = x ∧ b = y then some (cleanV n f) else none
  | [] => by simp [atE]
  | (c, d, v, g) :: l => by
    have ih := atE_snoc a b n f x y l
    rw [List.cons_append, atE, atE, ih]
    by_cases h : c = x ∧ d = y
    · rw [if_pos h, if_pos h]; rfl
    · rw [if_neg h, if_neg h]
/-- Both sheets, and the ways between. -/
def Way2 (T : Tri) : Prop := (∀ p ∈ T.1, In64 p.2.2.1) ∧ (∀ p ∈ T.2.1, In64 p.2.2.1) ∧ ∀ x y, hasK T.2.2 x y = (atE T.1 x y).isSome ∧
  ((atE T.1 x y = none ∧ atE T.2.1 x y = none ∧ atK T.2.2 x y = 0) ∨ ∃ n m, atE T.1 x y = some (n, 0) ∧ atE T.2.1 x y = some (m, 0) ∧ Rel (atK T.2.2 x y) n m)
theorem to_rel {w f b : Int} (hw : 0 ≤ w ∧ w ≤ 3) (hb : 0 ≤ b) (hf : In64 f) : Rel (cleanW w) f (toM w f b) ∧ In64 (toM w f b) := by
  unfold In64 at hf
  have hU : 0 ≤ upM f ∧ f + upM f ≤ 9223372036854775807 := by unfold upM; omega
  have hD : 0 ≤ downM f ∧ -9223372036854775808 ≤ f - downM f := by unfold downM; split <;> omega
  unfold Rel cleanW toM In64
  rw [if_neg (show ¬ (w < 0 ∨ 3 < w) by omega)]
  generalize upM f = U at *
  generalize downM f = E at *
  repeat' split
  all_goals omega
theorem step_way {T : Tri} {p : Mov} (hp : MovOK p) (h : Way2 T) : Way2 (stepM T p) := by
  obtain ⟨A, B, K⟩ := T
  obtain ⟨a, b, w, f, by_⟩ := p
  obtain ⟨hw0, hw1, hf, hb0, hb1⟩ := hp
  simp only at hw0 hw1 hf hb0 hb1
  unfold stepM
  simp only
  split
  · exact h
  · rename_i hn
    obtain ⟨hA, hB, hx⟩ := h
    simp only at hA hB hx
    obtain ⟨hr, hi⟩ := to_rel (w := w % 4) (b := by_) (by omega) hb0 hf
    refine ⟨fun q hq => ?_, fun q hq => ?_, fun x y => ?_⟩
    · rcases List.mem_append.1 hq with h | h
      · exact hA q h
      · obtain rfl := List.mem_singleton.1 h; exact hf
    · rcases List.mem_append.1 hq with h | h
      · exact hB q h
      · obtain rfl := List.mem_singleton.1 h; exact hi
    · have hxy := hx x y
      simp only
      rw [atE_snoc, atE_snoc, atK_snoc]
      have e : hasK (K ++ [(a, b, w % 4)]) x y = (hasK K x y || decide (a = x ∧ b = y)) := by simp [hasK]
      rw [e]
      by_cases hs : (atE A x y).isSome = true
      · obtain ⟨h1, h2⟩ := hxy
        rw [hs] at h1
        rw [h1, hs]
        rcases h2 with ⟨h2, _⟩ | ⟨n, m, h2, h3, h4⟩
        · rw [h2] at hs; cases hs
        · simp only [Bool.true_or, if_true, h3, Option.isSome_some, h2]
          exact ⟨trivial, .inr ⟨n, m, rfl, rfl, h4⟩⟩
      · have hs' := eq_false_of_ne_true hs
        obtain ⟨h1, h2⟩ := hxy
        rw [hs'] at h1
        rcases h2 with ⟨h2, h3, h4⟩ | ⟨n, m, h2, h3, h4⟩
        · rw [h1, hs', h3]
          simp only [Bool.false_or, Bool.false_eq_true, if_false, Option.isSome_none]
          by_cases hc : a = x ∧ b = y
          · simp only [hc, and_self, decide_true, if_true, Option.isSome_some]
            exact ⟨trivial, .inr ⟨f, toM (w % 4) f by_, by simp [cleanV], by simp [cleanV], hr⟩⟩
          · simp only [hc, decide_false, if_false, Option.isSome_none]
            exact ⟨trivial, .inl ⟨trivial, trivial, trivial⟩⟩
        · rw [h2] at hs; exact absurd rfl hs
theorem cells_way {l : List Mov} (h : ∀ p ∈ l, MovOK p) : Way2 (cellsM l) := by
  have : ∀ (l : List Mov) (T : Tri), (∀ p ∈ l, MovOK p) → Way2 T → Way2 (l.foldl stepM T) := by
    intro l
    induction l with
    | nil => exact fun T _ h => h
    | cons p l ih => exact fun T hl h => ih _ (fun q hq => hl q (List.mem_cons_of_mem _ hq)) (step_way (hl p List.mem_cons_self) h)
  exact this l _ h ⟨(fun p h => by cases h), (fun p h => by cases h), fun x y => ⟨rfl, .inl ⟨rfl, rfl, rfl⟩⟩⟩
theorem way_goes {T : Tri} (h : Way2 T) : Goes (atK T.2.2) (atE T.1) (atE T.2.1) := fun x y => by
  refine ⟨atK_in x y _, ?_⟩
  rcases (h.2.2 x y).2 with ⟨h1, h2, _⟩ | ⟨n, m, h1, h2, h3⟩
  · rw [h1, h2]; trivial
  · rw [h1, h2]; exact fun _ _ => h3
set_option maxHeartbeats 32000000 in
set_option maxRecDepth 100000 in
theorem monoHolds_ok (t : Tree) (l : List Mov) (hin : t.In) (hll : (l.length : Int) ≤ 9223372036854775807) (hw : ∀ p ∈ l, MovOK p) : APure Try.prog 3 [t.av, .vsl (movs l)] (vb true) := by
  have hA := alive8_ok
  have hsh := in_sh7 t hin
  have hF := fits5_ok t hsh
  have hvl := movs_len l
  by_cases hf : fitsB t = true
  · rw [hf] at hF
    have hz := fits_size hf
    by_cases h300 : l.length ≤ 300
    · have hb : ¬ (300 : Int) < l.length := by omega
      have hC := cells8_ok l h300 hw
      have hlen := cellsM_len l l.length
      rw [List.take_of_length_le (Nat.le_refl _)] at hlen
      have hW := cells_way hw
      have hG := way_goes hW
      generalize cellsM l = T at *
      obtain ⟨A, B, K⟩ := T
      simp only at hC hlen hG
      have h1 := rOf7_ok t A (by omega) hW.1 hin hsh hz
      have h2 := rOf7_ok t B (by omega) hW.2.1 hin hsh hz
      have h3 := mOfD t K hin (by omega) (by omega)
      by_cases hr : rightB t = true
      · rw [if_pos hr] at h1 h2 h3
        have hR := way_rel hG t (rightB_may hr)
        have hI : InW (wayT (atK K) t) := wayT_in (fun x y => atK_in x y _) t
        generalize evT (atE A) t = V at *
        generalize evT (atE B) t = U at *
        generalize wayT (atK K) t = W at *
        obtain ⟨vn, vf'⟩ := V
        obtain ⟨un, uf⟩ := U
        simp only [vl] at h1 h2
        simp only at hR
        obtain ⟨k, n, a, b, c, d, w, ks⟩ := t
        rw [Tree.av] at hF h1 h2 h3 ⊢
        clear hf hz hin hsh hr hG hW
        by_cases e1 : vf' = 0
        · by_cases e2 : uf = 0
          · have hR := hR e1 e2
            unfold InW at hI
            subst e1 e2
            obtain rfl | rfl | rfl | rfl : W = 0 ∨ W = 1 ∨ W = 2 ∨ W = 3 := by omega
            · have e : un = vn := by unfold Rel at hR; omega
              refine apure_in Try.func3 Try.ntmps3 rfl ?_
              repeat' first | refine aw_N [10, 11] (And.intro @hvl (And.intro @hb @e)) (And.intro @hF (And.intro @hA (And.intro @hC (And.intro @h1 (And.intro @h2 (And.intro @h3 trivial)))))) ?_ | refine aw_cond rfl (fun h => ?_) (fun h => ?_)
              all_goals first | (simp [tupOf]; done) | trace_state
            · have e : vn ≤ un := by unfold Rel at hR; omega
              refine apure_in Try.func3 Try.ntmps3 rfl ?_
              repeat' first | refine aw_N [10, 11] (And.intro @hvl (And.intro @hb @e)) (And.intro @hF (And.intro @hA (And.intro @hC (And.intro @h1 (And.intro @h2 (And.intro @h3 trivial)))))) ?_ | refine aw_cond rfl (fun h => ?_) (fun h => ?_)
              all_goals first | (simp [tupOf]; done) | trace_state
            · have e : un ≤ vn := by unfold Rel at hR; omega
              refine apure_in Try.func3 Try.ntmps3 rfl ?_
              repeat' first | refine aw_N [10, 11] (And.intro @hvl (And.intro @hb @e)) (And.intro @hF (And.intro @hA (And.intro @hC (And.intro @h1 (And.intro @h2 (And.intro @h3 trivial)))))) ?_ | refine aw_cond rfl (fun h => ?_) (fun h => ?_)
              all_goals first | (simp [tupOf]; done) | trace_state
            · refine apure_in Try.func3 Try.ntmps3 rfl ?_
              repeat' first | refine aw_N [10, 11] (And.intro @hvl @hb) (And.intro @hF (And.intro @hA (And.intro @hC (And.intro @h1 (And.intro @h2 (And.intro @h3 trivial)))))) ?_ | refine aw_cond rfl (fun h => ?_) (fun h => ?_)
              all_goals first | (simp [tupOf]; done) | trace_state
          · refine apure_in Try.func3 Try.ntmps3 rfl ?_
            repeat' first | refine aw_N [10, 11] (And.intro @hvl (And.intro @hb (And.intro @e1 @e2))) (And.intro @hF (And.intro @hA (And.intro @hC (And.intro @h1 (And.intro @h2 (And.intro @h3 trivial)))))) ?_ | refine aw_cond rfl (fun h => ?_) (fun h => ?_)
            all_goals first | (simp [tupOf]; done) | trace_state
        · refine apure_in Try.func3 Try.ntmps3 rfl ?_
          repeat' first | refine aw_N [10, 11] (And.intro @hvl (And.intro @hb @e1)) (And.intro @hF (And.intro @hA (And.intro @hC (And.intro @h1 (And.intro @h2 (And.intro @h3 trivial)))))) ?_ | refine aw_cond rfl (fun h => ?_) (fun h => ?_)
          all_goals first | (simp [tupOf]; done) | trace_state
      · rw [if_neg hr] at h1 h2 h3
        simp only [vl] at h1 h2
        obtain ⟨k, n, a, b, c, d, w, ks⟩ := t
        rw [Tree.av] at hF h1 h2 h3 ⊢
        clear hf hz hin hsh hr hG hW
        refine apure_in Try.func3 Try.ntmps3 rfl ?_
        repeat' first | refine aw_N [10, 11] (And.intro @hvl @hb) (And.intro @hF (And.intro @hA (And.intro @hC (And.intro @h1 (And.intro @h2 (And.intro @h3 trivial)))))) ?_ | refine aw_cond rfl (fun h => ?_) (fun h => ?_)
        all_goals first | (simp [tupOf]; done) | trace_state
    · have hb : (300 : Int) < l.length := by omega
      obtain ⟨k, n, a, b, c, d, w, ks⟩ := t
      rw [Tree.av] at hF ⊢
      refine apure_in Try.func3 Try.ntmps3 rfl ?_
      repeat' first | refine aw_N [10, 11] (And.intro @hvl @hb) (And.intro @hF (And.intro @hA trivial)) ?_ | refine aw_cond rfl (fun h => ?_) (fun h => ?_)
      all_goals first | (simp [tupOf]; done) | trace_state
  · rw [eq_false_of_ne_true hf] at hF
    obtain ⟨k, n, a, b, c, d, w, ks⟩ := t
    rw [Tree.av] at hF ⊢
    refine apure_in Try.func3 Try.ntmps3 rfl ?_
    repeat' first | refine aw_N [10, 11] (And.intro @hvl @hvl) (And.intro @hF (And.intro @hA trivial)) ?_ | refine aw_cond rfl (fun h => ?_) (fun h => ?_)
    all_goals first | (simp [tupOf]; done) | trace_state
theorem MonoHolds_all (x : AV) (l : List Mov) (hx : HasT Try.prog 29 x) (hl : l.length ≤ 9223372036854775807) (hc : ∀ p ∈ l, (Lit.int .i64 p.1).wf = true ∧ (Lit.int .i64 p.2.1).wf = true ∧ (Lit.int .u8 p.2.2.1).wf = true ∧ (Lit.int .i64 p.2.2.2.1).wf = true ∧ (Lit.int .u64 p.2.2.2.2).wf = true) :
    APure Try.prog 3 [x, .vsl (l.map fun p => .agg [.p (.int .i64 p.1), .p (.int .i64 p.2.1), .p (.int .u8 p.2.2.1), .p (.int .i64 p.2.2.2.1), .p (.int .u64 p.2.2.2.2)])] (vb true) := by
  obtain ⟨n, hx⟩ := hx
  obtain ⟨t, rfl, ht⟩ := tree_has n x hx
  refine monoHolds_ok t l ht (by omega) fun p hp => ?_
  obtain ⟨_, _, h3, h4, h5⟩ := hc p hp
  simp only [Lit.wf, IntKind.min, IntKind.max, IntKind.signed, IntKind.bits, Bool.and_eq_true, decide_eq_true_eq] at h3 h5
  refine ⟨?_, ?_, .of_wf h4, ?_, ?_⟩ <;> simp at h3 h5 <;> omega
end Go.AL
