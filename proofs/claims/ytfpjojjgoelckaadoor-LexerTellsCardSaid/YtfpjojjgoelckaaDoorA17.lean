import Derived.Test.YtfpjojjgoelckaaDoorA16
/-! Lists that grow. -/
namespace Go.AL
set_option linter.unusedVariables false
set_option linter.unusedSimpArgs false

variable {P : Program} {σ : ASt} {R : AV → ASt → Prop} {D : List Deferred} {Q : Exit → List AV → ASt → Prop} {fr : List AV} {ops : Array Oper}

/-- One slice of the function's own, and nothing else. -/
def oneSl (k : Nat) (xs : List AV) (n : Nat) : ASt := ⟨fun _ => none, fun _ => none, fun b => if b = k then some xs else none, n⟩
theorem le_oneSl {k : Nat} {xs : List AV} {n : Nat} (h : σ.sl k = some xs) (hn : σ.next ≤ n) : (oneSl k xs n).Le σ where
  bx := fun _ _ e => nomatch e
  mp := fun _ _ e => nomatch e
  sl := fun b cs e => by
    simp only [oneSl] at e
    split at e
    · rename_i hb; subst hb; rw [h]; exact e
    · cases e
  next := hn
@[simp] theorem oneSl_sl (k : Nat) (xs : List AV) (n b : Nat) : (oneSl k xs n).sl b = if b = k then some xs else none := rfl
@[simp] theorem oneSl_bx (k : Nat) (xs : List AV) (n b : Nat) : (oneSl k xs n).bx b = none := rfl
@[simp] theorem oneSl_mp (k : Nat) (xs : List AV) (n b : Nat) : (oneSl k xs n).mp b = none := rfl
attribute [simp] ASt.addBx ASt.addMp ASt.addSl ASt.dropSl upd asrc undef
@[simp] theorem oneSl_next (k : Nat) (xs : List AV) (n : Nat) : (oneSl k xs n).next = n := rfl
theorem aw_weak {c : Code} {τ : ASt} (l : τ.Le σ) (h : AW P D c Q fr τ) : AW P D c Q fr σ := fun G a w hs => h G a w (hs.less l)
theorem aw_loopW {c : Code} (ks : List Nat) (I : Nat → List AV → ASt → Prop) (n : Nat) (h0 : ∃ τ, ASt.Le τ σ ∧ I n (keep ks 0 fr) τ)
    (round : ∀ n fr σ, I n fr σ → AW P D c (thenA (fun fr' σ' => ∃ m, m < n ∧ ∃ τ, ASt.Le τ σ' ∧ I m (keep ks 0 fr') τ) Q) fr σ) : AW P D (.loop c) Q fr σ := by
  refine aw_loop (fun n fr σ => ∃ τ, ASt.Le τ σ ∧ I n (keep ks 0 fr) τ) n h0 fun n fr σ h => ?_
  obtain ⟨τ, hl, hI⟩ := h
  exact aw_weak hl (aw_keep ks (round n _ τ hI))
theorem awl_append {o : Oper} {rest : List Oper} {s x : Operand} {t el : TypeId} (mu : List Nat) (ho : o.op = .call { callee := .builtin .append, args := #[s, x], argTypes := #[t, t] }) (hw : awanted ops o fr = some true) {b off k : Nat} {xs ys : List AV} {n by_ : Nat} {g : Bool} {z : AV}
    (hs : aev fr s = .hsl b off k) (hb : σ.sl b = some xs) (hk : off + k ≤ xs.length) (hx : asrc σ (aev fr x) = some ys) (hne : ys ≠ []) (ht : telem P t = some (n, g, by_)) (hel : telemT P t = some el) (hz : tzero P el = some z) (hzn : z.cells.length = n)
    (hxs : ∀ y ∈ xs, y.cells.length = n) (hys : ∀ y ∈ ys, y.cells.length = n ∧ y.okv = true) (hB : (k + ys.length) * by_ ≤ 140737488355328) (hS : k + ys.length ≤ 9223372036854775807)
    (hk2 : Shut (ARun P D ops Q mu rest (aput fr o.dst (.hsl σ.next 0 (k + ys.length))) ((σ.dropSl b).addSl ((xs.drop off).take k ++ ys)))) : AWL P D ops Q (o :: rest) fr σ :=
  awl_cons hw (opq_append ho hs hb hk hx hne ht hel hz hzn hxs hys hB hS (awl_run' mu hk2))
/-- Some boxes and slices of the function's own, by their numbers, and nothing else. -/
def mkSt (bs ss : List (Nat × List AV)) (n : Nat) : ASt := ⟨fun b => bs.lookup b, fun _ => none, fun b => ss.lookup b, n⟩
theorem lookup_mem {α : Type} : ∀ {l : List (Nat × α)} {b : Nat} {c : α}, l.lookup b = some c → (b, c) ∈ l
  | [], _, _, h => by cases h
  | (x, y) :: l, b, c, h => by
    rw [List.lookup_cons] at h
    split at h
    · rename_i hb
      obtain rfl := Option.some.inj h
      obtain rfl : b = x := by simpa using hb
      exact List.mem_cons_self
    · exact List.mem_cons_of_mem _ (lookup_mem h)
theorem le_mkSt {bs ss : List (Nat × List AV)} {n : Nat} (h1 : ∀ p ∈ bs, σ.bx p.1 = some p.2) (h2 : ∀ p ∈ ss, σ.sl p.1 = some p.2) (hn : σ.next ≤ n) : (mkSt bs ss n).Le σ where
  bx := fun b cs e => h1 (b, cs) (lookup_mem e)
  mp := fun _ _ e => nomatch e
  sl := fun b cs e => h2 (b, cs) (lookup_mem e)
  next := hn
@[simp] theorem mkSt_bx (bs ss : List (Nat × List AV)) (n b : Nat) : (mkSt bs ss n).bx b = bs.lookup b := rfl
@[simp] theorem mkSt_sl (bs ss : List (Nat × List AV)) (n b : Nat) : (mkSt bs ss n).sl b = ss.lookup b := rfl
@[simp] theorem mkSt_mp (bs ss : List (Nat × List AV)) (n b : Nat) : (mkSt bs ss n).mp b = none := rfl
@[simp] theorem mkSt_next (bs ss : List (Nat × List AV)) (n : Nat) : (mkSt bs ss n).next = n := rfl
/-- No slice is the empty one. -/
theorem Fin.vnil {c : Nat} (h : Fin R (.vsl []) σ) : Fin R (.p (.slice none 0 c)) σ := fun G w v hw hr => h G w v hw (by cases hr; exact .vnil none c)
theorem ff_tt {C : Prop} (h : false = true) : C := nomatch h
theorem tt_ff {C : Prop} (h : true = false) : C := nomatch h
end Go.AL
