import Derived.Test.YtfpjojjgoelckaaDoorA9
import Derived.Lib.ConvBytes
import Derived.Laws.IdiomStrings
/-! Strings to bytes, and back. -/
namespace Go.AL
open Go.RowKit (Below)
set_option linter.unusedVariables false
set_option linter.unusedSimpArgs false

variable {P : Program} {o : Oper} {ρ : Operand → AV} {σ : ASt} {R : AV → ASt → Prop}

def isBytes (P : Program) (t : TypeId) : Bool :=
  match P.underlying t with
  | some (.slice e) => match P.underlying e with | some (.int .u8) => true | _ => false
  | _ => false
theorem isBytes_spec {t : TypeId} (h : isBytes P t = true) : ∃ e, P.underlying t = some (.slice e) ∧ P.underlying e = some (.int .u8) := by
  unfold isBytes at h
  split at h
  · split at h
    · exact ⟨_, by assumption, by assumption⟩
    · cases h
  · cases h
/-- A byte. -/
abbrev vbyte (b : UInt8) : AV := .p (.int .u8 b.toNat)
def bytesAV (l : List UInt8) : AV := .vsl (l.map vbyte)
/-- The bytes that these are. -/
def bytesOf : List AV → Option (List Int)
  | [] => some []
  | .p (.int .u8 n) :: l => (bytesOf l).map fun r => n :: r
  | _ => none
def strOf (l : List Int) : ByteArray := ⟨(l.map fun n => UInt8.ofNat n.toNat).toArray⟩
def aconvA (P : Program) (s d : TypeId) (x : AV) : Option AV :=
  match x with
  | .vsl xs => if isBytes P s = true ∧ isString P d = true then (bytesOf xs).map fun l => .p (.string (strOf l)) else none
  | .p (.slice none _ _) => if isBytes P s = true ∧ isString P d = true then some (.p (.string ⟨#[]⟩)) else none
  | .p (.string t) => if isString P s = true ∧ isBytes P d = true then some (bytesAV t.data.toList) else (aconv P s d x).map .p
  | x => (aconv P s d x).map .p
theorem below_bytes (w : World) (e : TypeId) (s : ByteArray) : Below w.heap.size w (Lib.bytesWorld w e s) := by
  refine ⟨?_, ?_, ?_, ?_, fun i hi => Lib.bytesWorld_at_old w e s i hi⟩
  · simp [Lib.bytesWorld, World.freeze]; rfl
  · simp [Lib.bytesWorld, World.freeze]
  · simp [Lib.bytesWorld, World.freeze]; rfl
  · rw [Lib.bytesWorld_size]; omega
theorem bytesOf_spec : ∀ (xs : List AV) (l : List Int), bytesOf xs = some l → xs = l.map fun n => .p (.int .u8 n)
  | [], l, h => by obtain rfl := Option.some.inj h; rfl
  | .p (.int .u8 n) :: xs, l, h => by
    simp only [bytesOf, Option.map_eq_some_iff] at h
    obtain ⟨r, hr, rfl⟩ := h
    rw [bytesOf_spec xs r hr]; rfl
theorem foldl_push_ints : ∀ (l : List Int) (r : ByteArray), l.foldl (fun r n => r.push (UInt8.ofNat n.toNat)) r = ⟨r.data ++ (l.map fun n => UInt8.ofNat n.toNat).toArray⟩
  | [], r => by simp
  | b :: l, r => by
    simp only [List.map_cons, List.foldl_cons]
    rw [foldl_push_ints l]
    simp [ByteArray.push]
theorem opq_convertA {src dst : TypeId} {x : Operand} (ho : o.op = .convert src dst x) {r : AV} (h : aconvA P src dst (ρ x) = some r) (hr : R r σ) : OpQ P o ρ σ R := by
  unfold aconvA at h
  split at h
  · rename_i xs hxe
    obtain ⟨⟨hb, hs⟩, h0⟩ := ite_some' h
    simp only [Option.map_eq_some_iff] at h0
    obtain ⟨l, hl, rfl⟩ := h0
    have hxs := bytesOf_spec xs l hl
    obtain ⟨el, h1, h2⟩ := isBytes_spec hb
    have h3 := isString_spec hs
    refine opq_v (s := fun e => convert src dst (e x)) (fun e => by simp only [execOp, ho]) _ hr fun G e w he hw => ⟨.string (strOf l), ?_, .p _⟩
    have hx := he x
    rw [hxe] at hx
    generalize e x = vx at hx
    cases hx with
    | vnil n c =>
      have : l = [] := by simpa using hxs.symm
      subst this
      simp only [convert, Sem.run_bind, run_underlying' h1, run_underlying' h2, run_underlying' h3, Result.andThen_ok]
      cases n with
      | none => rfl
      | some a =>
        have := run_bytesToString (P := P) w a 0 c [] (run_loadCells_list w a [] (fun j v hj => by simp at hj))
        rw [this]
        rfl
    | vsl _ β o s cap val hcap hs h hr =>
      subst hxs
      rw [List.length_map, run_convert_bytes_string w src dst el _ _ cap h1 h2 h3]
      have hs1 : ∀ i, i < l.length → s = 1 := fun i hi => by
        have := hs i (.p (.int .u8 l[i])) (by simp [hi])
        simpa [AV.cells] using this.symm
      have hL := run_loadCells_list (P := P) w ⟨β, o, none⟩ (l.map (Value.int .u8)) (fun j v hj => by
        simp only [List.getElem?_map, Option.map_eq_some_iff] at hj
        obtain ⟨n, hn, rfl⟩ := hj
        have hlt := (List.getElem?_eq_some_iff.1 hn).1
        have hc : rowCell (l.map fun n => AV.p (.int .u8 n)) j 0 = some (.p (.int .u8 n)) := by simp [rowCell, hn, AV.cells]
        have e1 := (h j 0 _ hc).2
        have e2 := hr j 0 _ hc
        generalize val j 0 = u at e1 e2
        cases e2
        rw [hs1 j hlt] at e1
        unfold Addr.add
        simp only [Nat.mul_one, Nat.add_zero] at e1
        split
        · rename_i h0; subst h0; simpa using e1
        · exact e1)
      simp only [List.length_map] at hL ⊢
      rw [run_bytesToString w ⟨β, o, none⟩ l.length cap _ hL, foldl_push_ints]
      have he0 : ByteArray.empty.data = #[] := rfl
      rw [he0]
      simp [strOf]
  · rename_i n c hxe
    obtain ⟨⟨hb, hs⟩, h0⟩ := ite_some' h
    obtain rfl := Option.some.inj h0
    obtain ⟨el, h1, h2⟩ := isBytes_spec hb
    have h3 := isString_spec hs
    refine opq_v (s := fun e => convert src dst (e x)) (fun e => by simp only [execOp, ho]) _ hr fun G e w he hw => ⟨.string ⟨#[]⟩, ?_, .p _⟩
    have hx := he x
    rw [hxe] at hx
    generalize e x = vx at hx
    cases hx
    simp only [convert, Sem.run_bind, run_underlying' h1, run_underlying' h2, run_underlying' h3, Result.andThen_ok]
    rfl
  · rename_i t hxe
    split at h
    · rename_i hc
      obtain rfl := Option.some.inj h
      have hs := isString_spec hc.1
      obtain ⟨el, h1, h2⟩ := isBytes_spec hc.2
      intro G e w he hw
      have hx := he x
      rw [hxe] at hx
      simp only [execOp, ho, Sem.run_bind]
      generalize e x = vx at hx
      cases hx
      rw [Lib.run_convert_string_bytes w src dst el t hs h1 h2]
      simp only [Result.andThen_ok, Sem.run_pure]
      have hb := below_bytes w el t
      have hl := Le.addSt hw hb (fun β _ => β = w.heap.size) fun β o e => by subst e; exact Nat.le_refl _
      refine ⟨bytesAV t.data.toList, _, σ, hl, hw.addSt hb _ (fun β o e => by subst e; exact ⟨Nat.le_refl _, by rw [Lib.bytesWorld_size]; omega⟩), ?_, hr⟩
      have hlen : (t.data.toList.map vbyte).length = t.size := by simp
      have := Rep.vsl (G := G.addSt fun β _ => β = w.heap.size) (w := Lib.bytesWorld w el t) (t.data.toList.map vbyte) w.heap.size 0 1 (grownCap w t.size 0 el) (fun i _ => .int .u8 (t.data.toList.getD i 0).toNat) (by rw [hlen]; exact grownCap_ge _ _ _ _)
        (fun i x hx => by
          simp only [List.getElem?_map, Option.map_eq_some_iff] at hx
          obtain ⟨b, _, rfl⟩ := hx
          rfl) (fun i j c hc => by
          unfold rowCell at hc
          obtain ⟨y, hy, hj⟩ := Option.bind_eq_some_iff.1 hc
          simp only [List.getElem?_map, Option.map_eq_some_iff] at hy
          obtain ⟨b, hb, rfl⟩ := hy
          have hi := (List.getElem?_eq_some_iff.1 hb).1
          cases j with
          | succ j => cases hj
          | zero =>
            refine ⟨.inr rfl, ?_⟩
            have := Lib.bytesWorld_cell w el t i (by simpa using hi)
            simpa using this) (fun i j c hc => by
          unfold rowCell at hc
          obtain ⟨y, hy, hj⟩ := Option.bind_eq_some_iff.1 hc
          simp only [List.getElem?_map, Option.map_eq_some_iff] at hy
          obtain ⟨b, hb, rfl⟩ := hy
          cases j with
          | succ j => cases hj
          | zero =>
            obtain rfl := Option.some.inj hj
            simp only [List.getD, hb, Option.getD_some]
            exact .p _)
      rw [hlen] at this
      exact this
    · simp only [Option.map_eq_some_iff] at h
      obtain ⟨v, hv, rfl⟩ := h
      exact opq_convert ho (by first | exact hv | (rw [hxe]; exact hv)) hr
  · simp only [Option.map_eq_some_iff] at h
    obtain ⟨v, hv, rfl⟩ := h
    exact opq_convert ho hv hr
end Go.AL
