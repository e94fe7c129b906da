/-
  DERIVED: THE SHELF's CONTRACTS AT THIS DUMP, IN PLAIN WORDS (tools/lay-plain.mjs out of 'YtjldlcakinmajaaSlsoft.lean', which tools/lay-shelf.mjs wrote): THE SAME DECLARATIONS UNDER THE SAME NAMES: 'import', 'namespace', 'open', 'def', 'theorem' AND NOTHING ELSE: no command of the shelf's: FOR A HAND-IN. Each laying: the table of numbers ('.._ren') and one theorem, a field a fact of the dump's own or the kernel's comparison; each contract: ONE APPLICATION.
-/
import Derived.Shelf.SlIter.Nil
import Derived.Shelf.SortM.Plain
import Derived.Shelf.SortM.SortNone
import Derived.Ground.GgzProg
import Derived.Ground.SlgmProg
import Derived.Test.YtjldlcakinmajaaProg
import Derived.Test.YtjldlcakinmajaaZBranchPlays12
import Derived.Test.YtjldlcakinmajaaZBranchPlays9
namespace Go.Proofs
open Go.Shelf
def Try.keysA_ren : Go.Shelf.Ren := ⟨fun | 7 => 50 | 10 => 74 | n => n, fun | 23 => 101 | 26 => 9 | 3 => 3 | 28 => 110 | 0 => 0 | 27 => 109 | 33 => 69 | 4 => 4 | n => n, fun | n => n⟩
theorem Try.keysA : Go.Proofs.SlLaysZ.n7 Try.prog Try.keysA_ren := {
  mixed := by kernel_rfl
  f7 := ⟨Try.f50.name, by decide, Try.func50.trans (congrArg some (by kernel_rfl))⟩
  f10 := ⟨Try.f74.name, by decide, Try.func74.trans (congrArg some (by kernel_rfl))⟩
  t0 := Try.underlying0
  a0 := Try.isAgg0
  z0 := Try.sizeOf0
  v0 := Try.zeroValue0
  t4 := Try.underlying4
  a4 := Try.isAgg4
  z4 := Try.sizeOf4
  v4 := Try.zeroValue4
  t23 := Try.underlying101
  a23 := Try.isAgg101
  z23 := Try.sizeOf101
  v23 := Try.zeroValue101
  t26 := Try.underlying9
  a26 := Try.isAgg9
  z26 := Try.sizeOf9
  v26 := Try.zeroValue9
  t27 := Try.underlying109
  a27 := Try.isAgg109
  z27 := Try.sizeOf109
  v27 := Try.zeroValue109
  t28 := Try.underlying110
  a28 := Try.isAgg110
  z28 := Try.sizeOf110
  v28 := Try.zeroValue110
  t33 := Try.underlying69
  a33 := Try.isAgg69
  z33 := Try.sizeOf69
  v33 := Try.zeroValue69 }
def Try.sortedA_ren : Go.Shelf.Ren := ⟨fun | 6 => 49 | 8 => 72 | 9 => 73 | 11 => 98 | 13 => 100 | 12 => 99 | 23 => 146 | 24 => 147 | 14 => 137 | 15 => 138 | 16 => 139 | 17 => 140 | 18 => 141 | 19 => 142 | 20 => 143 | 21 => 144 | 22 => 145 | 25 => 162 | 26 => 163 | 27 => 164 | 28 => 165 | 29 => 166 | 30 => 167 | 31 => 173 | n => n, fun | 26 => 9 | 28 => 110 | 24 => 70 | 0 => 0 | 3 => 3 | 37 => 160 | 48 => 186 | 50 => 84 | 4 => 4 | 40 => 179 | 39 => 178 | 45 => 107 | 5 => 5 | 9 => 9 | 51 => 198 | 55 => 202 | 57 => 210 | 58 => 211 | 33 => 69 | n => n, fun | n => n⟩
theorem Try.sortedA : Go.Proofs.SlLaysZ.n6 Try.prog Try.sortedA_ren := {
  mixed := by kernel_rfl
  f6 := ⟨Try.f49.name, by decide, Try.func49.trans (congrArg some (by kernel_rfl))⟩
  f8 := ⟨Try.f72.name, by decide, Try.func72.trans (congrArg some (by kernel_rfl))⟩
  f11 := ⟨Try.f98.name, by decide, Try.func98.trans (congrArg some (by kernel_rfl))⟩
  t0 := Try.underlying0
  a0 := Try.isAgg0
  z0 := Try.sizeOf0
  v0 := Try.zeroValue0
  t24 := Try.underlying70
  a24 := Try.isAgg70
  z24 := Try.sizeOf70
  v24 := Try.zeroValue70
  t26 := Try.underlying9
  a26 := Try.isAgg9
  z26 := Try.sizeOf9
  v26 := Try.zeroValue9
  t28 := Try.underlying110
  a28 := Try.isAgg110
  z28 := Try.sizeOf110
  v28 := Try.zeroValue110
  i26 := by kernel_rfl }
def Try.sortA_ren : Go.Shelf.Ren := ⟨fun | 6 => 73 | 8 => 100 | 9 => 99 | 19 => 146 | 20 => 147 | 21 => 137 | 22 => 138 | 23 => 139 | 24 => 140 | 25 => 141 | 26 => 142 | 27 => 143 | 28 => 144 | 29 => 145 | 36 => 162 | 31 => 163 | 32 => 164 | 37 => 165 | 38 => 166 | 39 => 167 | 41 => 173 | n => n, fun | 27 => 70 | 29 => 9 | 3 => 3 | 32 => 160 | 26 => 70 | 0 => 0 | 44 => 186 | 46 => 84 | 4 => 4 | 36 => 179 | 35 => 178 | 41 => 107 | 5 => 5 | 9 => 9 | 53 => 198 | 57 => 202 | 63 => 210 | 64 => 211 | n => n, fun | n => n⟩
theorem Try.sortA : Go.Proofs.SlLaysM.n6 Try.prog Try.sortA_ren := {
  mixed := by kernel_rfl
  f6 := ⟨Try.f73.name, by decide, Try.func73.trans (congrArg some (by kernel_rfl))⟩
  f8 := Try.func100.trans (congrArg some (by kernel_rfl))
  f9 := ⟨Try.f99.name, by decide, Try.func99.trans (congrArg some (by kernel_rfl))⟩
  f19 := Try.func146.trans (congrArg some (by kernel_rfl))
  f20 := Try.func147.trans (congrArg some (by kernel_rfl))
  f21 := ⟨Try.f137.name, by decide, Try.func137.trans (congrArg some (by kernel_rfl))⟩
  f22 := ⟨Try.f138.name, by decide, Try.func138.trans (congrArg some (by kernel_rfl))⟩
  f23 := ⟨Try.f139.name, by decide, Try.func139.trans (congrArg some (by kernel_rfl))⟩
  f24 := ⟨Try.f140.name, by decide, Try.func140.trans (congrArg some (by kernel_rfl))⟩
  f25 := ⟨Try.f141.name, by decide, Try.func141.trans (congrArg some (by kernel_rfl))⟩
  f26 := ⟨Try.f142.name, by decide, Try.func142.trans (congrArg some (by kernel_rfl))⟩
  f27 := ⟨Try.f143.name, by decide, Try.func143.trans (congrArg some (by kernel_rfl))⟩
  f28 := ⟨Try.f144.name, by decide, Try.func144.trans (congrArg some (by kernel_rfl))⟩
  f29 := ⟨Try.f145.name, by decide, Try.func145.trans (congrArg some (by kernel_rfl))⟩
  f31 := Try.func163.trans (congrArg some (by kernel_rfl))
  f32 := Try.func164.trans (congrArg some (by kernel_rfl))
  f36 := ⟨Try.f162.name, by decide, Try.func162.trans (congrArg some (by kernel_rfl))⟩
  f37 := ⟨Try.f165.name, by decide, Try.func165.trans (congrArg some (by kernel_rfl))⟩
  f38 := ⟨Try.f166.name, by decide, Try.func166.trans (congrArg some (by kernel_rfl))⟩
  f39 := ⟨Try.f167.name, by decide, Try.func167.trans (congrArg some (by kernel_rfl))⟩
  f41 := ⟨Try.f173.name, by decide, Try.func173.trans (congrArg some (by kernel_rfl))⟩
  t0 := Try.underlying0
  a0 := Try.isAgg0
  z0 := Try.sizeOf0
  v0 := Try.zeroValue0
  t3 := Try.underlying3
  a3 := Try.isAgg3
  z3 := Try.sizeOf3
  v3 := Try.zeroValue3
  t4 := Try.underlying4
  a4 := Try.isAgg4
  z4 := Try.sizeOf4
  v4 := Try.zeroValue4
  t5 := Try.underlying5
  a5 := Try.isAgg5
  z5 := Try.sizeOf5
  v5 := Try.zeroValue5
  t9 := Try.underlying9
  a9 := Try.isAgg9
  z9 := Try.sizeOf9
  v9 := Try.zeroValue9
  t26 := Try.underlying70
  a26 := Try.isAgg70
  z26 := Try.sizeOf70
  v26 := Try.zeroValue70
  t27 := Try.underlying70
  a27 := Try.isAgg70
  z27 := Try.sizeOf70
  v27 := Try.zeroValue70
  t29 := Try.underlying9
  a29 := Try.isAgg9
  z29 := Try.sizeOf9
  v29 := Try.zeroValue9
  t32 := Try.underlying160
  a32 := Try.isAgg160
  z32 := Try.sizeOf160
  v32 := Try.zeroValue160
  t35 := Try.underlying178
  a35 := Try.isAgg178
  z35 := Try.sizeOf178
  v35 := Try.zeroValue178
  t36 := Try.underlying179
  a36 := Try.isAgg179
  z36 := Try.sizeOf179
  v36 := Try.zeroValue179
  t41 := Try.underlying107
  a41 := Try.isAgg107
  z41 := Try.sizeOf107
  v41 := Try.zeroValue107
  t44 := Try.underlying186
  a44 := Try.isAgg186
  z44 := Try.sizeOf186
  v44 := Try.zeroValue186
  t46 := Try.underlying84
  a46 := Try.isAgg84
  z46 := Try.sizeOf84
  v46 := Try.zeroValue84
  t53 := Try.underlying198
  a53 := Try.isAgg198
  z53 := Try.sizeOf198
  v53 := Try.zeroValue198
  t57 := Try.underlying202
  a57 := Try.isAgg202
  z57 := Try.sizeOf202
  v57 := Try.zeroValue202
  t63 := Try.underlying210
  a63 := Try.isAgg210
  z63 := Try.sizeOf210
  v63 := Try.zeroValue210
  t64 := Try.underlying211
  a64 := Try.isAgg211
  z64 := Try.sizeOf211
  v64 := Try.zeroValue211 }
end Go.Proofs
/-! slices.Sorted over maps.Keys at this dump. -/
namespace Go.Proofs
open Go.RowKit Go.Maps Go.Sort Go.Shelf
theorem sorts_keys : Go.AL.SortsKeys Try.prog 49 74 9 := fun Bm b nn D0 w hB hc hown hmax hbytes => by
  refine (callsIn_wide (n := 5)).1 ?_
  have hseq : SeqGives Fence.wide 2 Try.prog 74 #[.pointer (some ⟨Bm, 0, none⟩)] encStr (fun ss => ss.Perm (strKeys D0)) (Maps.size D0) w :=
    AnyZ.keys_gives (ρ := Try.keysA_ren) { Try.keysA with } Fence.wide _ trivial rfl (by omega) Bm b nn D0 w hB hc hown
  have hs : ∀ m, AnyZ.SortsIn Try.prog Try.sortedA_ren Fence.wide m := fun m =>
    ⟨fun blk off cap ss W hH hblk hsz => callsIn_wide.2 (AnyM.slices_Sort_string Try.sortA blk off cap ss W hH hblk hsz), fun p cap W => callsIn_wide.2 (AnyM.slices_Sort_string_none Try.sortA p cap W)⟩
  have cS := AnyZ.sorted_in Try.sortedA Fence.wide 5 trivial trivial trivial trivial rfl (by omega) (hs _) (enters_of Try.func73 (by kernel_rfl) rfl) 74 #[.pointer (some ⟨Bm, 0, none⟩)] trivial (enters_of Try.func74 (by kernel_rfl) rfl) _ _ hmax hbytes _ hseq
  change CallsIn _ _ Try.prog 49 _ _ _ at cS
  exact cS.mono fun e w' ⟨v, ss, h1, h2, h3, _, h5⟩ => ⟨v, ss, h1, h2, h3, h5⟩
end Go.Proofs
/-! Contracts: branch.Table's Heads. -/
namespace Go.AL
open Go.Proofs
set_option linter.unusedSimpArgs false
set_option linter.unusedVariables false
/-- The variable with its map, and a slice of one's own. -/
def tbL (es : List (AV × AV)) (k : Nat) (xs : List AV) (n : Nat) : ASt := ⟨(tbS es).bx, (tbS es).mp, fun i => if i = k then some xs else none, n⟩
@[simp] theorem tbL_bx (es : List (AV × AV)) (k : Nat) (xs : List AV) (n i : Nat) : (tbL es k xs n).bx i = if i = 0 then some [.map 1] else none := rfl
@[simp] theorem tbL_mp (es : List (AV × AV)) (k : Nat) (xs : List AV) (n i : Nat) : (tbL es k xs n).mp i = if i = 1 then some es else none := rfl
@[simp] theorem tbL_sl (es : List (AV × AV)) (k : Nat) (xs : List AV) (n i : Nat) : (tbL es k xs n).sl i = if i = k then some xs else none := rfl
@[simp] theorem tbL_next (es : List (AV × AV)) (k : Nat) (xs : List AV) (n : Nat) : (tbL es k xs n).next = n := rfl
theorem le_tbL {es : List (AV × AV)} {k : Nat} {xs : List AV} {n : Nat} {σ : ASt} (h1 : σ.bx 0 = some [.map 1]) (h2 : σ.mp 1 = some es) (h3 : σ.sl k = some xs) (h4 : σ.next = n) : ASt.Le (tbL es k xs n) σ where
  bx := fun i cs e => by
    simp only [tbL_bx] at e
    split at e
    · rename_i hi; subst hi; rw [h1]; exact e
    · cases e
  mp := fun i cs e => by
    simp only [tbL_mp] at e
    split at e
    · rename_i hi; subst hi; rw [h2]; exact e
    · cases e
  sl := fun i cs e => by
    simp only [tbL_sl] at e
    split at e
    · rename_i hi; subst hi; rw [h3]; exact e
    · cases e
  next := by simp [h4]
def namesB (L : List Br) : List ByteArray := sortS (L.map Prod.fst)
def headsB (L : List Br) : List Int := (namesB L).map fun n => (gotB L n).getD 0
theorem headsB_len (L : List Br) : (headsB L).length = (namesB L).length := List.length_map _
theorem namesB_len (L : List Br) : (namesB L).length = L.length := by
  rw [namesB, sortS, List.length_map, List.length_mergeSort, List.length_map, List.length_map]
set_option maxHeartbeats 8000000 in
set_option maxRecDepth 100000 in
theorem bheads_ok (hS : SortsKeys Try.prog 49 74 9) (L : List Br) (hnd : (L.map Prod.fst).Nodup) (hsz : ∀ s ∈ L.map Prod.fst, s.size ≤ 9223372036854775807) (hL : L.length ≤ 1000000) :
    TC Try.prog 31 [] (hes L) (.vsl ((headsB L).map vi)) (hes L) := by
  have hn := bnames_ok hS L hnd hsz hL
  have hlen := namesB_len L
  have hhl := headsB_len L
  change TC _ _ _ _ (.vsl ((namesB L).map vs)) _ at hn
  have hvl : ((namesB L).map vs).length = (namesB L).length := List.length_map _
  refine tc_in Try.func31 Try.ntmps31 rfl ?_
  repeat' first | refine aw_N [] @hvl trivial ?_ | refine aw_cond rfl (fun h => ?_) (fun h => ?_)
  refine awl_tab0 [] rfl hn rfl rfl rfl rfl (by simp) (by simp) ?_
  simp -implicitDefEqProofs
  repeat' first | refine aw_N [] @hvl trivial ?_ | refine aw_cond rfl (fun h => ?_) (fun h => ?_)
  refine aw_open (i := 3) rfl ?_
  refine aw_loopW [0, 3, 7, 8, 9] (fun q fr σ => ∃ k m i : Nat, i + q = (namesB L).length ∧ 2 ≤ k ∧ k < m ∧ σ = tbL (hes L) k (((headsB L).map vi).take i) m ∧ fr = frm 24 [(0, .ptr 0 0), (3, .hsl k 0 i), (7, .vsl ((namesB L).map vs)), (8, vi ((namesB L).length : Nat)), (9, vi (i : Nat))]) (namesB L).length ?_ ?_
  · refine ⟨_, le_tbL (es := hes L) (k := 2) (xs := []) rfl rfl (by simp) rfl, 2, 3, 0, by omega, by omega, by omega, rfl, ?_⟩
    simp
  · rintro q fr σ ⟨k, m, i, hi, hk2, hkm, rfl, rfl⟩
    simp -implicitDefEqProofs
    by_cases hlt : i < (namesB L).length
    · have hlti : (i : Int) < (namesB L).length := by omega
      obtain ⟨n, hp⟩ : ∃ n, (namesB L)[i]? = some n := ⟨_, List.getElem?_eq_getElem hlt⟩
      have hg : ((namesB L).map vs)[i]? = some (vs n) := by rw [List.getElem?_map, hp]; rfl
      have wi : IntKind.i64.wrap ((i : Int) + 1) = (i : Int) + 1 := wrap_id (by omega) (by omega)
      have hla : i < ((namesB L).map vs).length := by omega
      have hI := isIt_hes L
      repeat' first | refine aw_N [] (And.intro @hlti (And.intro @hvl (And.intro @hg (And.intro @hla (And.intro @wi @hI))))) trivial ?_ | refine aw_cond rfl (fun h => ?_) (fun h => ?_)
      refine awl_lookupQ [] rfl rfl tbT rfl (es := hes L) (by simp) (kv := .string n) rfl (find_hes n L 0) (x := vi ((gotB L n).getD 0)) (fun j y e => by
        obtain ⟨_, _, e⟩ := Option.map_eq_some_iff.1 e
        cases e; rfl) (fun e => by
        rw [ixB_none (Option.map_eq_none_iff.1 e)]; exact tz3) ?_
      simp -implicitDefEqProofs
      have hxl : (((headsB L).map vi).take i).length = i := by simp; omega
      repeat' first | refine aw_N [] trivial trivial ?_ | refine aw_cond rfl (fun h => ?_) (fun h => ?_)
      refine awl_append [] rfl rfl rfl (xs := ((headsB L).map vi).take i) (by simp) (by simp; omega) rfl (by simp) te72 tet72 tz3 rfl (fun y hy => by
        obtain ⟨_, _, rfl⟩ := List.mem_map.1 (List.mem_of_mem_take hy)
        rfl) (by simp) (by simp; omega) (by simp; omega) ?_
      simp -implicitDefEqProofs
      repeat' first | refine aw_N [] @wi trivial ?_ | refine aw_cond rfl (fun h => ?_) (fun h => ?_)
      have hx : ((headsB L).map vi).take (i + 1) = ((headsB L).map vi).take i ++ [vi ((gotB L n).getD 0)] := by
        rw [List.take_add_one, List.getElem?_map, headsB, List.getElem?_map, hp]; rfl
      refine ⟨q - 1, by omega, _, le_tbL (es := hes L) (k := m) (xs := ((headsB L).map vi).take i ++ [vi ((gotB L n).getD 0)]) (n := m + 1) (by simp) (by simp) (by simp [List.take_take]) (by simp), m, m + 1, i + 1, by omega, by omega, by omega, ?_, ?_⟩
      · rw [hx]
      · simp
    · have hlti : ¬ (i : Int) < (namesB L).length := by omega
      refine aw_freeze (b := k) (xs := ((headsB L).map vi).take i) (by simp) ?_
      have hxl : (((headsB L).map vi).take i).length = i := by simp; omega
      have hxt : ((headsB L).map vi).take i = (headsB L).map vi := List.take_of_length_le (by simp; omega)
      simp -implicitDefEqProofs [frz, frz1, frz0, hxl]
      repeat' first | refine aw_N [] (And.intro @hlti @hvl) trivial ?_ | refine aw_cond rfl (fun h => ?_) (fun h => ?_)
      refine ⟨?_, rfl, rfl⟩
      rw [List.take_take, Nat.min_self, hxt]; rfl
end Go.AL
/-! Contracts: gridironlaw17.same; branch.New; no table. -/
namespace Go.AL
open Go.Proofs
set_option linter.unusedSimpArgs false
set_option linter.unusedVariables false
set_option maxHeartbeats 8000000 in
set_option maxRecDepth 100000 in
theorem bnewT_ok (σ : ASt) : ACall Try.prog 20 [] σ fun r τ => r = .ptr (σ.next + 1) 0 ∧ τ = (σ.addMp []).addBx [.map σ.next] := by
  refine acall_of Try.func20 Try.ntmps20 rfl ?_
  simp only [List.length_cons, List.length_nil, List.cons_append, List.nil_append, List.replicate]
  repeat' first | refine aw_N [] trivial trivial ?_ | refine aw_cond rfl (fun h => ?_) (fun h => ?_)
  refine awl_makeMap [3] rfl rfl ?_
  simp -implicitDefEqProofs
  repeat' first | refine aw_N [3] trivial trivial ?_ | refine aw_cond rfl (fun h => ?_) (fun h => ?_)
  exact ⟨rfl, rfl⟩
/-- The table number 1, with its map number 0. -/
def tb2 (es : List (AV × AV)) : ASt := ⟨fun i => if i = 1 then some [.map 0] else none, fun i => if i = 0 then some es else none, fun _ => none, 2⟩
@[simp] theorem tb2_bx (es : List (AV × AV)) (i : Nat) : (tb2 es).bx i = if i = 1 then some [.map 0] else none := rfl
@[simp] theorem tb2_mp (es : List (AV × AV)) (i : Nat) : (tb2 es).mp i = if i = 0 then some es else none := rfl
@[simp] theorem tb2_sl (es : List (AV × AV)) (i : Nat) : (tb2 es).sl i = none := rfl
@[simp] theorem tb2_next (es : List (AV × AV)) : (tb2 es).next = 2 := rfl
theorem tb2_upd (es es' : List (AV × AV)) : ({ tb2 es with mp := upd (tb2 es).mp 0 (some es') } : ASt) = tb2 es' := by
  have h : upd (tb2 es).mp 0 (some es') = (tb2 es').mp := by
    funext i
    by_cases h : i = 0
    · subst h; simp [upd]
    · simp [upd, h]
  show ASt.mk (tb2 es).bx (upd (tb2 es).mp 0 (some es')) (tb2 es).sl (tb2 es).next = _
  rw [h]; rfl
theorem tb2_new : (σ0.addMp []).addBx [.map σ0.next] = tb2 (hes []) := by
  have h1 : upd σ0.mp 0 (some []) = (tb2 (hes [])).mp := by
    funext i
    by_cases h : i = 0
    · subst h; rfl
    · simp [upd, h, σ0]
  have h2 : upd σ0.bx 1 (some [.map 0]) = (tb2 (hes [])).bx := by
    funext i
    by_cases h : i = 1
    · subst h; rfl
    · simp [upd, h, σ0]
  show ASt.mk (upd σ0.bx 1 (some [.map 0])) (upd σ0.mp 0 (some [])) σ0.sl 2 = _
  rw [h1, h2]; rfl
theorem le_tb2 {es : List (AV × AV)} : ASt.Le (tb2 es) (tb2 es) := ⟨fun _ _ e => e, fun _ _ e => e, fun _ _ e => e, Nat.le_refl _⟩
section
variable {P : Program} {D : List Deferred} {Q : Exit → List AV → ASt → Prop} {fr : List AV} {ops : Array Oper} {o : Oper} {rest : List Oper}
theorem awl_tab2 {f : Operand} {aa : Array Operand} {ts : Array TypeId} (mu : List Nat) (ho : o.op = .call { callee := .value f, args := aa, argTypes := ts })
    {F : FuncId} {args : List AV} {L L' : List Br} {r : AV} (h : TC P F args (hes L) r (hes L')) (hw : awanted ops o fr = some true) {first cap : List AV} (hf : acallee (aev fr f) = some (F, first, cap)) (hc : callable P F = true) (he : first ++ aa.toList.map (aev fr) ++ cap = .ptr 1 0 :: args) (ha : ∀ a ∈ args, Cl a) (hr : Cl r)
    (hk : Shut (ARun P D ops Q mu rest (aput fr o.dst r) (tb2 (hes L')))) : AWL P D ops Q (o :: rest) fr (tb2 (hes L)) :=
  awl_tab mu ho hw hf hc h he ha hr (cl_hes L) (cl_hes L') (by omega) rfl rfl ⟨rfl, rfl, rfl, rfl⟩ (by rw [tb2_upd]; exact hk)
theorem awl_new2 {f : Operand} {aa : Array Operand} {ts : Array TypeId} (mu : List Nat) (ho : o.op = .call { callee := .value f, args := aa, argTypes := ts }) (hw : awanted ops o fr = some true) {first cap : List AV} {F : FuncId} (hN : ∀ σ, ACall P F [] σ fun r τ => r = .ptr (σ.next + 1) 0 ∧ τ = (σ.addMp []).addBx [.map σ.next]) (hf : acallee (aev fr f) = some (F, first, cap)) (hc : callable P F = true) (he : first ++ aa.toList.map (aev fr) ++ cap = [])
    (hk : Shut (ARun P D ops Q mu rest (aput fr o.dst (.ptr 1 0)) (tb2 (hes [])))) : AWL P D ops Q (o :: rest) fr σ0 :=
  awl_cons hw (opq_call ho hf hc (by rw [he]; exact (hN σ0).mono fun r τ ⟨e1, e2⟩ => by subst e1; subst e2; rw [tb2_new]; exact awl_run' mu hk))
end
abbrev pnil : AV := .p (.pointer none)
set_option maxHeartbeats 8000000 in
set_option maxRecDepth 100000 in
theorem bheadN_ok (n : ByteArray) : APure Try.prog 23 [pnil, vs n] (.tup [vi 0, vi 1]) := by
  refine apure_in Try.func23 Try.ntmps23 rfl ?_
  repeat' first | refine aw_N [] trivial trivial ?_ | refine aw_cond rfl (fun h => ?_) (fun h => ?_)
  all_goals simp [tupOf]
set_option maxHeartbeats 8000000 in
set_option maxRecDepth 100000 in
theorem bdropN_ok (n : ByteArray) : APure Try.prog 21 [pnil, vs n] (vi 1) := by
  have h := bheadN_ok n
  refine apure_in Try.func21 Try.ntmps21 rfl ?_
  repeat' first | refine aw_N [] trivial (And.intro @h trivial) ?_ | refine aw_cond rfl (fun h => ?_) (fun h => ?_)
  all_goals simp [tupOf]
set_option maxHeartbeats 8000000 in
set_option maxRecDepth 100000 in
theorem bsetN_ok (n : ByteArray) (hn : n.size ≤ 9223372036854775807) (h : Int) : APure Try.prog 25 [pnil, vs n, vi h] (vi 1) := by
  have hr := bright_ok n hn
  refine apure_in Try.func25 Try.ntmps25 rfl ?_
  repeat' first | refine aw_N [] trivial (And.intro @hr trivial) ?_ | refine aw_cond rfl (fun h => ?_) (fun h => ?_)
  all_goals simp [tupOf]
set_option maxHeartbeats 8000000 in
theorem bnamesN_ok : APure Try.prog 30 [pnil] (.p (.slice none 0 0)) := by
  refine apure_in Try.func30 Try.ntmps30 rfl ?_
  repeat' first | refine aw_N [] trivial trivial ?_ | refine aw_cond rfl (fun h => ?_) (fun h => ?_)
  all_goals simp [tupOf]
set_option maxHeartbeats 8000000 in
set_option maxRecDepth 100000 in
theorem bheadsN_ok : APure Try.prog 31 [pnil] (.p (.slice none 0 0)) := by
  have h := bnamesN_ok
  refine apure_in Try.func31 Try.ntmps31 rfl ?_
  repeat' first | refine aw_N [] trivial (And.intro @h trivial) ?_ | refine aw_cond rfl (fun h => ?_) (fun h => ?_)
  refine aw_loopW [0, 2, 3, 8, 9] (fun q fr σ => σ = mkSt [] [] 0 ∧ fr = frm 24 [(0, pnil), (2, .p (.slice none 0 0)), (3, .p (.slice none 0 0)), (8, vi 0), (9, vi 0)]) 0 ?_ ?_
  · exact ⟨_, le_mkSt (bs := []) (ss := []) (n := 0) (by simp) (by simp) (by simp [σ0]), rfl, by simp⟩
  · rintro q fr σ ⟨rfl, rfl⟩
    simp -implicitDefEqProofs
    repeat' first | refine aw_N [] trivial trivial ?_ | refine aw_cond rfl (fun h => ?_) (fun h => ?_)
    all_goals simp [tupOf]
end Go.AL
/-! Contracts: gridironlaw17.alive, fits, same. -/
namespace Go.AL
open Go.Proofs
set_option linter.unusedSimpArgs false
set_option linter.unusedVariables false
theorem bset_to {L L' : List Br} {n : ByteArray} {h e : Int} (hL : L.length ≤ 1000000) (hn : n.size ≤ 9223372036854775807) (he : setE L n = e) (hl : (if setE L n = 0 then putB L n h else L) = L') : TC Try.prog 25 [vs n, vi h] (hes L) (vi e) (hes L') := by
  subst he hl
  exact bset_ok L hL n hn h
theorem bdrop_to {L L' : List Br} {n : ByteArray} {e : Int} (he : (if (gotB L n).isSome = true then (0 : Int) else 4) = e) (hl : delB L n = L') : TC Try.prog 21 [vs n] (hes L) (vi e) (hes L') := by
  subst he hl
  exact bdrop_ok L n
def mainT : ByteArray := ⟨#[109, 97, 105, 110]⟩
def a1T : ByteArray := ⟨#[97, 49]⟩
set_option maxHeartbeats 8000000 in
set_option maxRecDepth 100000 in
theorem alive17_ok : APure Try.prog 19 [] (vb true) := by
  have s1 : TC Try.prog 25 [vs mainT, vi 7] (hes []) (vi 0) (hes [(mainT, 7)]) := bset_to (by decide) (by decide) (by decide +kernel) (by decide +kernel)
  have s2 : TC Try.prog 25 [vs a1T, vi 8] (hes [(mainT, 7)]) (vi 0) (hes [(mainT, 7), (a1T, 8)]) := bset_to (by decide) (by decide) (by decide +kernel) (by decide +kernel)
  have s3 : TC Try.prog 25 [vs mainT, vi 9] (hes [(mainT, 7), (a1T, 8)]) (vi 0) (hes [(mainT, 9), (a1T, 8)]) := bset_to (by decide) (by decide) (by decide +kernel) (by decide +kernel)
  have s4 : TC Try.prog 25 [vs ⟨#[49, 97]⟩, vi 9] (hes [(mainT, 9), (a1T, 8)]) (vi 1) (hes [(mainT, 9), (a1T, 8)]) := bset_to (by decide) (by decide) (by decide +kernel) (by decide +kernel)
  have s5 : TC Try.prog 23 [vs mainT] (hes [(mainT, 9), (a1T, 8)]) (.tup [vi 9, vi 0]) (hes [(mainT, 9), (a1T, 8)]) := bhead_ok [(mainT, 9), (a1T, 8)] mainT
  have s6 : TC Try.prog 21 [vs a1T] (hes [(mainT, 9), (a1T, 8)]) (vi 0) (hes [(mainT, 9)]) := bdrop_to (by decide +kernel) (by decide +kernel)
  have s7 : TC Try.prog 21 [vs a1T] (hes [(mainT, 9)]) (vi 4) (hes [(mainT, 9)]) := bdrop_to (by decide +kernel) (by decide +kernel)
  have s8 : TC Try.prog 30 [] (hes [(mainT, 9)]) (.vsl [vs mainT]) (hes [(mainT, 9)]) := by
    have e : sortS [mainT] = [mainT] := by simp [sortS, List.mergeSort]
    have := bnames_ok sorts_keys [(mainT, 9)] (by simp) (by intro s hs; simp at hs; subst hs; decide) (by decide)
    simp only [List.map_cons, List.map_nil, e] at this
    exact this
  have r1 := bright_ok ⟨#[97, 98, 99, 100, 101, 102, 103, 104, 105, 106, 107, 57]⟩ (by decide)
  have r2 := bright_ok ⟨#[97, 98, 99, 100, 101, 102, 103, 104, 105, 106, 107, 108, 109]⟩ (by decide)
  rw [show nameP ⟨#[97, 98, 99, 100, 101, 102, 103, 104, 105, 106, 107, 57]⟩ = true by decide +kernel] at r1
  rw [show nameP ⟨#[97, 98, 99, 100, 101, 102, 103, 104, 105, 106, 107, 108, 109]⟩ = false by decide +kernel] at r2
  refine apure_in Try.func19 Try.ntmps19 rfl ?_
  repeat' first | refine aw_N [] trivial trivial ?_ | refine aw_cond rfl (fun h => ?_) (fun h => ?_)
  refine awl_new2 [] rfl rfl bnewT_ok rfl rfl rfl ?_
  simp -implicitDefEqProofs
  repeat' first | refine aw_N [] trivial trivial ?_ | refine aw_cond rfl (fun h => ?_) (fun h => ?_)
  refine awl_tab2 [] rfl s1 rfl rfl rfl rfl (by simp) (by simp) ?_
  simp -implicitDefEqProofs
  repeat' first | refine aw_N [] trivial trivial ?_ | refine aw_cond rfl (fun h => ?_) (fun h => ?_)
  refine awl_tab2 [] rfl s2 rfl rfl rfl rfl (by simp) (by simp) ?_
  simp -implicitDefEqProofs
  repeat' first | refine aw_N [] trivial trivial ?_ | refine aw_cond rfl (fun h => ?_) (fun h => ?_)
  refine awl_tab2 [] rfl s3 rfl rfl rfl rfl (by simp) (by simp) ?_
  simp -implicitDefEqProofs
  repeat' first | refine aw_N [] trivial trivial ?_ | refine aw_cond rfl (fun h => ?_) (fun h => ?_)
  refine awl_tab2 [] rfl s4 rfl rfl rfl rfl (by simp) (by simp) ?_
  simp -implicitDefEqProofs
  repeat' first | refine aw_N [] trivial trivial ?_ | refine aw_cond rfl (fun h => ?_) (fun h => ?_)
  refine awl_tab2 [] rfl s5 rfl rfl rfl rfl (by simp) (by simp) ?_
  simp -implicitDefEqProofs
  repeat' first | refine aw_N [] trivial trivial ?_ | refine aw_cond rfl (fun h => ?_) (fun h => ?_)
  refine awl_tab2 [] rfl s6 rfl rfl rfl rfl (by simp) (by simp) ?_
  simp -implicitDefEqProofs
  repeat' first | refine aw_N [] trivial trivial ?_ | refine aw_cond rfl (fun h => ?_) (fun h => ?_)
  refine awl_tab2 [] rfl s7 rfl rfl rfl rfl (by simp) (by simp) ?_
  simp -implicitDefEqProofs
  repeat' first | refine aw_N [] trivial trivial ?_ | refine aw_cond rfl (fun h => ?_) (fun h => ?_)
  refine awl_tab2 [] rfl s8 rfl rfl rfl rfl (by simp) (by simp) ?_
  simp -implicitDefEqProofs
  repeat' first | refine aw_N [] trivial (And.intro @r1 (And.intro @r2 trivial)) ?_ | refine aw_cond rfl (fun h => ?_) (fun h => ?_)
  simp [tupOf, mainT]
end Go.AL
/-! Contracts: gridironlaw17.fits, same. -/
namespace Go.AL
open Go.Proofs
set_option linter.unusedSimpArgs false
set_option linter.unusedVariables false
abbrev Act := Int × ByteArray × Int
def act (p : Act) : AV := .agg [.p (.int .u8 p.1), vs p.2.1, vi p.2.2]
def acts (l : List Act) : List AV := l.map act
@[simp] theorem cl_acts (l : List Act) : (∀ c ∈ acts l, Cl c) = True := eq_true fun c hc => by
  obtain ⟨p, _, rfl⟩ := List.mem_map.1 hc
  exact .agg _ (by simp)
theorem acts_len (l : List Act) : (acts l).length = l.length := List.length_map _
theorem acts_get {l : List Act} {i : Nat} {k : Int} {a : ByteArray} {n : Int} (h : l[i]? = some (k, a, n)) : (acts l)[i]? = some (.agg [.p (.int .u8 k), vs a, vi n]) := by rw [acts, List.getElem?_map, h]; rfl
def allA (l : List Act) : Bool := l.all fun p => decide (p.2.1.size ≤ 100)
theorem allA_cons (k : Int) (a : ByteArray) (h : Int) (l : List Act) : allA ((k, a, h) :: l) = (decide (a.size ≤ 100) && allA l) := rfl
theorem allA_nil : allA [] = true := rfl
def fitsA (l : List Act) : Bool := decide (l.length ≤ 100) && allA l
set_option maxHeartbeats 8000000 in
set_option maxRecDepth 100000 in
theorem fits17_ok (l : List Act) : APure Try.prog 18 [.vsl (acts l)] (vb (fitsA l)) := by
  have hvl := acts_len l
  unfold fitsA
  by_cases h100 : l.length ≤ 100
  · have h100' : ¬ (100 : Int) < l.length := by omega
    refine apure_in Try.func18 Try.ntmps18 rfl ?_
    repeat' first | refine aw_N [] (And.intro @hvl @h100') trivial ?_ | refine aw_cond rfl (fun h => ?_) (fun h => ?_)
    refine aw_loopW [0, 3] (fun q fr σ => ∃ i : Nat, i + q = l.length ∧ allA l = allA (l.drop i) ∧ σ = mkSt [] [] 0 ∧ fr = frm 20 [(0, .vsl (acts l)), (3, vi (i : Nat))]) l.length ?_ ?_
    · exact ⟨_, le_mkSt (bs := []) (ss := []) (n := 0) (by simp) (by simp) (by simp [σ0]), 0, by omega, rfl, rfl, by simp⟩
    · rintro q fr σ ⟨i, hi, hk, rfl, rfl⟩
      simp -implicitDefEqProofs
      by_cases hlt : i < l.length
      · have hlti : (i : Int) < l.length := by omega
        obtain ⟨⟨k, a, h⟩, hp⟩ : ∃ p, l[i]? = some p := ⟨_, List.getElem?_eq_getElem hlt⟩
        have hg := acts_get hp
        have wi : IntKind.i64.wrap ((i : Int) + 1) = (i : Int) + 1 := wrap_id (by omega) (by omega)
        have hla : i < (acts l).length := by omega
        have hc : l.drop i = (k, a, h) :: l.drop (i + 1) := by
          rw [List.drop_eq_getElem_cons hlt]
          congr 1
          exact Option.some.inj ((List.getElem?_eq_getElem hlt).symm.trans hp)
        rw [hc, allA_cons] at hk
        by_cases ha : a.size ≤ 100
        · have ha' : ¬ (100 : Int) < a.size := by omega
          repeat' first | refine aw_N [] (And.intro @hlti (And.intro @hvl (And.intro @hg (And.intro @hla (And.intro @wi @ha'))))) trivial ?_ | refine aw_cond rfl (fun h => ?_) (fun h => ?_)
          refine ⟨q - 1, by omega, _, le_mkSt (bs := []) (ss := []) (n := 0) (by simp) (by simp) (by simp), i + 1, by omega, ?_, rfl, ?_⟩
          · rw [hk]; simp [ha]
          · simp
        · have ha' : (100 : Int) < a.size := by omega
          repeat' first | refine aw_N [] (And.intro @hlti (And.intro @hvl (And.intro @hg (And.intro @hla @ha')))) trivial ?_ | refine aw_cond rfl (fun h => ?_) (fun h => ?_)
          simp [tupOf, hk, ha]
      · have hlti : ¬ (i : Int) < l.length := by omega
        rw [List.drop_eq_nil_of_le (by omega)] at hk
        repeat' first | refine aw_N [] (And.intro @hlti @hvl) trivial ?_ | refine aw_cond rfl (fun h => ?_) (fun h => ?_)
        simp [tupOf, hk, h100, allA_nil]
  · have h100' : (100 : Int) < l.length := by omega
    refine apure_in Try.func18 Try.ntmps18 rfl ?_
    repeat' first | refine aw_N [] (And.intro @hvl @h100') trivial ?_ | refine aw_cond rfl (fun h => ?_) (fun h => ?_)
    simp [tupOf, h100]
set_option maxHeartbeats 8000000 in
set_option maxRecDepth 100000 in
theorem same17_ok (L M : List Br) (hnd : (L.map Prod.fst).Nodup) (hsz : ∀ s ∈ L.map Prod.fst, s.size ≤ 9223372036854775807) (hL : L.length ≤ 1000000) (hN : namesB L = M.map Prod.fst) (hH : headsB L = M.map Prod.snd) :
    TC Try.prog 27 [.vsl (brs M)] (hes L) (vb true) (hes L) := by
  have hn := bnames_ok sorts_keys L hnd hsz hL
  have hh := bheads_ok sorts_keys L hnd hsz hL
  change TC _ _ _ _ (.vsl ((namesB L).map vs)) _ at hn
  rw [hN] at hn
  rw [hH] at hh
  have hlM : M.length = L.length := by rw [← namesB_len L, hN, List.length_map]
  have hvl := brs_len M
  obtain ⟨V1, hV1⟩ : ∃ V, V = (M.map Prod.fst).map vs := ⟨_, rfl⟩
  obtain ⟨V2, hV2⟩ : ∃ V, V = (M.map Prod.snd).map vi := ⟨_, rfl⟩
  rw [← hV1] at hn
  rw [← hV2] at hh
  have hvn : V1.length = M.length := by simp [hV1]
  have hvh : V2.length = M.length := by simp [hV2]
  have k1 : ∀ c ∈ V1, Cl c := fun c hc => by
    rw [hV1] at hc
    obtain ⟨_, _, rfl⟩ := List.mem_map.1 hc
    exact .p _
  have k2 : ∀ c ∈ V2, Cl c := fun c hc => by
    rw [hV2] at hc
    obtain ⟨_, _, rfl⟩ := List.mem_map.1 hc
    exact .p _
  refine tc_in Try.func27 Try.ntmps27 rfl ?_
  repeat' first | refine aw_W [] trivial trivial ?_ | refine aw_cond rfl (fun h => ?_) (fun h => ?_)
  refine awl_tab0 [] rfl hn rfl rfl rfl rfl (by simp) (.vsl _ k1) ?_
  simp -implicitDefEqProofs
  repeat' first | refine aw_W [] trivial trivial ?_ | refine aw_cond rfl (fun h => ?_) (fun h => ?_)
  refine awl_tab0 [] rfl hh rfl rfl rfl rfl (by simp) (.vsl _ k2) ?_
  simp -implicitDefEqProofs
  repeat' first | refine aw_W [] (And.intro @hvl (And.intro @hvn @hvh)) trivial ?_ | refine aw_cond rfl (fun h => ?_) (fun h => ?_)
  refine aw_loopW [0, 1, 5, 6, 7] (fun q fr σ => ∃ i : Nat, i + q = M.length ∧ σ = tbS (hes L) ∧ fr = frm 52 [(0, .ptr 0 0), (1, .vsl (brs M)), (5, .vsl V1), (6, .vsl V2), (7, vi (i : Nat))]) M.length ?_ ?_
  · refine ⟨_, ⟨fun _ _ e => e, fun _ _ e => e, fun _ _ e => e, Nat.le_refl _⟩, 0, by omega, rfl, ?_⟩
    simp
  · rintro q fr σ ⟨i, hi, rfl, rfl⟩
    simp -implicitDefEqProofs
    by_cases hlt : i < M.length
    · have hlti : (i : Int) < M.length := by omega
      obtain ⟨⟨a, h⟩, hp⟩ : ∃ p, M[i]? = some p := ⟨_, List.getElem?_eq_getElem hlt⟩
      have hg := brs_get hp
      have hg1 : V1[i]? = some (vs a) := by simp [hV1, hp]
      have hg2 : V2[i]? = some (vi h) := by simp [hV2, hp]
      have wi : IntKind.i64.wrap ((i : Int) + 1) = (i : Int) + 1 := wrap_id (by omega) (by omega)
      have hla : i < (brs M).length := by omega
      have hl1 : i < V1.length := by omega
      have hl2 : i < V2.length := by omega
      repeat' first | refine aw_W [] (And.intro @hlti (And.intro @hvl (And.intro @hvn (And.intro @hvh (And.intro @hg (And.intro @hg1 (And.intro @hg2 (And.intro @hla (And.intro @hl1 (And.intro @hl2 @wi)))))))))) trivial ?_ | refine aw_cond rfl (fun h => ?_) (fun h => ?_)
      refine ⟨q - 1, by omega, _, ⟨fun _ _ e => e, fun _ _ e => e, fun _ _ e => e, Nat.le_refl _⟩, i + 1, by omega, rfl, ?_⟩
      simp
    · have hlti : ¬ (i : Int) < M.length := by omega
      repeat' first | refine aw_W [] (And.intro @hlti @hvl) trivial ?_ | refine aw_cond rfl (fun h => ?_) (fun h => ?_)
      exact ⟨rfl, rfl, rfl⟩
end Go.AL
/-! The plain law of a table: what it holds against a list by names. -/
namespace Go.AL
open Go.Proofs
set_option linter.unusedSimpArgs false
set_option linter.unusedVariables false
abbrev bL (s : ByteArray) : List UInt8 := s.data.toList
theorem bL_inj {a b : ByteArray} (h : bL a = bL b) : a = b := by
  cases a; cases b
  simp [bL] at h
  subst h; rfl
theorem ltS_iff (a b : ByteArray) : ltS a b = true ↔ bL a < bL b := by
  unfold ltS; rw [bytesLess_eq]; simp
theorem gtS_iff (a n : ByteArray) : gtS a n = true ↔ bL n < bL a := by
  unfold gtS
  by_cases h : a = n
  · subst h; simp [List.lt_irrefl]
  · have h1 : ¬ bL a = bL n := fun e => h (bL_inj e)
    by_cases h2 : bL a < bL n
    · have h3 : ¬ bL n < bL a := fun h3 => List.lt_irrefl _ (List.lt_trans h2 h3)
      simp [(ltS_iff a n).2 h2, h3]
    · have h4 : ltS a n = false := by
        cases hq : ltS a n with
        | false => rfl
        | true => exact absurd ((ltS_iff a n).1 hq) h2
      have h3 : bL n < bL a := by
        rcases Classical.em (bL n < bL a) with h3 | h3
        · exact h3
        · exact absurd (List.le_antisymm (List.not_lt.1 h3) (List.not_lt.1 h2)) h1
      simp [h4, h, h3]
theorem gotB_mem {n : ByteArray} {h : Int} : ∀ {L : List Br}, (L.map Prod.fst).Nodup → (gotB L n = some h ↔ (n, h) ∈ L)
  | [], _ => by simp [gotB]
  | (a, g) :: L, nd => by
    rw [List.map_cons, List.nodup_cons] at nd
    have ih := gotB_mem (n := n) (h := h) nd.2
    rw [gotB]
    by_cases e : a = n
    · subst e
      rw [if_pos rfl]
      constructor
      · intro h1; cases h1; exact List.mem_cons_self
      · intro h1
        rcases List.mem_cons.1 h1 with h1 | h1
        · cases h1; rfl
        · exact absurd (List.mem_map.2 ⟨_, h1, rfl⟩) nd.1
    · rw [if_neg e, ih]
      constructor
      · exact List.mem_cons_of_mem _
      · intro h1
        rcases List.mem_cons.1 h1 with h1 | h1
        · cases h1; exact absurd rfl e
        · exact h1
theorem gotB_not {n : ByteArray} : ∀ {L : List Br}, gotB L n = none ↔ n ∉ L.map Prod.fst
  | [] => by simp [gotB]
  | (a, g) :: L => by
    have ih := gotB_not (n := n) (L := L)
    rw [gotB]
    by_cases e : a = n
    · subst e; simp
    · have e' : ¬ n = a := fun h => e h.symm
      rw [if_neg e, ih]; simp [e']
theorem gotB_perm {L M : List Br} (hp : L.Perm M) (nd : (M.map Prod.fst).Nodup) (n : ByteArray) : gotB L n = gotB M n := by
  have nl : (L.map Prod.fst).Nodup := (hp.map _).nodup_iff.2 nd
  refine Option.ext fun h => ?_
  rw [gotB_mem nl, gotB_mem nd, hp.mem_iff]
theorem del_ix (n : ByteArray) : ∀ (L : List Br) (i : Nat), (L.map Prod.fst).Nodup → match ixB L n i with
    | none => dropB L n = L
    | some j => i ≤ j ∧ j - i < L.length ∧ L.eraseIdx (j - i) = dropB L n
  | [], i, _ => rfl
  | (a, h) :: L, i, nd => by
    rw [List.map_cons, List.nodup_cons] at nd
    have ih := del_ix n L (i + 1) nd.2
    rw [ixB]
    by_cases e : a = n
    · subst e
      rw [if_pos rfl]
      have : dropB L a = L := gotB_none (gotB_not.2 nd.1)
      refine ⟨Nat.le_refl _, by simp, ?_⟩
      rw [Nat.sub_self, List.eraseIdx_cons_zero, dropB, List.filter_cons, if_neg (by simp), ← dropB, this]
    · rw [if_neg e]
      have hd : dropB ((a, h) :: L) n = (a, h) :: dropB L n := by
        rw [dropB, List.filter_cons, if_pos (by simp [e])]; rfl
      cases hq : ixB L n (i + 1) with
      | none => rw [hq] at ih; simp only at ih ⊢; rw [hd, ih]
      | some j =>
        rw [hq] at ih
        obtain ⟨h1, h2, h3⟩ := ih
        refine ⟨by omega, by simp; omega, ?_⟩
        rw [show j - i = (j - (i + 1)) + 1 by omega, List.eraseIdx_cons_succ, h3, hd]
theorem delB_eq {L : List Br} (nd : (L.map Prod.fst).Nodup) (n : ByteArray) : delB L n = dropB L n := by
  have := del_ix n L 0 nd
  rw [delB]
  cases hq : ixB L n 0 with
  | none => rw [hq] at this; exact this.symm
  | some j => rw [hq] at this; exact this.2.2
theorem set_perm {α : Type} (x : α) : ∀ (l : List α) (j : Nat), j < l.length → (l.set j x).Perm (x :: l.eraseIdx j)
  | [], _, h => by simp at h
  | a :: l, 0, _ => by simp
  | a :: l, j + 1, h => by
    simp only [List.set_cons_succ, List.eraseIdx_cons_succ]
    exact ((set_perm x l j (by simpa using h)).cons a).trans (List.Perm.swap _ _ _)
theorem putB_perm {L : List Br} (nd : (L.map Prod.fst).Nodup) (n : ByteArray) (h : Int) : (putB L n h).Perm ((n, h) :: dropB L n) := by
  have := del_ix n L 0 nd
  rw [putB]
  cases hq : ixB L n 0 with
  | none => rw [hq] at this; simp only at this ⊢; rw [this]; exact List.perm_append_singleton _ _
  | some j => rw [hq] at this; simp only at this ⊢; rw [← this.2.2]; exact set_perm _ _ _ this.2.1
theorem insB_perm (n : ByteArray) (h : Int) : ∀ M, (insB M n h).Perm ((n, h) :: M)
  | [] => List.Perm.refl _
  | (a, g) :: M => by
    rw [insB]
    split
    · exact List.Perm.refl _
    · exact ((insB_perm n h M).cons _).trans (List.Perm.swap _ _ _)
abbrev SrtB (M : List Br) : Prop := M.Pairwise fun p q => bL p.1 < bL q.1
theorem SrtB.nd {M : List Br} (h : SrtB M) : (M.map Prod.fst).Nodup := by
  rw [List.Nodup, List.pairwise_map]
  exact h.imp fun {p q} h e => by rw [e] at h; exact List.lt_irrefl _ h
theorem SrtB.ins {n : ByteArray} {h : Int} : ∀ {M : List Br}, SrtB M → n ∉ M.map Prod.fst → SrtB (insB M n h)
  | [], _, _ => by rw [insB]; exact List.pairwise_singleton _ _
  | (a, g) :: M, hs, hn => by
    obtain ⟨h1, h2⟩ := List.pairwise_cons.1 hs
    rw [insB]
    split
    · rename_i hg
      have hlt := (gtS_iff a n).1 hg
      refine List.pairwise_cons.2 ⟨fun p hp => ?_, hs⟩
      rcases List.mem_cons.1 hp with rfl | hp
      · exact hlt
      · exact List.lt_trans hlt (h1 p hp)
    · rename_i hg
      simp at hn
      have hle : ¬ bL n < bL a := fun h => hg ((gtS_iff a n).2 h)
      have hlt : bL a < bL n := by
        rcases Classical.em (bL a < bL n) with h3 | h3
        · exact h3
        · exact absurd (bL_inj (List.le_antisymm (List.not_lt.1 h3) (List.not_lt.1 hle))) hn.1
      refine List.pairwise_cons.2 ⟨fun p hp => ?_, SrtB.ins h2 (by simpa using hn.2)⟩
      rcases List.mem_cons.1 ((insB_perm n h M).mem_iff.1 hp) with rfl | hp
      · exact hlt
      · exact h1 p hp
/-- A table's entries, as they came, against those by names. -/
structure RelB (L M : List Br) : Prop where
  perm : L.Perm M
  srt : SrtB M
  sz : ∀ p ∈ M, p.1.size ≤ 100
  len : M.length ≤ 16
variable {L M : List Br}
theorem RelB.nd (r : RelB L M) : (L.map Prod.fst).Nodup := (r.perm.map _).nodup_iff.2 r.srt.nd
theorem RelB.lenL (r : RelB L M) : L.length ≤ 16 := r.perm.length_eq ▸ r.len
theorem RelB.szL (r : RelB L M) : ∀ s ∈ L.map Prod.fst, s.size ≤ 9223372036854775807 := fun s hs => by
  obtain ⟨p, hp, rfl⟩ := List.mem_map.1 hs
  have := r.sz p (r.perm.mem_iff.1 hp)
  omega
theorem RelB.got (r : RelB L M) (n : ByteArray) : gotB L n = gotB M n := gotB_perm r.perm r.srt.nd n
theorem RelB.setE (r : RelB L M) (n : ByteArray) : setE L n = Go.AL.setE M n := by
  unfold Go.AL.setE; rw [r.got, r.perm.length_eq]
theorem RelB.names (r : RelB L M) : namesB L = M.map Prod.fst := by
  rw [namesB, sortS]
  have hp : ((L.map Prod.fst).map fun s => s.data.toList).Perm ((M.map Prod.fst).map fun s => s.data.toList) := (r.perm.map _).map _
  rw [mergeSort_of_perm hp, List.mergeSort_of_pairwise, List.map_map]
  · conv => rhs; rw [← List.map_id (M.map Prod.fst)]
    exact List.map_congr_left fun s _ => rfl
  · rw [List.map_map, List.pairwise_map]
    exact r.srt.imp fun {p q} h => by
      simp only [leB, decide_eq_true_eq]
      exact List.le_of_lt h
theorem RelB.heads (r : RelB L M) : headsB L = M.map Prod.snd := by
  rw [headsB, r.names, List.map_map]
  refine List.map_congr_left fun p hp => ?_
  have := (gotB_mem r.srt.nd (n := p.1) (h := p.2)).2 hp
  simp [r.got, this]
theorem RelB.nil : RelB [] [] := ⟨List.Perm.refl _, List.Pairwise.nil, by simp, by simp⟩
theorem RelB.drop (r : RelB L M) (n : ByteArray) : RelB (delB L n) (dropB M n) := by
  rw [delB_eq r.nd]
  exact ⟨r.perm.filter _, r.srt.filter _, fun p hp => r.sz p (List.mem_filter.1 hp).1, Nat.le_trans (dropB_len M n) r.len⟩
theorem drop_not (M : List Br) (n : ByteArray) : n ∉ (dropB M n).map Prod.fst := fun h => by
  obtain ⟨p, hp, rfl⟩ := List.mem_map.1 h
  have := (List.mem_filter.1 hp).2
  simp at this
theorem RelB.set (r : RelB L M) {n : ByteArray} (hn : n.size ≤ 100) (h : Int) (e : Go.AL.setE M n = 0) : RelB (putB L n h) (insB (dropB M n) n h) := by
  refine ⟨(putB_perm r.nd n h).trans (((r.perm.filter _).cons _).trans (insB_perm n h _).symm), SrtB.ins (r.srt.filter _) (drop_not M n), fun p hp => ?_, ?_⟩
  · rcases List.mem_cons.1 ((insB_perm n h _).mem_iff.1 hp) with rfl | hp
    · exact hn
    · exact r.sz p (List.mem_filter.1 hp).1
  · rw [insB_len]
    unfold Go.AL.setE at e
    split at e
    · cases e
    · split at e
      · cases e
      · rename_i hq
        cases hg : gotB M n with
        | none =>
          have := dropB_len M n
          have : ¬ 16 ≤ M.length := fun h => hq ⟨hg, h⟩
          omega
        | some v =>
          have hm := (gotB_mem r.srt.nd).1 hg
          have : (dropB M n).length < M.length := List.length_filter_lt_length_iff_exists.2 ⟨_, hm, by simp⟩
          have := r.len
          omega
theorem RelB.put (r : RelB L M) {n : ByteArray} (hn : n.size ≤ 100) (h : Int) : RelB (if Go.AL.setE L n = 0 then putB L n h else L) (setB M n h) := by
  rw [r.setE, setB]
  split
  · rename_i e; exact r.set hn h e
  · exact r
end Go.AL
/-! gridironlaw17.BranchPlays. -/
namespace Go.AL
open Go.Proofs
set_option linter.unusedSimpArgs false
set_option linter.unusedVariables false
theorem aw_nilv {P : Program} {D : List Deferred} {Q : Exit → List AV → ASt → Prop} {fr : List AV} {σ : ASt} {c : Code} {i : Nat} (hi : fr[i]? = some (.p (.slice none 0 0))) (h : AW P D c Q (fr.set i (.vsl [])) σ) : AW P D c Q fr σ := by
  intro r iR G a w hs
  refine h r iR G a w ⟨⟨by simpa using hs.tmps.1, fun j c v hc hv => ?_⟩, hs.defers, hs.w⟩
  rw [List.getElem?_set] at hc
  split at hc
  · rename_i e
    subst e
    split at hc
    · obtain rfl := Option.some.inj hc
      have := hs.tmps.2 i _ v hi hv
      cases this
      exact .vnil _ _
    · cases hc
  · exact hs.tmps.2 j c v hc hv
section
variable {P : Program} {D : List Deferred} {Q : Exit → List AV → ASt → Prop} {fr : List AV} {ops : Array Oper} {o : Oper} {rest : List Oper}
theorem zl_tab2 {mu imp : List Nat} {l : List Oper} {K : List AV → ASt → Prop} {i : Nat} {old : List ASt} {pd : List Pend} {f : Operand} {aa : Array Operand} {ts : Array TypeId} (hz : zst mu imp o = true) (ho : o.op = .call { callee := .value f, args := aa, argTypes := ts }) (hg : o.guard = none)
    {F : FuncId} {args : List AV} {L L' : List Br} {r : AV} (h : TC P F args (hes L) r (hes L')) {first cap : List AV} (hf : acallee (aev fr f) = some (F, first, cap)) (hc : callable P F = true) (he : first ++ aa.toList.map (aev fr) ++ cap = .ptr 1 0 :: args) (ha : ∀ a ∈ args, Cl a) (hr : Cl r)
    (hk2 : pendOk P mu imp l (old.length + 1) (tb2 (hes L')) pd ∧ Shut (ZRun P mu imp l K (i + 1) rest (aput fr o.dst r) (tb2 (hes L')) (tb2 (hes L) :: old) pd)) : ZS P mu imp l K i (o :: rest) fr (tb2 (hes L)) old pd := by
  intro hok
  unfold ZL; rw [if_pos hz]
  refine ⟨_, _, yldT_opq hg fun ρ hρ => ?_, pendOk_yld hok hk2.1, zl_run hk2.2.out hok⟩
  have h1 : ρ f = aev fr f := hρ f (by rw [ho]; simp [Op.operands, Call.operands])
  have h2 : aa.toList.map ρ = aa.toList.map (aev fr) := List.map_congr_left fun x hx => hρ x (by rw [ho]; simp [Op.operands, Call.operands]; right; simpa using hx)
  exact opq_call ho (by rw [h1]; exact hf) hc (by rw [h2, he]; exact (h.call ha hr (cl_hes L) (cl_hes L') (by omega) rfl rfl rfl rfl rfl rfl).mono fun r' τ' ⟨e1, e2⟩ => ⟨e1, by rw [e2, tb2_upd]⟩)
end
theorem fits_all {l : List Act} (h : fitsA l = true) : l.length ≤ 100 ∧ ∀ p ∈ l, p.2.1.size ≤ 100 := by
  simp [fitsA, allA] at h
  exact ⟨h.1, fun p hp => h.2 p.1 p.2.1 p.2.2 hp⟩
def PlI (l : List Act) (s : ByteArray) (q : Nat) (fr : List AV) (σ : ASt) : Prop := ∃ (i : Nat) (L M : List Br), i + q = l.length ∧ RelB L M ∧ σ = tb2 (hes L) ∧ fr = frm 165 [(0, .vsl (acts l)), (1, vs s), (6, .ptr 1 0), (7, .vsl (brs M)), (8, vi (i : Nat))]
set_option maxHeartbeats 16000000 in
set_option maxRecDepth 100000 in
theorem plays_ok (l : List Act) (s : ByteArray) (hs : s.size ≤ 9223372036854775807) (hw : ∀ p ∈ l, 0 ≤ p.1 ∧ p.1 < 256) : APure Try.prog 5 [.vsl (acts l), vs s] (vb true) := by
  have hvl := acts_len l
  have c1 := fits17_ok l
  have c2 := alive17_ok
  by_cases hf : fitsA l = false ∨ 100 < s.size
  · refine apure_in Try.func5 Try.ntmps5 rfl ?_
    rcases hf with hf | hf
    · rw [hf] at c1
      repeat' first | refine aw_W [] trivial (And.intro @c1 (And.intro @c2 trivial)) ?_ | refine aw_cond rfl (fun h => ?_) (fun h => ?_)
      all_goals simp [tupOf]
    · have hf' : (100 : Int) < s.size := by omega
      cases hq : fitsA l with
      | false =>
        rw [hq] at c1
        repeat' first | refine aw_W [] @hf' (And.intro @c1 (And.intro @c2 trivial)) ?_ | refine aw_cond rfl (fun h => ?_) (fun h => ?_)
        all_goals simp [tupOf]
      | true =>
        rw [hq] at c1
        repeat' first | refine aw_W [] @hf' (And.intro @c1 (And.intro @c2 trivial)) ?_ | refine aw_cond rfl (fun h => ?_) (fun h => ?_)
        all_goals simp [tupOf]
  · have hq : fitsA l = true := by
      cases h : fitsA l with
      | true => rfl
      | false => exact absurd (.inl h) hf
    have hs' : ¬ (100 : Int) < s.size := by
      have : ¬ 100 < s.size := fun h => hf (.inr h)
      omega
    have hfit := fits_all hq
    rw [hq] at c1
    refine apure_in Try.func5 Try.ntmps5 rfl ?_
    repeat' first | refine aw_W [] @hs' (And.intro @c1 (And.intro @c2 trivial)) ?_ | refine aw_cond rfl (fun h => ?_) (fun h => ?_)
    refine awl_new2 [] rfl rfl bnewT_ok rfl rfl rfl ?_
    simp -implicitDefEqProofs
    repeat' first | refine aw_W [] trivial trivial ?_ | refine aw_cond rfl (fun h => ?_) (fun h => ?_)
    refine aw_nilv (i := 7) rfl ?_
    refine aw_loopW [0, 1, 6, 7, 8] (PlI l s) l.length ?_ ?_
    · refine ⟨_, le_tb2, 0, [], [], by omega, .nil, rfl, ?_⟩
      simp [brs]
    · rintro q fr σ ⟨i, L, M, hi, r, rfl, rfl⟩
      simp -implicitDefEqProofs
      by_cases hlt : i < l.length
      · have hlti : (i : Int) < l.length := by omega
        obtain ⟨⟨k, a, hd⟩, hp⟩ : ∃ p, l[i]? = some p := ⟨_, List.getElem?_eq_getElem hlt⟩
        have hg := acts_get hp
        have wi : IntKind.i64.wrap ((i : Int) + 1) = (i : Int) + 1 := wrap_id (by omega) (by omega)
        have hla : i < (acts l).length := by omega
        have ha : a.size ≤ 100 := hfit.2 _ (List.mem_of_getElem? hp)
        have hM := r.len
        have hL := r.lenL
        by_cases k3 : k.tmod 5 = 3
        · have t1 := bdrop_ok L a
          have t2 := rdrop17_ok M (by omega) a
          rw [← r.got a] at t2
          have r' := r.drop a
          have t3 := same17_ok (delB L a) (dropB M a) r'.nd r'.szL (by have := r'.lenL; omega) r'.names r'.heads
          generalize (if (gotB L a).isSome = true then (0 : Int) else 4) = e at *
          repeat' first | refine aw_W [] (And.intro @hlti (And.intro @hvl (And.intro @hg (And.intro @hla (And.intro @wi @k3))))) trivial ?_ | refine aw_cond rfl (fun h => ?_) (fun h => ?_)
          refine awl_tab2 [] rfl t1 rfl rfl rfl rfl (by simp) (by simp) ?_
          simp -implicitDefEqProofs
          repeat' first | refine aw_W [] (And.intro @hlti (And.intro @hvl (And.intro @hg (And.intro @hla (And.intro @wi @k3))))) (And.intro @t2 trivial) ?_ | refine aw_cond rfl (fun h => ?_) (fun h => ?_)
          refine awl_tab2 [] rfl t3 rfl rfl rfl rfl (by simp) (by simp) ?_
          simp -implicitDefEqProofs
          repeat' first | refine aw_W [] @wi trivial ?_ | refine aw_cond rfl (fun h => ?_) (fun h => ?_)
          exact ⟨q - 1, by omega, _, le_tb2, i + 1, _, _, by omega, r', rfl, by simp⟩
        · by_cases k4 : k.tmod 5 = 4
          · have t1 := bhead_ok L a
            have t2 := rhead17_ok M (by omega) a
            rw [← r.got a] at t2
            have t3 := same17_ok L M r.nd r.szL (by omega) r.names r.heads
            generalize (if (gotB L a).isSome = true then (0 : Int) else 4) = e at *
            generalize (gotB L a).getD 0 = hv at *
            repeat' first | refine aw_W [] (And.intro @hlti (And.intro @hvl (And.intro @hg (And.intro @hla (And.intro @wi (And.intro @k3 @k4)))))) trivial ?_ | refine aw_cond rfl (fun h => ?_) (fun h => ?_)
            refine awl_tab2 [] rfl t1 rfl rfl rfl rfl (by simp) (by simp) ?_
            simp -implicitDefEqProofs
            repeat' first | refine aw_W [] (And.intro @hlti (And.intro @hvl (And.intro @hg (And.intro @hla (And.intro @wi (And.intro @k3 @k4)))))) (And.intro @t2 trivial) ?_ | refine aw_cond rfl (fun h => ?_) (fun h => ?_)
            refine awl_tab2 [] rfl t3 rfl rfl rfl rfl (by simp) (by simp) ?_
            simp -implicitDefEqProofs
            repeat' first | refine aw_W [] @wi trivial ?_ | refine aw_cond rfl (fun h => ?_) (fun h => ?_)
            exact ⟨q - 1, by omega, _, le_tb2, i + 1, _, _, by omega, r, rfl, by simp⟩
          · have t1 := bset_ok L (by omega) a (by omega) hd
            have t2 := rset17_ok M (by omega) a (by omega) hd
            have r' := r.put ha hd
            rw [← r.setE] at t2
            have t3 := same17_ok _ _ r'.nd r'.szL (by have := r'.lenL; omega) r'.names r'.heads
            generalize (if setE L a = 0 then putB L a hd else L) = L' at *
            generalize setE L a = e at *
            generalize setB M a hd = M' at *
            repeat' (first
              | refine aw_seq ?_
              | ((first | refine aw_run [] ?_ | refine aw_ymix [] draws (by decide +kernel) ?_); try simp -implicitDefEqProofs (maxSteps := 1000000) [hlti, hvl, hg, hla, wi, k3, k4])
              | ((first | refine aw_zrun [] [25] draws (by decide +kernel) (by decide +kernel) ?_ | refine zl_skip (by simp) rfl ?_); try simp -implicitDefEqProofs (maxSteps := 1000000) [hlti, hvl, hg, hla, wi, k3, k4]; repeat first | refine zcurL (by decide +kernel) ?_ | refine zcurH (by decide +kernel) ?_ | refine zcurL' (by decide +kernel) ?_ | refine zcurH' (by decide +kernel) ?_)
              | ((first | refine aw_yrun draws (by kernel_rfl) ?_ | refine awl_skip' [] rfl ?_ | refine yl_skip rfl ?_ | refine aw_skip ?_ | refine aw_exit ?_); try simp -implicitDefEqProofs (maxSteps := 1000000) [hlti, hvl, hg, hla, wi, k3, k4])
              | (refine aw_cond rfl (fun h => ?_) (fun h => ?_) <;> try (with_reducible first | exact ff_tt h | exact tt_ff h))
              | refine aw_block ?_
              | refine aw_ret (ret_of (.inr rfl) (by simp [Try.results5]; rfl) (Fin.of ?_))
              | refine ret_of (.inl rfl) (by simp [Try.results5]; rfl) (Fin.of ?_))
            refine zl_tab2 (by simp) rfl rfl t1 rfl (by kernel_rfl) rfl (by simp) (by simp) ?_
            simp -implicitDefEqProofs
            repeat' (first
              | refine aw_seq ?_
              | ((first | refine aw_run [] ?_ | refine aw_ymix [] draws (by decide +kernel) ?_); try simp -implicitDefEqProofs (maxSteps := 1000000) [hlti, hvl, hg, hla, wi])
              | ((first | refine aw_zrun [] [25] draws (by decide +kernel) (by decide +kernel) ?_ | refine zl_skip (by simp) rfl ?_ | refine zl_pure_guard (by simp) rfl rfl rfl (by first | assumption | kernel_rfl) rfl (fun hc => by first | exact t2) (by simp) (by simp) (by simp) ?_ | refine zl_pure (by simp) rfl rfl rfl (by first | assumption | kernel_rfl) rfl (by first | exact t2) (by simp) (by simp) ?_); try simp -implicitDefEqProofs (maxSteps := 1000000) [hlti, hvl, hg, hla, wi]; repeat first | refine zcurL (by decide +kernel) ?_ | refine zcurH (by decide +kernel) ?_ | refine zcurL' (by decide +kernel) ?_ | refine zcurH' (by decide +kernel) ?_)
              | ((first | refine aw_yrun draws (by kernel_rfl) ?_ | refine awl_skip' [] rfl ?_ | refine yl_skip rfl ?_ | refine awl_pure_guard [] rfl rfl rfl (by first | assumption | kernel_rfl) rfl (fun hc => by first | exact t2) (by simp) (by simp) (by simp) ?_ | refine yl_pureG rfl rfl rfl (by first | assumption | kernel_rfl) rfl (fun hc => by first | exact t2) (by simp) (by simp) (by simp) ?_ | refine awl_pure' [] rfl rfl rfl (by first | assumption | kernel_rfl) rfl (by first | exact t2) (by simp) (by simp) ?_ | refine yl_pure rfl rfl rfl (by first | assumption | kernel_rfl) rfl (by first | exact t2) (by simp) (by simp) ?_ | refine aw_skip ?_ | refine aw_exit ?_); try simp -implicitDefEqProofs (maxSteps := 1000000) [hlti, hvl, hg, hla, wi])
              | (refine aw_cond rfl (fun h => ?_) (fun h => ?_) <;> try (with_reducible first | exact ff_tt h | exact tt_ff h))
              | refine aw_block ?_
              | refine aw_ret (ret_of (.inr rfl) (by simp [Try.results5]; rfl) (Fin.of ?_))
              | refine ret_of (.inl rfl) (by simp [Try.results5]; rfl) (Fin.of ?_))
            repeat' first | refine aw_W [] (And.intro @hlti (And.intro @hvl (And.intro @hg (And.intro @hla @wi)))) (And.intro @t2 trivial) ?_ | refine aw_cond rfl (fun h => ?_) (fun h => ?_)
            refine awl_tab2 [] rfl t3 rfl rfl rfl rfl (by simp) (by simp) ?_
            simp -implicitDefEqProofs
            repeat' first | refine aw_W [] @wi trivial ?_ | refine aw_cond rfl (fun h => ?_) (fun h => ?_)
            exact ⟨q - 1, by omega, _, le_tb2, i + 1, _, _, by omega, r', rfl, by simp⟩
      · have hlti : ¬ (i : Int) < l.length := by omega
        have n1 := bheadN_ok s
        have n2 := bright_ok s hs
        have n3 := rright17_ok s hs
        have n4 := bsetN_ok s hs 1
        have n5 := bdropN_ok s
        have n6 := bnamesN_ok
        have n7 := bheadsN_ok
        repeat' first | refine aw_W [] (And.intro @hlti @hvl) (And.intro @c2 (And.intro @n1 (And.intro @n2 (And.intro @n3 (And.intro @n4 (And.intro @n5 (And.intro @n6 (And.intro @n7 trivial)))))))) ?_ | refine aw_cond rfl (fun h => ?_) (fun h => ?_)
        simp [tupOf, wrap_id]
end Go.AL
/-! BranchPlays, for its row. -/
namespace Go.AL
open Go.Proofs
set_option linter.unusedSimpArgs false
set_option linter.unusedVariables false
def actIn (p : Act) : Prop := 0 ≤ p.1 ∧ p.1 < 256 ∧ p.2.1.size ≤ 9223372036854775807
set_option maxRecDepth 100000 in
theorem act_has {n : Nat} {x : AV} (h : hasF Try.prog n 59 x) : ∃ p : Act, x = act p ∧ actIn p := by
  obtain ⟨m, cs, rfl, rfl, hl, hf⟩ := has_struct h Try.underlying59
  rw [show Try.prog.cellsOf 59 = 3 by kernel_rfl] at hl
  have c1 : Try.prog.cellsOf 5 = 1 := by kernel_rfl
  have c2 : Try.prog.cellsOf 9 = 1 := by kernel_rfl
  have c3 : Try.prog.cellsOf 3 = 1 := by kernel_rfl
  simp only [List.mem_cons, List.not_mem_nil, or_false, forall_eq_or_imp, forall_eq] at hf
  obtain ⟨⟨y0, h0, e0⟩, ⟨y1, h1, e1⟩, y2, h2, e2⟩ := hf
  obtain ⟨k, rfl, hk⟩ := has_int h0 Try.underlying5
  obtain ⟨w, rfl, hw⟩ := has_str h1 Try.underlying9
  obtain ⟨a, rfl, ha⟩ := has_i64 h2 Try.underlying3
  match cs, hl with
  | [x0, x1, x2], _ =>
    simp only [c1, c2, c3, List.drop_zero, List.take_succ_cons, List.take_zero, List.drop_succ_cons, List.cons.injEq, and_true, AV.cells] at e0 e1 e2
    subst e0; subst e1; subst e2
    simp only [Lit.wf, IntKind.min, IntKind.max, IntKind.signed, IntKind.bits, Bool.and_eq_true, decide_eq_true_eq] at hk
    simp at hk
    exact ⟨(k, w, a), rfl, by omega, by omega, hw⟩
theorem acts_has {x : AV} (h : HasT Try.prog 52 x) : ∃ l : List Act, x = .vsl (acts l) ∧ l.length ≤ 9223372036854775807 ∧ ∀ p ∈ l, actIn p := by
  obtain ⟨n, h⟩ := h
  obtain ⟨m, xs, rfl, rfl, hx, hy⟩ := has_slice h Try.underlying52
  obtain ⟨l, rfl, hl⟩ := list_of (f := act) (r := actIn) (fun y hy => act_has hy) xs hy
  exact ⟨l, rfl, by simpa using hx, hl⟩
theorem BranchPlays_all (x : AV) (s : ByteArray) (hx : HasT Try.prog 52 x) (hs : s.size ≤ 140737488351232) :
    APure Try.prog 5 [x, vs s] (vb true) := by
  obtain ⟨l, rfl, hl, hp⟩ := acts_has hx
  exact plays_ok l s (by omega) fun p h => ⟨(hp p h).1, (hp p h).2.1⟩
end Go.AL
