import Derived.Test.YtfpjojjgoelckaaDoorA12
import Derived.IntWalk
/-! What is at hand for contracts. -/
namespace Go.AL
set_option linter.unusedVariables false
set_option linter.unusedSimpArgs false

variable {P : Program} {σ : ASt} {R : AV → ASt → Prop} {D : List Deferred} {Q : Exit → List AV → ASt → Prop} {fr : List AV}

attribute [simp] fget fset shut_nil shut_cons gcond aopP awanted aop aev aput AV.okv AV.one AV.cells Value.oneCell' thenA inBlockA noGotoA jumpA ofV aload acells aloadC afield afieldAddr ashift afcmp aconvA aconv bytesOf abinS abin aeqF aeqL aint astr isNilC aisNil apick apick2 ares tupOf alen abuiltin amm aun aindexAddr aindexI aslice abound abuild afill setCells abuildS afillR astore astoreC putCells anilCheck aindexS acallee

abbrev vi (n : Int) : AV := .p (.int .i64 n)
abbrev vb (b : Bool) : AV := .p (.bool b)
abbrev vs (s : ByteArray) : AV := .p (.string s)
abbrev nils : AV := .p (.slice none 0 0)
/-- A list of whole numbers. -/
def ints (l : List Int) : AV := .vsl (l.map vi)

theorem apure_of {f : FuncId} {fn : Func} {c : Code} {n : Nat} {args : List AV} {r : AV} (hf : P.funcs[f]? = some fn) (hn : fn.ntmps = n) (hb : fn.body = some c)
    (h : AW P [] c (RetQ P fn fun r' _ => r' = r) (args ++ List.replicate (n - args.length) (.p undef)) σ0) : APure P f args r := by
  subst hn; exact acall_of_body hf hb h
theorem acall_of {f : FuncId} {fn : Func} {c : Code} {n : Nat} {args : List AV} (hf : P.funcs[f]? = some fn) (hn : fn.ntmps = n) (hb : fn.body = some c)
    (h : AW P [] c (RetQ P fn R) (args ++ List.replicate (n - args.length) (.p undef)) σ) : ACall P f args σ R := by
  subst hn; exact acall_of_body hf hb h
theorem retq {fn : Func} {l : List ResultVar} (hl : fn.results = l.toArray) {rs : List AV} (h : ares P σ fr l = some rs) (hR : R (tupOf rs) σ) : RetQ P fn R .ret fr σ :=
  ret_of (.inr rfl) (by rw [hl]; exact h) (Fin.of hR)
theorem retq1 {fn : Func} {t : Nat} (hl : fn.results = #[.tmp t]) (hR : R (fget fr t) σ) : RetQ P fn R .ret fr σ := retq (l := [.tmp t]) hl rfl hR
theorem retq2 {fn : Func} {t u : Nat} (hl : fn.results = #[.tmp t, .tmp u]) (hR : R (.tup [fget fr t, fget fr u]) σ) : RetQ P fn R .ret fr σ := retq (l := [.tmp t, .tmp u]) hl rfl hR
theorem retq3 {fn : Func} {t u v : Nat} (hl : fn.results = #[.tmp t, .tmp u, .tmp v]) (hR : R (.tup [fget fr t, fget fr u, fget fr v]) σ) : RetQ P fn R .ret fr σ := retq (l := [.tmp t, .tmp u, .tmp v]) hl rfl hR

/-! ### numbers -/
theorem wrap_id {n : Int} (h1 : -9223372036854775808 ≤ n) (h2 : n ≤ 9223372036854775807) : IntKind.i64.wrap n = n := by
  have e1 : (2 : Int) ^ IntKind.i64.bits = 18446744073709551616 := by decide
  have e2 : (2 : Int) ^ (IntKind.i64.bits - 1) = 9223372036854775808 := by decide
  have e3 : IntKind.i64.signed = true := rfl
  unfold IntKind.wrap
  simp only [e1, e2, e3, Bool.true_and, ge_iff_le, decide_eq_true_eq]
  split <;> omega
end Go.AL
