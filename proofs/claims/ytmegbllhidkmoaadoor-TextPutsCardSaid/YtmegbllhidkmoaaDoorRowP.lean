/- A prefix by value, opened and shut. -/
import Derived.Test.YtmegbllhidkmoaaDoorRow
import Derived.ChangeSame
import Derived.RowKit3
namespace Go.Proofs.YtmegbllhidkmoaaDoor.Tx
open Go.ChangeShapes Go.WideShapes Go.ChangeAt Go.RowKit Go.Proofs.YtmegbllhidkmoaaDoorW.PrintWords

theorem cells3 : Tryd.prog.cellsOf 3 = 1 := by kernel_rfl
theorem cells26 : Tryd.prog.cellsOf 26 = 1 := by kernel_rfl
theorem cells28 : Tryd.prog.cellsOf 28 = 2 := by kernel_rfl
theorem cells33 : Tryd.prog.cellsOf 33 = 3 := by kernel_rfl
set_option maxRecDepth 100000 in
theorem open_prefix {H : Type} {enc : TypeId × Value → H} {W : World} {base b : Nat} {sp : Nat → Bool} {held : Bool} {v : Value} {d : DataW H} {p : List MemPlace}
    (hv : Value.okWide Tryd.prog W .any base 33 v) (h : DataW.Trod enc Tryd.prog W b sp held 33 v d p) :
    ∃ hi lo n : Int, v = .agg #[.int .u64 hi, .int .u64 lo, .int .i64 n] ∧ d = .agg [.agg [.lit (.int .u64 hi), .lit (.int .u64 lo)], .lit (.int .i64 n)] ∧ p = [] ∧
      (Lit.int .u64 hi).wf = true ∧ (Lit.int .u64 lo).wf = true ∧ (Lit.int .i64 n).wf = true := by
  obtain ⟨cs, rfl, hsz⟩ := okWide_struct Tryd.underlying33 hv
  rw [cells33] at hsz
  obtain ⟨l⟩ := cs
  match l, hsz with
  | [c0, c1, c2], _ =>
  obtain ⟨fuel, hf⟩ := h
  obtain ⟨y0, y1, m, hx, _, hy0, hy1⟩ := trod_struct2 Tryd.underlying33 hf
  obtain ⟨z0, z1, m', hx', _, hz0, hz1⟩ := trod_struct2 Tryd.underlying28 hy0
  obtain ⟨n, e2, rfl, wn⟩ := DataW.trod_int Tryd.underlying3 hy1
  obtain ⟨hi, e0, rfl, wh⟩ := DataW.trod_int Tryd.underlying26 hz0
  obtain ⟨lo, e1, rfl, wl⟩ := DataW.trod_int Tryd.underlying26 hz1
  simp [Value.cells, cells3, cells26, cells28] at e0 e1 e2
  subst e0 e1 e2
  simp only [Prod.mk.injEq] at hx'
  subst hx'
  simp only [Prod.mk.injEq] at hx
  obtain ⟨rfl, rfl⟩ := hx
  exact ⟨hi, lo, n, rfl, rfl, rfl, wh, wl, wn⟩
set_option maxRecDepth 100000 in
theorem shut_prefix {H : Type} {enc : TypeId × Value → H} {W : World} {b : Nat} {sp : Nat → Bool} {held : Bool} {hi lo n : Int}
    (wh : (Lit.int .u64 hi).wf = true) (wl : (Lit.int .u64 lo).wf = true) (wn : (Lit.int .i64 n).wf = true) :
    DataW.Trod enc Tryd.prog W b sp held 33 (.agg #[.int .u64 hi, .int .u64 lo, .int .i64 n]) (.agg [.agg [.lit (.int .u64 hi), .lit (.int .u64 lo)], .lit (.int .i64 n)]) [] := ⟨3, by
  have f0 : DataW.trod enc Tryd.prog W b sp held 1 26 [.int .u64 hi] = some (.lit (.int .u64 hi), []) := by simp [DataW.trod, Tryd.underlying26, wh]
  have f1 : DataW.trod enc Tryd.prog W b sp held 1 26 [.int .u64 lo] = some (.lit (.int .u64 lo), []) := by simp [DataW.trod, Tryd.underlying26, wl]
  have f2 : DataW.trod enc Tryd.prog W b sp held 2 3 [.int .i64 n] = some (.lit (.int .i64 n), []) := by simp [DataW.trod, Tryd.underlying3, wn]
  have g := trod_struct2_mk (enc := enc) (w := W) (base := b) (spare := sp) (held := held) (n := 1) (cs := [.int .u64 hi, .int .u64 lo]) Tryd.underlying28 (by simp [cells28]) (by simpa [cells26] using f0) (by simpa [cells26] using f1)
  have := trod_struct2_mk (enc := enc) (w := W) (base := b) (spare := sp) (held := held) (n := 2) (cs := [.int .u64 hi, .int .u64 lo, .int .i64 n]) Tryd.underlying33 (by simp [cells33]) (by simpa [cells28] using g) (by simpa [cells3] using f2)
  simpa [Value.cells] using this⟩
theorem bounds_u64' {n : Int} (h : (Lit.int .u64 n).wf = true) : 0 ≤ n ∧ n < 18446744073709551616 := by
  simp [Lit.wf, IntKind.min, IntKind.max, IntKind.signed, IntKind.bits] at h; omega
theorem bounds_i64' {n : Int} (h : (Lit.int .i64 n).wf = true) : -9223372036854775808 ≤ n ∧ n ≤ 9223372036854775807 := by
  simp [Lit.wf, IntKind.min, IntKind.max, IntKind.signed, IntKind.bits] at h; omega
end Go.Proofs.YtmegbllhidkmoaaDoor.Tx
