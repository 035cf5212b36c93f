/- What the reference's Put6 reckons: the first of the longest rows of zero groups, and the writing of the groups. -/
import Derived.Test.YtmegbllhidkmoaaDoorFacts
import Derived.Test.YtmegbllhidkmoaaDoorProg
import Derived.Below
import Derived.Deep.Draws
import Derived.Deep.AppendLies
import Derived.Maps.AppendAt
import Derived.OwnWalk
import Derived.Laws.BytesArg
import Derived.Laws.MakeOwn
import Derived.Laws.OwnMore
import Derived.Deep.OwnRows
import Derived.Tactics
import Derived.Lib.ConvBytes
import Derived.Laws.Slices
import Derived.WalkKit
import Derived.KernelRfl
import Derived.RowKit3
import Derived.Deep.LoopGhost
import Derived.Deep.QuietTactic
import Derived.BigQuiet
import Derived.WideLaws
import Derived.Deep.DeepCutAuto
import Derived.Deep.CutBlock
import Derived.Deep.RegionHeld3
import Derived.Laws.Rows
import Derived.Lib.AppendStr
import Derived.ArgAppend
import Derived.Laws.IdiomCopy
import Derived.OrdersHeld
import Derived.Laws.BitsLemmas
import Derived.RowKit
import Derived.Test.YtmegbllhidkmoaaDoorWWords
import Derived.Test.YtmegbllhidkmoaaDoorWLast
import Derived.Test.YtmegbllhidkmoaaDoorWTab
import Derived.Test.YtmegbllhidkmoaaDoorWFour
import Derived.Test.YtmegbllhidkmoaaDoorWQPut
import Derived.Test.YtmegbllhidkmoaaDoorWApart
import Derived.Test.YtmegbllhidkmoaaDoorWArr
import Derived.Test.YtmegbllhidkmoaaDoorWZeros
import Derived.Test.YtmegbllhidkmoaaDoorWFoot
import Derived.Test.YtmegbllhidkmoaaDoorWKept
import Derived.Test.YtmegbllhidkmoaaDoorWShare
import Derived.Test.YtmegbllhidkmoaaDoorWN
import Derived.Test.YtmegbllhidkmoaaDoorWFootNe
import Derived.Test.YtmegbllhidkmoaaDoorWAt
import Derived.Test.YtmegbllhidkmoaaDoorWEqStruct
import Derived.Test.YtmegbllhidkmoaaDoorWRepsOne
import Derived.Test.YtmegbllhidkmoaaDoorWInv
import Derived.Test.YtmegbllhidkmoaaDoorWInvWords
import Derived.Test.YtmegbllhidkmoaaDoorWGuard
import Derived.Test.YtmegbllhidkmoaaDoorWNEv
import Derived.Test.YtmegbllhidkmoaaDoorWMore
import Derived.Test.YtmegbllhidkmoaaDoorGivenC
import Derived.Outline
import Derived.Test.YtmegbllhidkmoaaDoorFactsC
namespace Go.Proofs.YtmegbllhidkmoaaDoor.Tx
set_option linter.unusedVariables false

/-- Zero groups from a on, n of them. -/
def ZRow (G : Nat → Nat) (a n : Nat) : Prop := ∀ j, a ≤ j → j < a + n → G j = 0
/-- How many groups from i on are 0, among m. -/
def zrun (G : Nat → Nat) : Nat → Nat → Nat
  | _, 0 => 0
  | i, m + 1 => if G i = 0 then zrun G (i + 1) m + 1 else 0
theorem zrun_le (G : Nat → Nat) : ∀ m i, zrun G i m ≤ m
  | 0, i => Nat.le_refl _
  | m + 1, i => by
    unfold zrun
    have := zrun_le G m (i + 1)
    split <;> omega
theorem zrun_row (G : Nat → Nat) : ∀ m i, ZRow G i (zrun G i m)
  | 0, i => fun j h1 h2 => by simp [zrun] at h2; omega
  | m + 1, i => fun j h1 h2 => by
    unfold zrun at h2
    split at h2
    · rename_i hg
      by_cases e : j = i
      · rw [e]; exact hg
      · exact zrun_row G m (i + 1) j (by omega) (by omega)
    · omega
theorem zrun_max (G : Nat → Nat) : ∀ m i n, n ≤ m → ZRow G i n → n ≤ zrun G i m
  | 0, i, n, h, _ => by simp [zrun]; omega
  | m + 1, i, 0, h, hr => Nat.zero_le _
  | m + 1, i, n + 1, h, hr => by
    unfold zrun
    rw [if_pos (hr i (by omega) (by omega))]
    have := zrun_max G m (i + 1) n (by omega) (fun j h1 h2 => hr j (by omega) (by omega))
    omega
/-- What the reference's scan holds ahead of group i: the longest row's length and its place. -/
def scan6 (G : Nat → Nat) : Nat → Nat × Int
  | 0 => (0, -1)
  | i + 1 => if 2 ≤ zrun G i (8 - i) ∧ (scan6 G i).1 < zrun G i (8 - i) then (zrun G i (8 - i), (i : Int)) else scan6 G i
theorem scan6_top (G : Nat → Nat) : ∀ i, i ≤ 8 → (scan6 G i = (0, -1) ∧ ∀ a' n', a' < i ∧ a' + n' ≤ 8 → ZRow G a' n' → n' ≤ 1) ∨
    ∃ a n : Nat, scan6 G i = (n, (a : Int)) ∧ 2 ≤ n ∧ a < i ∧ a + n ≤ 8 ∧ ZRow G a n ∧ ∀ a' n', a' < i ∧ a' + n' ≤ 8 → ZRow G a' n' → n' ≤ n ∧ (n' = n → a ≤ a')
  | 0, _ => .inl ⟨rfl, fun a' n' h _ => by omega⟩
  | i + 1, h8 => by
    have ih := scan6_top G i (by omega)
    have h1 := zrun_le G (8 - i) i
    have h2 := zrun_row G (8 - i) i
    have h3 := fun n => zrun_max G (8 - i) i n
    rw [scan6]
    generalize zrun G i (8 - i) = r at h1 h2 h3 ⊢
    by_cases hc : 2 ≤ r ∧ (scan6 G i).1 < r
    · rw [if_pos hc]
      refine .inr ⟨i, r, rfl, hc.1, by omega, by omega, h2, fun a' n' hp hr => ?_⟩
      by_cases he : a' = i
      · subst he; have := h3 n' (by omega) hr; omega
      · rcases ih with ⟨e, ih⟩ | ⟨a, n, e, hn, ha, han, hz, ih⟩
        · have := ih a' n' (by omega) hr; omega
        · have h5 := ih a' n' (by omega) hr
          have h6 := hc.2
          rw [e] at h6
          omega
    · rw [if_neg hc]
      rcases ih with ⟨e, ih⟩ | ⟨a, n, e, hn, ha, han, hz, ih⟩
      · refine .inl ⟨e, fun a' n' hp hr => ?_⟩
        by_cases he : a' = i
        · subst he; have := h3 n' (by omega) hr
          rw [e] at hc
          omega
        · exact ih a' n' (by omega) hr
      · refine .inr ⟨a, n, e, hn, by omega, han, hz, fun a' n' hp hr => ?_⟩
        by_cases he : a' = i
        · subst he; have := h3 n' (by omega) hr
          rw [e] at hc
          simp only at hc
          omega
        · exact ih a' n' (by omega) hr
/-- The reference's writing of the groups from i on, m rounds at most. -/
def write6 (X : Nat → List UInt8) (best : Nat) (from_ : Int) : Nat → Nat → List UInt8 → List UInt8
  | 0, _, s => s
  | m + 1, i, s =>
    if i < 8 then
      if (i : Int) = from_ then write6 X best from_ m (i + best) (s ++ [58, 58])
      else write6 X best from_ m (i + 1) ((if s ≠ [] ∧ s.getLastD 0 ≠ 58 then s ++ [58] else s) ++ X i)
    else s
def put6L (G : Nat → Nat) (X : Nat → List UInt8) : List UInt8 := write6 X (scan6 G 8).1 (scan6 G 8).2 9 0 []
theorem zrun_eq (G : Nat → Nat) (i n : Nat) (h8 : i + n ≤ 8) (hz : ZRow G i n) (he : i + n = 8 ∨ G (i + n) ≠ 0) : zrun G i (8 - i) = n := by
  have h1 := zrun_le G (8 - i) i
  have h2 := zrun_row G (8 - i) i
  have h3 := zrun_max G (8 - i) i n (by omega) hz
  rcases he with he | he
  · omega
  · rcases Nat.lt_or_ge n (zrun G i (8 - i)) with h | h
    · exact absurd (h2 (i + n) (by omega) (by omega)) he
    · omega
theorem scan6_bounds (G : Nat → Nat) (i : Nat) (h8 : i ≤ 8) : (scan6 G i).1 ≤ 8 ∧ -1 ≤ (scan6 G i).2 ∧ (scan6 G i).2 ≤ 7 ∧ (∀ a : Nat, (scan6 G i).2 = (a : Int) → 2 ≤ (scan6 G i).1 ∧ a + (scan6 G i).1 ≤ 8) := by
  rcases scan6_top G i h8 with ⟨e, _⟩ | ⟨a, n, e, hn, ha, han, _, _⟩
  · rw [e]; exact ⟨by decide, by decide, by decide, fun a h => by simp only at h; omega⟩
  · rw [e]
    refine ⟨by simp only; omega, by simp only; omega, by simp only; omega, fun b h => ?_⟩
    simp only at h ⊢
    omega
theorem scan6_step (G : Nat → Nat) (i n : Nat) (h : zrun G i (8 - i) = n) : scan6 G (i + 1) = if 2 ≤ n ∧ (scan6 G i).1 < n then (n, (i : Int)) else scan6 G i := by
  rw [scan6, h]
end Go.Proofs.YtmegbllhidkmoaaDoor.Tx

-- BY wip/tools/gprint.py, over the kit's printer: machine-made text of this session
namespace Go.Proofs.YtmegbllhidkmoaaDoor.Tv
open Go.RowKit Go.Proofs.YtmegbllhidkmoaaDoor.Tx Go.Proofs.YtmegbllhidkmoaaDoorW.PrintWords Go.Proofs.YtmegbllhidkmoaaDoorW.PrintLast Go.Proofs.YtmegbllhidkmoaaDoorW.PrintMore
attribute [local go_sem] max2_int min2_int max_two min_two max_three min_three max_four min_four   -- for this text's walks alone
attribute [local go_sem] fld28_0 fld28_1 fld33_0 fld33_1
set_option linter.unusedVariables false
set_option linter.unusedSimpArgs false



def errW : Option Int → Value
  | none => .nilIface
  | some c => .iface 0 (.int .i64 c)
theorem errW_none : errW none = .nilIface := rfl
theorem errW_some (c : Int) : errW (some c) = .iface 0 (.int .i64 c) := rfl

-- the values' own types

end Go.Proofs.YtmegbllhidkmoaaDoor.Tv

-- BY wip/tools/gprint.py, over the kit's printer: machine-made text of this session
namespace Go.Proofs.YtmegbllhidkmoaaDoor.Tv
open Go.RowKit Go.Proofs.YtmegbllhidkmoaaDoor.Tx Go.Proofs.YtmegbllhidkmoaaDoorW.PrintWords Go.Proofs.YtmegbllhidkmoaaDoorW.PrintLast Go.Proofs.YtmegbllhidkmoaaDoorW.PrintMore
attribute [local go_sem] max2_int min2_int max_two min_two max_three min_three max_four min_four   -- for this text's walks alone
attribute [local go_sem] fld28_0 fld28_1 fld33_0 fld33_1
set_option linter.unusedVariables false
set_option linter.unusedSimpArgs false

/-! ### tenancyref02_hexGroup: function 56 -/
def tenancyref02_hexGroup.f : Nat → Int → Option (ByteArray)
  | 0, _ => none
  | k + 1, a0 => if a0 < 16 then (if 0 ≤ a0 then (if a0 ≤ (IntKind.u64.wrap (a0 + 1)) then (if (IntKind.u64.wrap (a0 + 1)) ≤ 16 then (some ((⟨#[48, 49, 50, 51, 52, 53, 54, 55, 56, 57, 97, 98, 99, 100, 101, 102]⟩ : ByteArray).extract (a0 : Int).toNat ((IntKind.u64.wrap (a0 + 1)) : Int).toNat)) else (none)) else (none)) else (none)) else ((tenancyref02_hexGroup.f k (IntKind.u64.wrap (Int.tdiv a0 16))).bind fun t101 => (if 0 ≤ (Int.tmod a0 16) then (if (Int.tmod a0 16) ≤ (IntKind.u64.wrap ((Int.tmod a0 16) + 1)) then (if (IntKind.u64.wrap ((Int.tmod a0 16) + 1)) ≤ 16 then (if t101.size + ((⟨#[48, 49, 50, 51, 52, 53, 54, 55, 56, 57, 97, 98, 99, 100, 101, 102]⟩ : ByteArray).extract ((Int.tmod a0 16) : Int).toNat ((IntKind.u64.wrap ((Int.tmod a0 16) + 1)) : Int).toNat).size ≤ 9223372036854775807 then (some (t101 ++ ((⟨#[48, 49, 50, 51, 52, 53, 54, 55, 56, 57, 97, 98, 99, 100, 101, 102]⟩ : ByteArray).extract ((Int.tmod a0 16) : Int).toNat ((IntKind.u64.wrap ((Int.tmod a0 16) + 1)) : Int).toNat))) else (none)) else (none)) else (none)) else (none)))
theorem tenancyref02_hexGroup.mono_l : ∀ k, (∀ y0, LeO (tenancyref02_hexGroup.f k y0) (tenancyref02_hexGroup.f (k + 1) y0))
  | 0 => fun _ r h => by simp [tenancyref02_hexGroup.f] at h
  | k + 1 => by
    have ih0 := tenancyref02_hexGroup.mono_l k
    · intro y0
      unfold tenancyref02_hexGroup.f
      repeat' first
      | (with_reducible exact ih0 _)
      | (with_reducible exact LeO.refl _)
      | (with_reducible exact LeO.none _)
      | (with_reducible refine LeO.ite ?_ ?_)
      | (with_reducible refine LeO.bind ?_ (fun _ => ?_))
      | exact ih0 _
      | exact LeO.none _
      | refine LeO.ite ?_ ?_
      | refine LeO.bind ?_ (fun _ => ?_)
theorem tenancyref02_hexGroup.mono : ∀ a0 k, LeO (tenancyref02_hexGroup.f k a0) (tenancyref02_hexGroup.f (k + 1) a0) := by
  intro a0 k
  have ih0 := tenancyref02_hexGroup.mono_l k
  exact ih0 a0
def tenancyref02_hexGroup.T3 : Bool × List (List Nat × List Nat) := (true, [([], []), ([0], [0]), ([1], [1]), ([], []), ([3], [3]), ([], []), ([5], [5]), ([6], [6]), ([4, 7], [4, 7]), ([2, 8], [2, 8]), ([9, 2, 0, 1, 2, 3, 4, 5, 6, 7, 8, 9], [9])])
def tenancyref02_hexGroup.B3 : List Nat := [0, 1, 3, 0, 8, 0, 32, 96, 248, 511, 1023]
theorem tenancyref02_hexGroup.tab3 : rtab .any (opsOf Tryd.f56 3) = tenancyref02_hexGroup.T3 := by kernel_rfl
theorem tenancyref02_hexGroup.bits3 : waitsOk tenancyref02_hexGroup.T3.2 tenancyref02_hexGroup.B3 = true := by kernel_rfl
set_option maxHeartbeats 8000000 in
set_option maxRecDepth 100000 in
theorem tenancyref02_hexGroup.calls (k : Nat) : ∀ (a0 : Int) (r : ByteArray) (w : World) (h : tenancyref02_hexGroup.f k a0 = some r),
    Calls Tryd.prog 56 #[.int .u64 a0] w fun e w' => e = .returned (.string r) ∧ Below w.heap.size w w' := by
  induction k using Nat.strongRecOn with
  | _ k ih =>
  intro a0 r w h
  cases k with
  | zero => exact absurd h (by simp [tenancyref02_hexGroup.f])
  | succ k =>
  simp only [tenancyref02_hexGroup.f] at h
  have HB := Aside0.mk (Below.refl w.heap.size w)
  have H : (if a0 < 16 then (if 0 ≤ a0 then (if a0 ≤ (IntKind.u64.wrap (a0 + 1)) then (if (IntKind.u64.wrap (a0 + 1)) ≤ 16 then (some ((⟨#[48, 49, 50, 51, 52, 53, 54, 55, 56, 57, 97, 98, 99, 100, 101, 102]⟩ : ByteArray).extract (a0 : Int).toNat ((IntKind.u64.wrap (a0 + 1)) : Int).toNat)) else (none)) else (none)) else (none)) else ((tenancyref02_hexGroup.f k (IntKind.u64.wrap (Int.tdiv a0 16))).bind fun t101 => (if 0 ≤ (Int.tmod a0 16) then (if (Int.tmod a0 16) ≤ (IntKind.u64.wrap ((Int.tmod a0 16) + 1)) then (if (IntKind.u64.wrap ((Int.tmod a0 16) + 1)) ≤ 16 then (if t101.size + ((⟨#[48, 49, 50, 51, 52, 53, 54, 55, 56, 57, 97, 98, 99, 100, 101, 102]⟩ : ByteArray).extract ((Int.tmod a0 16) : Int).toNat ((IntKind.u64.wrap ((Int.tmod a0 16) + 1)) : Int).toNat).size ≤ 9223372036854775807 then (some (t101 ++ ((⟨#[48, 49, 50, 51, 52, 53, 54, 55, 56, 57, 97, 98, 99, 100, 101, 102]⟩ : ByteArray).extract ((Int.tmod a0 16) : Int).toNat ((IntKind.u64.wrap ((Int.tmod a0 16) + 1)) : Int).toNat))) else (none)) else (none)) else (none)) else (none)))) = some r := h
  clear h
  by_cases c2 : a0 < 16
  · rw [if_pos c2] at H
    have c2b0 : decide (a0 < 16) = true := decide_eq_true c2
    clear c2
    by_cases c3 : 0 ≤ a0
    · rw [if_pos c3] at H
      have c3b0 := eq_true c3
      have c3b1 : decide (0 ≤ a0) = true := decide_eq_true c3
      clear c3
      by_cases c4 : a0 ≤ (IntKind.u64.wrap (a0 + 1))
      · rw [if_pos c4] at H
        have c4b0 := eq_true c4
        have c4b1 : decide (a0 ≤ (IntKind.u64.wrap (a0 + 1))) = true := decide_eq_true c4
        by_cases c5 : (IntKind.u64.wrap (a0 + 1)) ≤ 16
        · rw [if_pos c5] at H
          have c5b0 := eq_true c5
          have c5b1 : decide ((IntKind.u64.wrap (a0 + 1)) ≤ 16) = true := decide_eq_true c5
          obtain rfl := Option.some.inj H
          go_enter Tryd.func56, Tryd.ntmps56
          go_wp2
          go_ret
          exact ⟨by first | rfl | (simp [errW_none, errW_some] <;> rfl) | (simp [*, errW_none, errW_some] <;> rfl), by repeat (first | (with_reducible first | exact HB.out | apply below_alloc | apply pw_below_drewN | apply below_drew1) | exact HB.out)⟩
        · rw [if_neg c5] at H
          exact absurd H (by simp)
      · rw [if_neg c4] at H
        exact absurd H (by simp)
    · rw [if_neg c3] at H
      exact absurd H (by simp)
  · rw [if_neg c2] at H
    have c2b0 : decide (a0 < 16) = false := decide_eq_false c2
    clear c2
    replace H := Option.bind_eq_some_iff.mp H
    obtain ⟨t101, A60, H⟩ := H
    replace H : (if 0 ≤ (Int.tmod a0 16) then (if (Int.tmod a0 16) ≤ (IntKind.u64.wrap ((Int.tmod a0 16) + 1)) then (if (IntKind.u64.wrap ((Int.tmod a0 16) + 1)) ≤ 16 then (if t101.size + ((⟨#[48, 49, 50, 51, 52, 53, 54, 55, 56, 57, 97, 98, 99, 100, 101, 102]⟩ : ByteArray).extract ((Int.tmod a0 16) : Int).toNat ((IntKind.u64.wrap ((Int.tmod a0 16) + 1)) : Int).toNat).size ≤ 9223372036854775807 then (some (t101 ++ ((⟨#[48, 49, 50, 51, 52, 53, 54, 55, 56, 57, 97, 98, 99, 100, 101, 102]⟩ : ByteArray).extract ((Int.tmod a0 16) : Int).toNat ((IntKind.u64.wrap ((Int.tmod a0 16) + 1)) : Int).toNat))) else (none)) else (none)) else (none)) else (none)) = some r := H
    have A6 := Aside0.mk A60
    clear A60
    obtain ⟨ji7, hji7⟩ : ∃ j_ : Int, (Int.tmod a0 16) = j_ := ⟨_, rfl⟩
    replace H : (if 0 ≤ (ji7) then (if (ji7) ≤ (IntKind.u64.wrap ((ji7) + 1)) then (if (IntKind.u64.wrap ((ji7) + 1)) ≤ 16 then (if t101.size + ((⟨#[48, 49, 50, 51, 52, 53, 54, 55, 56, 57, 97, 98, 99, 100, 101, 102]⟩ : ByteArray).extract ((ji7) : Int).toNat ((IntKind.u64.wrap ((ji7) + 1)) : Int).toNat).size ≤ 9223372036854775807 then (some (t101 ++ ((⟨#[48, 49, 50, 51, 52, 53, 54, 55, 56, 57, 97, 98, 99, 100, 101, 102]⟩ : ByteArray).extract ((ji7) : Int).toNat ((IntKind.u64.wrap ((ji7) + 1)) : Int).toNat))) else (none)) else (none)) else (none)) else (none)) = some r := by first | (rw [hji7] at H; exact H) | (simp only [hji7] at H ⊢; exact H)
    (try rw [hji7] at A6)
    by_cases c8 : 0 ≤ (ji7)
    · rw [if_pos c8] at H
      have c8b0 := eq_true c8
      have c8b1 : decide (0 ≤ (ji7)) = true := decide_eq_true c8
      clear c8
      by_cases c9 : (ji7) ≤ (IntKind.u64.wrap ((ji7) + 1))
      · rw [if_pos c9] at H
        have c9b0 := eq_true c9
        have c9b1 : decide ((ji7) ≤ (IntKind.u64.wrap ((ji7) + 1))) = true := decide_eq_true c9
        by_cases c10 : (IntKind.u64.wrap ((ji7) + 1)) ≤ 16
        · rw [if_pos c10] at H
          have c10b0 := eq_true c10
          have c10b1 : decide ((IntKind.u64.wrap ((ji7) + 1)) ≤ 16) = true := decide_eq_true c10
          by_cases c11 : t101.size + ((⟨#[48, 49, 50, 51, 52, 53, 54, 55, 56, 57, 97, 98, 99, 100, 101, 102]⟩ : ByteArray).extract ((ji7) : Int).toNat ((IntKind.u64.wrap ((ji7) + 1)) : Int).toNat).size ≤ 9223372036854775807
          · rw [if_pos c11] at H
            have c11b0 := eq_true c11
            have c11b1 : decide (t101.size + ((⟨#[48, 49, 50, 51, 52, 53, 54, 55, 56, 57, 97, 98, 99, 100, 101, 102]⟩ : ByteArray).extract ((ji7) : Int).toNat ((IntKind.u64.wrap ((ji7) + 1)) : Int).toNat).size ≤ 9223372036854775807) = true := decide_eq_true c11
            try have c11b2 : (9223372036854775807 < t101.size + ((⟨#[48, 49, 50, 51, 52, 53, 54, 55, 56, 57, 97, 98, 99, 100, 101, 102]⟩ : ByteArray).extract ((ji7) : Int).toNat ((IntKind.u64.wrap ((ji7) + 1)) : Int).toNat).size) = False := eq_false (Nat.not_lt.2 c11)
            have c11b3 : (9223372036854775807 < t101.size + (((IntKind.u64.wrap ((ji7) + 1)) : Int).toNat - ((ji7) : Int).toNat)) = False := eq_false (by have h_ := c11; have e_ : (((⟨#[48, 49, 50, 51, 52, 53, 54, 55, 56, 57, 97, 98, 99, 100, 101, 102]⟩ : ByteArray)).extract ((ji7) : Int).toNat ((IntKind.u64.wrap ((ji7) + 1)) : Int).toNat).size = min ((IntKind.u64.wrap ((ji7) + 1)) : Int).toNat 16 - ((ji7) : Int).toNat := ByteArray.size_extract; have q_ : (IntKind.u64.wrap ((ji7) + 1)) ≤ 16 := (by first | assumption | exact of_decide_eq_true (by assumption)); omega)
            obtain rfl := Option.some.inj H
            go_enter Tryd.func56, Tryd.ntmps56
            try go_wp2
            have n0_ := Aside0.mk (below_drew1 HB.out)
            clear HB
            have HB := n0_
            clear n0_
            refine start_ (n := 11) (S := fun w' => True) (ds := []) #[false, false, false, false, false, false, false, false, false, false, false] (by kernel_rfl) rfl rfl trivial (fun hHeld => ?_); refine with_tabW tenancyref02_hexGroup.tab3 tenancyref02_hexGroup.bits3 (fun HT_ HW_ => ?_)
            generalize w.drew = w12 at HB hHeld ⊢
            refine pure_ (i := 0) (N := some 9) (v := ?_) (a' := ?_) #[true, false, false, false, false, false, false, false, false, false, false] rfl rfl (any_of HT_.out (by kernel_rfl)) (fun _ _ _ h => h) (Or.inl ⟨by rfl, ?_⟩) ?_ ?_
            rotate_left
            · intro w'
              go_simp
              with_reducible rfl
            rotate_left
            · simp only [Act.put, List.setIfInBounds_toArray, List.set_cons_zero, List.set_cons_succ, i64_w, i32_w]
              rfl
            refine pure_ (i := 1) (N := some 10) (v := ?_) (a' := ?_) #[true, true, false, false, false, false, false, false, false, false, false] rfl rfl (any_of HT_.out (by kernel_rfl)) (fun _ _ _ h => h) (Or.inl ⟨by rfl, ?_⟩) ?_ ?_
            rotate_left
            · intro w'
              go_simp
              with_reducible rfl
            rotate_left
            · simp only [Act.put, List.setIfInBounds_toArray, List.set_cons_zero, List.set_cons_succ, i64_w, i32_w]
              rfl
            refine pure_ (i := 3) (N := some 12) (v := ?_) (a' := ?_) #[true, true, false, true, false, false, false, false, false, false, false] rfl rfl (any_of HT_.out (by kernel_rfl)) (fun _ _ _ h => h) (Or.inl ⟨by rfl, ?_⟩) ?_ ?_
            rotate_left
            · intro w'
              go_simp
              with_reducible rfl
            rotate_left
            · simp only [Act.put, List.setIfInBounds_toArray, List.set_cons_zero, List.set_cons_succ, i64_w, i32_w]
              rfl
            refine pure_ (i := 4) (N := some 13) (v := ?_) (a' := ?_) #[true, true, false, true, true, false, false, false, false, false, false] rfl rfl (any_of HT_.out (by kernel_rfl)) (fun _ _ _ h => h) (Or.inl ⟨by rfl, ?_⟩) ?_ ?_
            rotate_left
            · intro w'
              go_simp
              with_reducible rfl
            rotate_left
            · simp only [Act.put, List.setIfInBounds_toArray, List.set_cons_zero, List.set_cons_succ, i64_w, i32_w]
              rfl
            refine pure_ (i := 5) (N := some 14) (v := ?_) (a' := ?_) #[true, true, false, true, true, true, false, false, false, false, false] rfl rfl (any_of HT_.out (by kernel_rfl)) (fun _ _ _ h => h) (Or.inl ⟨by rfl, ?_⟩) ?_ ?_
            rotate_left
            · intro w'
              go_simp
              with_reducible rfl
            rotate_left
            · simp only [Act.put, List.setIfInBounds_toArray, List.set_cons_zero, List.set_cons_succ, i64_w, i32_w]
              rfl
            refine pure_ (i := 6) (N := some 15) (v := ?_) (a' := ?_) #[true, true, false, true, true, true, true, false, false, false, false] rfl rfl (any_of HT_.out (by kernel_rfl)) (fun _ _ _ h => h) (Or.inl ⟨by rfl, ?_⟩) ?_ ?_
            rotate_left
            · intro w'
              go_simp
              with_reducible rfl
            rotate_left
            · simp only [Act.put, List.setIfInBounds_toArray, List.set_cons_zero, List.set_cons_succ, i64_w, i32_w]
              rfl
            refine pure_ (i := 7) (N := some 16) (v := ?_) (a' := ?_) #[true, true, false, true, true, true, true, true, false, false, false] rfl rfl (any_of HT_.out (by kernel_rfl)) (fun _ _ _ h => h) (Or.inl ⟨by rfl, ?_⟩) ?_ ?_
            rotate_left
            · intro w'
              go_simp
              with_reducible rfl
            rotate_left
            · simp only [Act.put, List.setIfInBounds_toArray, List.set_cons_zero, List.set_cons_succ, i64_w, i32_w]
              rfl
            refine pure_ (i := 8) (N := some 17) (v := ?_) (a' := ?_) #[true, true, false, true, true, true, true, true, true, false, false] rfl rfl (any_of HT_.out (by kernel_rfl)) (fun _ _ _ h => h) (Or.inl ⟨by rfl, ?_⟩) ?_ ?_
            rotate_left
            · intro w'
              go_simp
              with_reducible rfl
            rotate_left
            · simp only [Act.put, List.setIfInBounds_toArray, List.set_cons_zero, List.set_cons_succ, i64_w, i32_w]
              rfl
            refine one_ (i := 2) (N := some 11) #[true, true, true, true, true, true, true, true, true, false, false] rfl rfl (one_of HT_.out (by kernel_rfl)) (by decide) (fun K hK => ?_)
            refine goes_ Tryd.func56 (by kernel_rfl) rfl #[.int .u64 (IntKind.u64.wrap (Int.tdiv a0 16))] (by rfl) rfl rfl (by (try simp only [List.map_toArray, List.map_cons, List.map_nil]); first | done | rfl | (simp only [List.length_drop, List.length_take]; rfl)) ?_
            with_reducible refine (ih k (by omega) (IntKind.u64.wrap (Int.tdiv a0 16)) t101 _ A6.out).mono ?_
            rintro e w13 ⟨rfl, hb⟩
            refine ⟨_, rfl, ?_⟩
            have n0_ := Aside0.mk (below_step (by repeat (first | (with_reducible first | exact HB.out | apply below_alloc | apply pw_below_drewN | apply below_drew1) | exact HB.out)) hb)
            clear HB
            have HB := n0_
            clear n0_
            (try clear hb)
            (try clear hb2)
            (try clear hk)
            (try clear hi)
            refine hK.out _ _ trivial (fun hHeld => ?_)
            clear hK K
            refine norm_ (a' := ?_) ?_ ?_
            rotate_left
            · show Act.put _ (some 11) _ = _
              simp only [Act.put, List.setIfInBounds_toArray, List.set_cons_zero, List.set_cons_succ, i64_w, i32_w]
              rfl
            refine pure_ (i := 9) (N := some 18) (v := ?_) (a' := ?_) #[true, true, true, true, true, true, true, true, true, true, false] rfl rfl (any_of HT_.out (by kernel_rfl)) (fun _ _ _ h => h) (Or.inl ⟨by rfl, ?_⟩) ?_ ?_
            rotate_left
            · intro w'
              go_simp
              with_reducible rfl
            rotate_left
            · simp only [Act.put, List.setIfInBounds_toArray, List.set_cons_zero, List.set_cons_succ, i64_w, i32_w]
              rfl
            refine pure_ (i := 10) (N := some 2) (v := ?_) (a' := ?_) #[true, true, true, true, true, true, true, true, true, true, true] rfl rfl (any_of HT_.out (by kernel_rfl)) (fun _ _ _ h => h) (Or.inl ⟨by rfl, ?_⟩) ?_ ?_
            rotate_left
            · intro w'
              go_simp
              with_reducible rfl
            rotate_left
            · simp only [Act.put, List.setIfInBounds_toArray, List.set_cons_zero, List.set_cons_succ, i64_w, i32_w]
              rfl
            refine done_ (done_of HT_.out (by kernel_rfl)) ?_
            try go_wp2
            go_ret
            exact ⟨by first | rfl | (simp [errW_none, errW_some] <;> rfl) | (simp only [← hji7]; first | rfl | (simp [errW_none, errW_some] <;> rfl)) | (simp [*, errW_none, errW_some] <;> rfl), by repeat (first | (with_reducible first | exact HB.out | apply below_alloc | apply pw_below_drewN | apply below_drew1) | exact HB.out)⟩
          · rw [if_neg c11] at H
            exact absurd H (by simp)
        · rw [if_neg c10] at H
          exact absurd H (by simp)
      · rw [if_neg c9] at H
        exact absurd H (by simp)
    · rw [if_neg c8] at H
      exact absurd H (by simp)

end Go.Proofs.YtmegbllhidkmoaaDoor.Tv

-- BY wip/tools/gprint.py, over the kit's printer: machine-made text of this session
namespace Go.Proofs.YtmegbllhidkmoaaDoor.Tv
open Go.RowKit Go.Proofs.YtmegbllhidkmoaaDoor.Tx Go.Proofs.YtmegbllhidkmoaaDoorW.PrintWords Go.Proofs.YtmegbllhidkmoaaDoorW.PrintLast Go.Proofs.YtmegbllhidkmoaaDoorW.PrintMore
attribute [local go_sem] max2_int min2_int max_two min_two max_three min_three max_four min_four   -- for this text's walks alone
attribute [local go_sem] fld28_0 fld28_1 fld33_0 fld33_1
set_option linter.unusedVariables false
set_option linter.unusedSimpArgs false

end Go.Proofs.YtmegbllhidkmoaaDoor.Tv

/- tenancyref02.groups and tenancyref02.Put6. -/
namespace Go.Proofs.YtmegbllhidkmoaaDoor.Tx
open Go.RowKit Go.Lib Go.Proofs.YtmegbllhidkmoaaDoorW.PrintWords
set_option linter.unusedVariables false

/-- The group i of an address, as the reference reckons it. -/
def gpw (hi lo : Int) : Nat → Int
  | 0 => (hi / 281474976710656).tmod 65536
  | 1 => (hi / 4294967296).tmod 65536
  | 2 => (hi / 65536).tmod 65536
  | 3 => hi.tmod 65536
  | 4 => (lo / 281474976710656).tmod 65536
  | 5 => (lo / 4294967296).tmod 65536
  | 6 => (lo / 65536).tmod 65536
  | _ => lo.tmod 65536
theorem gpv4 (hi lo : Int) (i : Nat) : Value.int .u64 (if i % 4 < 4 then gpw hi lo i else 0) = .int .u64 (gpw hi lo i) := by rw [if_pos (Nat.mod_lt _ (by decide))]
def gpv (hi lo : Int) (i j : Nat) : Value := .int .u64 (if i % 4 < j then gpw hi lo i else 0)

set_option maxHeartbeats 3200000 in
set_option maxRecDepth 100000 in
theorem groups_calls (hi lo : Int) (w : World) :
    Calls Tryd.prog 55 #[.agg #[.int .u64 hi, .int .u64 lo]] w fun e w' => e = .returned (.agg #[.int .u64 (gpw hi lo 0), .int .u64 (gpw hi lo 1), .int .u64 (gpw hi lo 2), .int .u64 (gpw hi lo 3), .int .u64 (gpw hi lo 4), .int .u64 (gpw hi lo 5), .int .u64 (gpw hi lo 6), .int .u64 (gpw hi lo 7)]) ∧ Below w.heap.size w w' := by
  go_enter Tryd.func55, Tryd.ntmps55
  go_wp2_with fail
  go_loopw [4] (fun v4 wr => ∃ j : Nat, j ≤ 4 ∧ v4 = .int .i64 j ∧ wr = ((w.alloc (.cells #[.int .u64 hi, .int .u64 lo] 28)).alloc (.cells #[.int .u64 0, .int .u64 0, .int .u64 0, .int .u64 0, .int .u64 0, .int .u64 0, .int .u64 0, .int .u64 0] 83)).alloc (.cells #[gpv hi lo 0 j, gpv hi lo 1 j, gpv hi lo 2 j, gpv hi lo 3 j, gpv hi lo 4 j, gpv hi lo 5 j, gpv hi lo 6 j, gpv hi lo 7 j] 83)) (fun v4 _ => 4 - (RowKit.intOf v4).toNat)
  case atStart => exact ⟨0, Nat.zero_le _, rfl, rfl⟩
  case round =>
    obtain ⟨j, hj, rfl, rfl⟩ := hrel
    have hj5 : j = 0 ∨ j = 1 ∨ j = 2 ∨ j = 3 ∨ j = 4 := by omega
    rcases hj5 with rfl | rfl | rfl | rfl | rfl
    · go_wp2_with fail
      go_roundw
      case rel => exact ⟨1, by omega, rfl, rfl⟩
      case measure => decide
    · go_wp2_with fail
      go_roundw
      case rel => exact ⟨2, by omega, rfl, rfl⟩
      case measure => decide
    · go_wp2_with fail
      go_roundw
      case rel => exact ⟨3, by omega, rfl, rfl⟩
      case measure => decide
    · go_wp2_with fail
      go_roundw
      case rel => exact ⟨4, by omega, rfl, rfl⟩
      case measure => decide
    · simp only [gpv, gpv4]
      go_wp2_with fail
      refine bodyPost_ret (v := .agg #[.int .u64 (gpw hi lo 0), .int .u64 (gpw hi lo 1), .int .u64 (gpw hi lo 2), .int .u64 (gpw hi lo 3), .int .u64 (gpw hi lo 4), .int .u64 (gpw hi lo 5), .int .u64 (gpw hi lo 6), .int .u64 (gpw hi lo 7)]) (by simp [results, Tryd.results55, go_sem]) rfl ⟨rfl, below_alloc (below_alloc (below_alloc (Below.refl _ w) _) _) _⟩

/-- The group i as a number. -/
def gpn (hi lo : Int) (i : Nat) : Nat := (gpw hi lo i).toNat
theorem gpn_gpw (hi lo : Int) (h0 : 0 ≤ hi) (h2 : 0 ≤ lo) (i : Nat) : gpw hi lo i = (gpn hi lo i : Int) := by
  have h : 0 ≤ gpw hi lo i := by
    unfold gpw
    split <;> exact Int.tmod_nonneg _ (by omega)
  unfold gpn; omega

theorem write6_hit (X : Nat → List UInt8) (best i : Nat) (s : ByteArray) {L : List UInt8} (h : ∃ m, 9 - i ≤ m ∧ write6 X best (i : Int) m i s.data.toList = L) (hlt : i < 8) (hb : 2 ≤ best) :
    ∃ m, 9 - (i + best) ≤ m ∧ write6 X best (i : Int) m (i + best) (s ++ ⟨#[58, 58]⟩).data.toList = L := by
  obtain ⟨m, hm, h⟩ := h
  obtain ⟨m, rfl⟩ : ∃ j, m = j + 1 := ⟨m - 1, by omega⟩
  rw [write6, if_pos hlt, if_pos rfl] at h
  refine ⟨m, by omega, ?_⟩
  rw [← h]
  simp
theorem write6_miss0 (X : Nat → List UInt8) (best : Nat) (from_ : Int) (i : Nat) (s : ByteArray) {L : List UInt8} (h : ∃ m, 9 - i ≤ m ∧ write6 X best from_ m i s.data.toList = L) (hlt : i < 8) (he : ¬ (i : Int) = from_) (hz : s.size = 0) :
    ∃ m, 9 - (i + 1) ≤ m ∧ write6 X best from_ m (i + 1) (s ++ ⟨(X i).toArray⟩).data.toList = L := by
  obtain ⟨m, hm, h⟩ := h
  obtain ⟨m, rfl⟩ : ∃ j, m = j + 1 := ⟨m - 1, by omega⟩
  have e : s.data.toList = [] := List.eq_nil_of_length_eq_zero (by rw [Array.length_toList]; exact hz)
  rw [write6, if_pos hlt, if_neg he, if_neg (fun hc => hc.1 e)] at h
  refine ⟨m, by omega, ?_⟩
  rw [← h]
  simp
theorem byte_last (s : ByteArray) (h : s.size - 1 < s.size) : (s[s.size - 1]'h).toNat = (s.data.toList.getLastD 0).toNat := by
  have hl : s.data.toList.length = s.size := by rw [Array.length_toList]; rfl
  rw [List.getLastD_eq_getLast?, List.getLast?_eq_getElem?, hl, List.getElem?_eq_getElem (by omega), Option.getD_some]
  rfl
theorem write6_miss1 (X : Nat → List UInt8) (best : Nat) (from_ : Int) (i : Nat) (s : ByteArray) {L : List UInt8} (h : ∃ m, 9 - i ≤ m ∧ write6 X best from_ m i s.data.toList = L) (hlt : i < 8) (he : ¬ (i : Int) = from_) (hz : s.size - 1 < s.size) (h58 : (s[s.size - 1]'hz).toNat = 58) :
    ∃ m, 9 - (i + 1) ≤ m ∧ write6 X best from_ m (i + 1) (s ++ ⟨(X i).toArray⟩).data.toList = L := by
  obtain ⟨m, hm, h⟩ := h
  obtain ⟨m, rfl⟩ : ∃ j, m = j + 1 := ⟨m - 1, by omega⟩
  rw [byte_last s hz] at h58
  have e : s.data.toList.getLastD 0 = 58 := UInt8.toNat_inj.1 h58
  rw [write6, if_pos hlt, if_neg he, if_neg (fun hc => hc.2 e)] at h
  refine ⟨m, by omega, ?_⟩
  rw [← h]
  simp
theorem write6_miss2 (X : Nat → List UInt8) (best : Nat) (from_ : Int) (i : Nat) (s : ByteArray) {L : List UInt8} (h : ∃ m, 9 - i ≤ m ∧ write6 X best from_ m i s.data.toList = L) (hlt : i < 8) (he : ¬ (i : Int) = from_) (hz : s.size - 1 < s.size) (h58 : ¬ (s[s.size - 1]'hz).toNat = 58) :
    ∃ m, 9 - (i + 1) ≤ m ∧ write6 X best from_ m (i + 1) (s ++ ⟨#[58]⟩ ++ ⟨(X i).toArray⟩).data.toList = L := by
  obtain ⟨m, hm, h⟩ := h
  obtain ⟨m, rfl⟩ : ∃ j, m = j + 1 := ⟨m - 1, by omega⟩
  rw [byte_last s hz] at h58
  have e : s.data.toList ≠ [] := fun e => by have h' := congrArg List.length e; rw [Array.length_toList] at h'; have : s.size = 0 := h'; omega
  have e2 : s.data.toList.getLastD 0 ≠ 58 := fun e => h58 (by rw [e]; rfl)
  rw [write6, if_pos hlt, if_neg he, if_pos ⟨e, e2⟩] at h
  refine ⟨m, by omega, ?_⟩
  rw [← h]
  simp
theorem write6_end (X : Nat → List UInt8) (best : Nat) (from_ : Int) (s : ByteArray) {L : List UInt8} (h : ∃ m, 9 - 8 ≤ m ∧ write6 X best from_ m 8 s.data.toList = L) : s = ⟨L.toArray⟩ := by
  obtain ⟨m, hm, h⟩ := h
  obtain ⟨m, rfl⟩ : ∃ j, m = j + 1 := ⟨m - 1, by omega⟩
  rw [write6, if_neg (by decide)] at h
  rw [← h]

set_option maxHeartbeats 3200000 in
set_option maxRecDepth 100000 in
theorem put6_walk (hi lo : Int) (h0 : 0 ≤ hi) (h2 : 0 ≤ lo) (X : Nat → List UInt8) (w : World)
    (hX : ∀ i, i < 8 → ∃ k, Tv.tenancyref02_hexGroup.f k (gpn hi lo i : Int) = some ⟨(X i).toArray⟩) (hXs : ∀ i, (X i).length ≤ 4) :
    Calls Tryd.prog 26 #[.agg #[.int .u64 hi, .int .u64 lo]] w fun e w' => e = .returned (.string ⟨(put6L (gpn hi lo) X).toArray⟩) ∧ Below w.heap.size w w' := by
  have HX := Aside0.mk hX
  have HXs := Aside0.mk hXs
  clear hX hXs
  have e0 := gpn_gpw hi lo h0 h2 0
  have e1 := gpn_gpw hi lo h0 h2 1
  have e2 := gpn_gpw hi lo h0 h2 2
  have e3 := gpn_gpw hi lo h0 h2 3
  have e4 := gpn_gpw hi lo h0 h2 4
  have e5 := gpn_gpw hi lo h0 h2 5
  have e6 := gpn_gpw hi lo h0 h2 6
  have e7 := gpn_gpw hi lo h0 h2 7
  go_enter Tryd.func26, Tryd.ntmps26
  go_wp2_with fail
  refine (groups_calls hi lo _).mono ?_
  rintro e w1 ⟨rfl, hb⟩
  rw [e0, e1, e2, e3, e4, e5, e6, e7]
  clear e0 e1 e2 e3 e4 e5 e6 e7
  generalize hG : gpn hi lo = G at HX
  have HGe := Aside0.mk hG
  clear hG h0 h2
  have HB := Aside0.mk hb
  clear hb
  go_wp2_with fail
  have HB1 := Aside0.mk (show Below w.heap.size w (w1.alloc (.cells #[.int .u64 (G 0), .int .u64 (G 1), .int .u64 (G 2), .int .u64 (G 3), .int .u64 (G 4), .int .u64 (G 5), .int .u64 (G 6), .int .u64 (G 7)] 83)) from below_alloc ((below_alloc (Below.refl _ w) _).trans (HB.out.mono (by simp))) _)
  have hcell : ∀ j, j < 8 → (w1.alloc (.cells #[.int .u64 (G 0), .int .u64 (G 1), .int .u64 (G 2), .int .u64 (G 3), .int .u64 (G 4), .int .u64 (G 5), .int .u64 (G 6), .int .u64 (G 7)] 83)).cell? ⟨w1.heap.size, j, none⟩ = some (.int .u64 (G j)) := fun j hj => by
    rw [World.cell?_alloc_new]
    have h8 : j = 0 ∨ j = 1 ∨ j = 2 ∨ j = 3 ∨ j = 4 ∨ j = 5 ∨ j = 6 ∨ j = 7 := by omega
    rcases h8 with rfl | rfl | rfl | rfl | rfl | rfl | rfl | rfl <;> rfl
  generalize hW : w1.alloc (.cells #[.int .u64 (G 0), .int .u64 (G 1), .int .u64 (G 2), .int .u64 (G 3), .int .u64 (G 4), .int .u64 (G 5), .int .u64 (G 6), .int .u64 (G 7)] 83) = W1 at HB1 hcell ⊢
  have hsz : w1.heap.size < W1.heap.size := by rw [← hW, World.size_alloc]; exact Nat.lt_succ_self _
  clear hW HB
  generalize w1.heap.size = b at hcell hsz ⊢
  have HC := Aside0.mk hcell
  have HZ := Aside0.mk hsz
  clear hcell hsz
  go_loopw [4, 5, 6] (fun v4 v5 v6 wr => W1 = wr ∧ ∃ i : Nat, i ≤ 8 ∧ v4 = .int .i64 (scan6 G i).1 ∧ v5 = .int .i64 (scan6 G i).2 ∧ v6 = .int .i64 i) (fun _ _ v6 _ => 8 - (RowKit.intOf v6).toNat)
  case atStart => exact ⟨rfl, 0, by omega, rfl, rfl, rfl⟩
  case round =>
    obtain ⟨rfl, i, hi, rfl, rfl, rfl⟩ := hrel
    obtain ⟨hs1, hs2, hs3, hs4⟩ := scan6_bounds G i hi
    by_cases hlt : i < 8
    · have ilt : (i : Int) < 8 := by omega
      go_wp2_with fail
      go_loopw [7] (fun v7 wr => W1 = wr ∧ ∃ n : Nat, v7 = .int .i64 n ∧ i + n ≤ 8 ∧ Aside0 (ZRow G i n)) (fun v7 _ => 8 - (RowKit.intOf v7).toNat)
      case atStart => exact ⟨rfl, 0, rfl, by omega, ⟨fun j h1 h2 => by omega⟩⟩
      case round =>
        obtain ⟨rfl, n, rfl, hn, HZR⟩ := hrel
        by_cases hn8 : i + n < 8
        · have hn8' : (i : Int) + (n : Int) < 8 := by omega
          have hc := HC.out (i + n) hn8
          by_cases hz : G (i + n) = 0
          · have hz' : (G (i + n) : Int) = 0 := by omega
            go_wp2_with fail
            go_roundw
            case rel => exact ⟨trivial, n + 1, by go_num, by omega, ⟨fun j h1 h2 => by
              by_cases e : j = i + n
              · rw [e]; exact hz
              · exact HZR.out j h1 (by omega)⟩⟩
            case measure => simp [RowKit.intOf]; omega
          · have hz' : ¬ (G (i + n) : Int) = 0 := by omega
            have hst := Aside0.mk (scan6_step G i n (zrun_eq G i n hn HZR.out (.inr hz)))
            by_cases hc2 : 2 ≤ n
            · by_cases hcb : (scan6 G i).1 < n
              · have i2 : (2 : Int) ≤ (n : Int) := by omega
                have i3 : ((scan6 G i).1 : Int) < (n : Int) := by omega
                go_wp2_with fail
                go_roundw
                case rel => exact ⟨trivial, i + 1, by omega, by rw [hst.out, if_pos ⟨hc2, hcb⟩], by rw [hst.out, if_pos ⟨hc2, hcb⟩], by go_num⟩
                case measure => simp [RowKit.intOf]; omega
              · have i2 : (2 : Int) ≤ (n : Int) := by omega
                have i3 : ¬ ((scan6 G i).1 : Int) < (n : Int) := by omega
                go_wp2_with fail
                go_roundw
                case rel => exact ⟨trivial, i + 1, by omega, by rw [hst.out, if_neg (fun h => hcb h.2)], by rw [hst.out, if_neg (fun h => hcb h.2)], by go_num⟩
                case measure => simp [RowKit.intOf]; omega
            · have i2 : ¬ (2 : Int) ≤ (n : Int) := by omega
              go_wp2_with fail
              go_roundw
              case rel => exact ⟨trivial, i + 1, by omega, by rw [hst.out, if_neg (fun h => hc2 h.1)], by rw [hst.out, if_neg (fun h => hc2 h.1)], by go_num⟩
              case measure => simp [RowKit.intOf]; omega
        · have hn8' : ¬ (i : Int) + (n : Int) < 8 := by omega
          have hst := Aside0.mk (scan6_step G i n (zrun_eq G i n hn HZR.out (.inl (by omega))))
          by_cases hc2 : 2 ≤ n
          · by_cases hcb : (scan6 G i).1 < n
            · have i2 : (2 : Int) ≤ (n : Int) := by omega
              have i3 : ((scan6 G i).1 : Int) < (n : Int) := by omega
              go_wp2_with fail
              go_roundw
              case rel => exact ⟨trivial, i + 1, by omega, by rw [hst.out, if_pos ⟨hc2, hcb⟩], by rw [hst.out, if_pos ⟨hc2, hcb⟩], by go_num⟩
              case measure => simp [RowKit.intOf]; omega
            · have i2 : (2 : Int) ≤ (n : Int) := by omega
              have i3 : ¬ ((scan6 G i).1 : Int) < (n : Int) := by omega
              go_wp2_with fail
              go_roundw
              case rel => exact ⟨trivial, i + 1, by omega, by rw [hst.out, if_neg (fun h => hcb h.2)], by rw [hst.out, if_neg (fun h => hcb h.2)], by go_num⟩
              case measure => simp [RowKit.intOf]; omega
          · have i2 : ¬ (2 : Int) ≤ (n : Int) := by omega
            go_wp2_with fail
            go_roundw
            case rel => exact ⟨trivial, i + 1, by omega, by rw [hst.out, if_neg (fun h => hc2 h.1)], by rw [hst.out, if_neg (fun h => hc2 h.1)], by go_num⟩
            case measure => simp [RowKit.intOf]; omega
    · have h8 : i = 8 := by omega
      subst h8
      rw [show ((8 : Nat) : Int) = 8 from rfl]
      clear hlt hi
      have hL := Aside0.mk (show write6 X (scan6 G 8).1 (scan6 G 8).2 9 0 [] = put6L G X from rfl)
      generalize (scan6 G 8).1 = best at hs1 hs4 hL ⊢
      generalize (scan6 G 8).2 = from_ at hs2 hs3 hs4 hL ⊢
      go_wp2_with fail
      go_loopw [8, 9] (fun v8 v9 wr => ∃ (i : Nat) (s : ByteArray), v8 = .string s ∧ v9 = .int .i64 i ∧ i ≤ 8 ∧ s.size ≤ 5 * i ∧ Aside0 (∃ m, 9 - i ≤ m ∧ write6 X best from_ m i s.data.toList = put6L G X) ∧ Aside0 (∀ j, j < 8 → wr.cell? ⟨b, j, none⟩ = some (.int .u64 (G j))) ∧ Aside0 (b < wr.heap.size) ∧ Aside0 (Below w.heap.size w wr)) (fun _ v9 _ => 8 - (RowKit.intOf v9).toNat)
      case atStart => exact ⟨0, ⟨#[]⟩, rfl, rfl, by omega, Nat.le_refl _, ⟨9, by omega, hL.out⟩, HC, HZ, HB1⟩
      case round =>
        clear hL HC HZ HB1
        obtain ⟨i, s, rfl, rfl, hi, hs, HW, HC, HZ, HB⟩ := hrel
        by_cases hlt : i < 8
        · have ilt : (i : Int) < 8 := by omega
          by_cases he : (i : Int) = from_
          · obtain ⟨hb2, hb8⟩ := hs4 i he.symm
            subst he
            have HS := Aside0.mk (write6_hit X best i s HW.out hlt hb2)
            go_wp2_with fail
            go_roundw
            case rel => exact ⟨i + best, s ++ ⟨#[58, 58]⟩, rfl, by go_num, by omega, by rw [ByteArray.size_append, show (⟨#[58, 58]⟩ : ByteArray).size = 2 from rfl]; omega, HS, HC, HZ, HB⟩
            case measure => simp [RowKit.intOf]; omega
          · obtain ⟨k, hk⟩ := HX.out i hlt
            have HK := Aside0.mk hk
            have hx4 : (⟨(X i).toArray⟩ : ByteArray).size ≤ 4 := by
              have := HXs.out i
              simpa [ByteArray.size] using this
            have hc := HC.out i hlt
            clear hk
            obtain ⟨y, hy⟩ : ∃ y : ByteArray, ⟨(X i).toArray⟩ = y := ⟨_, rfl⟩
            rw [hy] at HK hx4
            by_cases hz : s.size = 0
            · have HS := Aside0.mk (write6_miss0 X best from_ i s HW.out hlt he hz)
              have z0 : (s.size : Int) = 0 := by omega
              rw [hy] at HS
              go_wp2_with fail
              refine (Tv.tenancyref02_hexGroup.calls k _ _ _ HK.out).mono ?_
              rintro e w2 ⟨rfl, hb2⟩
              have HC2 := Aside0.mk (fun j (hj : j < 8) => (hb2.cell (World.block_lt_of_cell? _ _ (HC.out j hj))).trans (HC.out j hj))
              have HZ2 := Aside0.mk (Nat.lt_of_lt_of_le HZ.out hb2.size)
              have HB2 := Aside0.mk (below_step HB.out hb2)
              clear hb2
              go_wp2_with fail
              go_roundw
              case rel => exact ⟨i + 1, s ++ y, rfl, by go_num, by omega, by rw [ByteArray.size_append]; omega, HS, HC2, HZ2, HB2⟩
              case measure => simp [RowKit.intOf]; omega
            · have z0 : 0 < (s.size : Int) := by omega
              have hz' : s.size - 1 < s.size := by omega
              by_cases h58 : (s[s.size - 1]'hz').toNat = 58
              · have HS := Aside0.mk (write6_miss1 X best from_ i s HW.out hlt he hz' h58)
                have h58' : (((s[s.size - 1]'hz').toNat : Int) != 58) = false := by simp; omega
                rw [hy] at HS
                go_wp2_with fail
                refine (Tv.tenancyref02_hexGroup.calls k _ _ _ HK.out).mono ?_
                rintro e w2 ⟨rfl, hb2⟩
                have HC2 := Aside0.mk (fun j (hj : j < 8) => (hb2.cell (World.block_lt_of_cell? _ _ (HC.out j hj))).trans (HC.out j hj))
                have HZ2 := Aside0.mk (Nat.lt_of_lt_of_le HZ.out hb2.size)
                have HB2 := Aside0.mk (below_step HB.out hb2)
                clear hb2
                go_wp2_with fail
                go_roundw
                case rel => exact ⟨i + 1, s ++ y, rfl, by go_num, by omega, by rw [ByteArray.size_append]; omega, HS, HC2, HZ2, HB2⟩
                case measure => simp [RowKit.intOf]; omega
              · have HS := Aside0.mk (write6_miss2 X best from_ i s HW.out hlt he hz' h58)
                have h58' : (((s[s.size - 1]'hz').toNat : Int) != 58) = true := by simp; omega
                rw [hy] at HS
                go_wp2_with fail
                refine (Tv.tenancyref02_hexGroup.calls k _ _ _ HK.out).mono ?_
                rintro e w2 ⟨rfl, hb2⟩
                have HC2 := Aside0.mk (fun j (hj : j < 8) => (hb2.cell (World.block_lt_of_cell? _ _ (HC.out j hj))).trans (HC.out j hj))
                have HZ2 := Aside0.mk (Nat.lt_of_lt_of_le HZ.out hb2.size)
                have HB2 := Aside0.mk (below_step HB.out hb2)
                clear hb2
                go_wp2_with fail
                go_roundw
                case rel => exact ⟨i + 1, s ++ ⟨#[58]⟩ ++ y, rfl, by go_num, by omega, by rw [ByteArray.size_append, ByteArray.size_append, show (⟨#[58]⟩ : ByteArray).size = 1 from rfl]; omega, HS, HC2, HZ2, HB2⟩
                case measure => simp [RowKit.intOf]; omega
        · have h8 : i = 8 := by omega
          subst h8
          have HE := Aside0.mk (write6_end X best from_ s HW.out)
          clear hlt hi hs
          go_wp2_with fail
          go_ret
          exact ⟨by rw [HE.out, HGe.out]; rfl, HB.out⟩

theorem digit_cut : ∀ d : Fin 16, (⟨#[48, 49, 50, 51, 52, 53, 54, 55, 56, 57, 97, 98, 99, 100, 101, 102]⟩ : ByteArray).extract d.val (d.val + 1) = ⟨#[hexdigit d.val]⟩ := by decide +kernel
theorem digit_cut' (n : Nat) (h : n < 16) : (⟨#[48, 49, 50, 51, 52, 53, 54, 55, 56, 57, 97, 98, 99, 100, 101, 102]⟩ : ByteArray).extract n (n + 1) = ⟨#[hexdigit n]⟩ := digit_cut ⟨n, h⟩
theorem hexDigits_le : ∀ (m n : Nat), n < 16 ^ (m + 1) → (hexDigits n).length ≤ m + 1
  | 0, n, h => by rw [hexDigits, dif_pos (by simpa using h)]; simp
  | m + 1, n, h => by
    rw [hexDigits]; split
    · simp
    · have h16 : 16 ^ (m + 1 + 1) = 16 ^ (m + 1) * 16 := Nat.pow_succ _ _
      have := hexDigits_le m (n / 16) (by omega)
      simp; omega
theorem hexGroup_at : ∀ (m n : Nat), n < 16 ^ (m + 1) → m ≤ 3 → Tv.tenancyref02_hexGroup.f (m + 1) (n : Int) = some ⟨(hexDigits n).toArray⟩
  | 0, n, h, hm => by
    have h' : n < 16 := by simpa using h
    have ew : IntKind.u64.wrap ((n : Int) + 1) = ((n + 1 : Nat) : Int) := by simp [IntKind.wrap, IntKind.bits, IntKind.signed]; omega
    rw [Tv.tenancyref02_hexGroup.f, if_pos (by omega), if_pos (by omega), ew, if_pos (by omega), if_pos (by omega), Int.toNat_natCast, Int.toNat_natCast, digit_cut' n h', hexDigits, dif_pos h']
  | m + 1, n, h, hm => by
    have h16 : 16 ^ (m + 1 + 1) = 16 ^ (m + 1) * 16 := Nat.pow_succ _ _
    have hp : 16 ^ (m + 1) ≤ 16 ^ 3 := Nat.pow_le_pow_right (by decide) (by omega)
    by_cases h' : n < 16
    · have ew : IntKind.u64.wrap ((n : Int) + 1) = ((n + 1 : Nat) : Int) := by simp [IntKind.wrap, IntKind.bits, IntKind.signed]; omega
      rw [Tv.tenancyref02_hexGroup.f, if_pos (by omega), if_pos (by omega), ew, if_pos (by omega), if_pos (by omega), Int.toNat_natCast, Int.toNat_natCast, digit_cut' n h', hexDigits, dif_pos h']
    · have e1 : IntKind.u64.wrap (Int.tdiv (n : Int) 16) = ((n / 16 : Nat) : Int) := by
        rw [show Int.tdiv (n : Int) 16 = ((n / 16 : Nat) : Int) from rfl]
        simp [IntKind.wrap, IntKind.bits, IntKind.signed]; omega
      have e2 : Int.tmod (n : Int) 16 = ((n % 16 : Nat) : Int) := rfl
      have ew : IntKind.u64.wrap (((n % 16 : Nat) : Int) + 1) = ((n % 16 + 1 : Nat) : Int) := by simp [IntKind.wrap, IntKind.bits, IntKind.signed]; omega
      have ih := hexGroup_at m (n / 16) (by omega) (by omega)
      have hl := hexDigits_le m (n / 16) (by omega)
      rw [Tv.tenancyref02_hexGroup.f, if_neg (by omega), e1, ih, Option.bind_some, e2, ew, if_pos (by omega), if_pos (by omega), if_pos (by omega), Int.toNat_natCast, Int.toNat_natCast, digit_cut' (n % 16) (Nat.mod_lt _ (by decide))]
      rw [if_pos (by rw [show (⟨#[hexdigit (n % 16)]⟩ : ByteArray).size = 1 from rfl]; simp [ByteArray.size]; omega)]
      rw [show hexDigits n = hexDigits (n / 16) ++ [hexdigit (n % 16)] by rw [hexDigits, dif_neg h']]
      congr 1

theorem gpn_le (hi lo : Int) (i : Nat) : gpn hi lo i ≤ 65535 := by
  unfold gpn gpw
  have h := fun x : Int => Int.tmod_lt_of_pos x (by decide : (0 : Int) < 65536)
  have h1 := h (hi / 281474976710656)
  have h2 := h (hi / 4294967296)
  have h3 := h (hi / 65536)
  have h4 := h hi
  have h5 := h (lo / 281474976710656)
  have h6 := h (lo / 4294967296)
  have h7 := h (lo / 65536)
  have h8 := h lo
  split <;> omega

/-- The reference's Put6. -/
def tenancyref02_Put6.f (a0 a1 : Int) : Option ByteArray :=
  if 0 ≤ a0 ∧ 0 ≤ a1 then some ⟨(put6L (gpn a0 a1) fun i => hexDigits (gpn a0 a1 i)).toArray⟩ else none
theorem tenancyref02_Put6.calls (a0 : Int) (a1 : Int) (r : ByteArray) (w : World) (h : tenancyref02_Put6.f a0 a1 = some r) :
    Calls Tryd.prog 26 #[.agg #[.int .u64 a0, .int .u64 a1]] w fun e w' => e = .returned (.string r) ∧ Below w.heap.size w w' := by
  unfold tenancyref02_Put6.f at h
  by_cases hc : 0 ≤ a0 ∧ 0 ≤ a1
  · rw [if_pos hc] at h
    obtain rfl := Option.some.inj h
    exact put6_walk a0 a1 hc.1 hc.2 _ w (fun i _ => ⟨4, hexGroup_at 3 _ (by have := gpn_le a0 a1 i; omega) (by decide)⟩) (fun i => hexDigits_le 3 _ (by have := gpn_le a0 a1 i; omega))
  · rw [if_neg hc] at h; cases h
end Go.Proofs.YtmegbllhidkmoaaDoor.Tx

/- What the texts of TextPuts import: the facts of FactsC, the reference's Put6. -/
namespace Go.Proofs.YtmegbllhidkmoaaDoor.Tx
end Go.Proofs.YtmegbllhidkmoaaDoor.Tx
