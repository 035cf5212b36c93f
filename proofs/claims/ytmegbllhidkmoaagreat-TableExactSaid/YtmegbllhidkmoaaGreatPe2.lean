/- lease's functions: what they answer. -/
import Derived.Test.YtmegbllhidkmoaaGreatPe1
import Derived.Shelf.SlGeneric
import Derived.Shelf.SlSortCmp.WholeK
import Derived.Ground.SlsfProg
import Derived.Test.YtmegbllhidkmoaaGreatProg
import Derived.Shelf.SlSortCmp.NoneTotal
import Derived.Maps.RangeWalk
import Derived.Deep.RegionLaw
import Derived.Shelf.SlMaps.Clone
import Derived.Laws.Append
namespace Go.Proofs.YtmegbllhidkmoaaGreat.Tb
open Go.RowKit Go.Proofs.YtmegbllhidkmoaaGreatW.PrintWords Go.Proofs.YtmegbllhidkmoaaGreatW.PrintLast Go.Proofs.YtmegbllhidkmoaaGreatW.PrintMore
set_option linter.unusedVariables false
attribute [local go_sem] fldA_0 fldA_1 fldP_0 fldP_1
attribute [local go_sem high] eqA27 eqA30
def lease_Right.j0 : Nat → Int → Bool → Int → Int → Int → Option (Bool)
  | 0, _, _, _, _, _ => none
  | k + 1, x13, x22, x119000, x119001, x119002 => if x22 = true then (some (x119002 == 128)) else (if x13 = 4 then ((addr_Sound.f k x119000 x119001 x119002).bind fun t121 => (if t121 = true then (if x119002 ≥ 1 then (some (decide (x119002 < 128))) else (some false)) else (some false))) else (some false))
def lease_Right.f (k : Nat) (a0 : Int) (a1_0 : Int) (a1_1 : Int) (a1_2 : Int) : Option (Bool) := (addr_To4.f a1_0 a1_1).bind fun bt119 => (if a0 = 1 then (if a1_2 = 128 then (some bt119.2) else (some false)) else (if a0 = 2 then (lease_Right.j0 k a0 (a0 == 2) a1_0 a1_1 a1_2) else (lease_Right.j0 k a0 (a0 == 3) a1_0 a1_1 a1_2)))
theorem right_cases {k : Nat} {kd h l n : Int} {r : Bool} (e : lease_Right.f k kd h l n = some r) : ∃ t1 t2, addr_To4.f h l = some (t1, t2) ∧
    ((kd = 1 ∧ n = 128 ∧ r = t2) ∨ (kd = 1 ∧ n ≠ 128 ∧ r = false) ∨ (kd = 2 ∧ r = (n == 128)) ∨ (kd = 3 ∧ r = (n == 128)) ∨
      (kd = 4 ∧ ∃ j s, addr_Sound.f j h l n = some s ∧ ((s = false ∧ r = false) ∨ (s = true ∧ n < 1 ∧ r = false) ∨ (s = true ∧ 1 ≤ n ∧ r = decide (n < 128)))) ∨ ((kd ≠ 1 ∧ kd ≠ 2 ∧ kd ≠ 3 ∧ kd ≠ 4) ∧ r = false)) := by
  unfold lease_Right.f at e
  obtain ⟨⟨t1, t2⟩, ht, e⟩ := Option.bind_eq_some_iff.1 e
  refine ⟨t1, t2, ht, ?_⟩
  by_cases k1 : kd = 1
  · rw [if_pos k1] at e
    by_cases hn : n = 128
    · rw [if_pos hn] at e; exact .inl ⟨k1, hn, (Option.some.inj e).symm⟩
    · rw [if_neg hn] at e; exact .inr (.inl ⟨k1, hn, (Option.some.inj e).symm⟩)
  · rw [if_neg k1] at e
    refine .inr (.inr ?_)
    cases k with
    | zero => split at e <;> cases e
    | succ k =>
      by_cases k2 : kd = 2
      · rw [if_pos k2, lease_Right.j0, if_pos (by rw [k2]; decide)] at e
        exact .inl ⟨k2, (Option.some.inj e).symm⟩
      · rw [if_neg k2] at e
        refine .inr ?_
        by_cases k3 : kd = 3
        · rw [lease_Right.j0, if_pos (by rw [k3]; decide)] at e
          exact .inl ⟨k3, (Option.some.inj e).symm⟩
        · rw [lease_Right.j0, if_neg (by simpa using k3)] at e
          refine .inr ?_
          by_cases k4 : kd = 4
          · rw [if_pos k4] at e
            obtain ⟨s, hs, e⟩ := Option.bind_eq_some_iff.1 e
            refine .inl ⟨k4, k, s, hs, ?_⟩
            cases s with
            | false => rw [if_neg (by decide)] at e; exact .inl ⟨rfl, (Option.some.inj e).symm⟩
            | true =>
              rw [if_pos rfl] at e
              by_cases h1 : n ≥ 1
              · rw [if_pos h1] at e; exact .inr (.inr ⟨rfl, h1, (Option.some.inj e).symm⟩)
              · rw [if_neg h1] at e; exact .inr (.inl ⟨rfl, by omega, (Option.some.inj e).symm⟩)
          · rw [if_neg k4] at e
            exact .inr ⟨⟨k1, k2, k3, k4⟩, (Option.some.inj e).symm⟩
set_option maxHeartbeats 1600000 in
set_option maxRecDepth 100000 in
theorem lease_Right.calls (k : Nat) (kd h l n : Int) (r : Bool) (w : World) (e : lease_Right.f k kd h l n = some r) : Calls Tryz.prog 59 #[.int .i64 kd, .agg #[.int .u64 h, .int .u64 l, .int .i64 n]] w fun e w' => e = .returned (.bool r) ∧ Quiet w w' := by
  obtain ⟨t1, t2, ht, hcase⟩ := right_cases e
  have HT := Aside1.mk (fun W => addr_To4.calls _ _ _ _ W ht)
  clear e ht
  rcases hcase with ⟨rfl, rfl, rfl⟩ | ⟨rfl, hn, rfl⟩ | ⟨rfl, rfl⟩ | ⟨rfl, rfl⟩ | ⟨rfl, j, s, hs, hcase⟩ | ⟨⟨k1, k2, k3, k4⟩, rfl⟩
  · go_enter Tryz.func59, Tryz.ntmps59
    go_wp2_with (go_at_call 73; refine (HT.out _).mono ?_; rintro e w1 ⟨rfl, hq1⟩; obtain ⟨c0, c1, c2, _⟩ := at3 (blk (new0 w _) hq1))
    go_ret
    exact ⟨rfl, by (repeat (first | exact Kept.refl _ _ | assumption | apply Kept.drew | apply Kept.drewN | apply Kept.alloc | refine Kept.setCell ?_ (fun hlt => absurd hlt (Nat.lt_irrefl _)) _ | refine Kept.andThen ?_ (by assumption) (fun _ _ h => h)))⟩
  · have hn' : (n == 128) = false := by simpa using hn
    go_enter Tryz.func59, Tryz.ntmps59
    go_wp2_with (go_at_call 73; refine (HT.out _).mono ?_; rintro e w1 ⟨rfl, hq1⟩; obtain ⟨c0, c1, c2, _⟩ := at3 (blk (new0 w _) hq1))
    go_ret
    exact ⟨rfl, by (repeat (first | exact Kept.refl _ _ | assumption | apply Kept.drew | apply Kept.drewN | apply Kept.alloc | refine Kept.setCell ?_ (fun hlt => absurd hlt (Nat.lt_irrefl _)) _ | refine Kept.andThen ?_ (by assumption) (fun _ _ h => h)))⟩
  · go_enter Tryz.func59, Tryz.ntmps59
    go_wp2_with (go_at_call 73; refine (HT.out _).mono ?_; rintro e w1 ⟨rfl, hq1⟩; obtain ⟨c0, c1, c2, _⟩ := at3 (blk (new0 w _) hq1))
    go_ret
    exact ⟨rfl, by (repeat (first | exact Kept.refl _ _ | assumption | apply Kept.drew | apply Kept.drewN | apply Kept.alloc | refine Kept.setCell ?_ (fun hlt => absurd hlt (Nat.lt_irrefl _)) _ | refine Kept.andThen ?_ (by assumption) (fun _ _ h => h)))⟩
  · go_enter Tryz.func59, Tryz.ntmps59
    go_wp2_with (go_at_call 73; refine (HT.out _).mono ?_; rintro e w1 ⟨rfl, hq1⟩; obtain ⟨c0, c1, c2, _⟩ := at3 (blk (new0 w _) hq1))
    go_ret
    exact ⟨rfl, by (repeat (first | exact Kept.refl _ _ | assumption | apply Kept.drew | apply Kept.drewN | apply Kept.alloc | refine Kept.setCell ?_ (fun hlt => absurd hlt (Nat.lt_irrefl _)) _ | refine Kept.andThen ?_ (by assumption) (fun _ _ h => h)))⟩
  · have HS := Aside1.mk (fun W => addr_Sound.calls _ _ _ _ _ W hs)
    clear hs
    rcases hcase with ⟨rfl, rfl⟩ | ⟨rfl, hn, rfl⟩ | ⟨rfl, hn, rfl⟩
    all_goals
      go_enter Tryz.func59, Tryz.ntmps59
      go_wp2_with (first
        | (go_at_call 73; refine (HT.out _).mono ?_; rintro e w1 ⟨rfl, hq1⟩; have hb := blk (new0 w _) hq1; obtain ⟨c0, c1, c2, _⟩ := at3 hb)
        | (go_at_call 74; refine (HS.out _).mono ?_; rintro e w2 ⟨rfl, hq2⟩; obtain ⟨c0', c1', c2', _⟩ := at3 (blk hb hq2)))
      go_ret
      exact ⟨rfl, by (repeat (first | exact Kept.refl _ _ | assumption | apply Kept.drew | apply Kept.drewN | apply Kept.alloc | refine Kept.setCell ?_ (fun hlt => absurd hlt (Nat.lt_irrefl _)) _ | refine Kept.andThen ?_ (by assumption) (fun _ _ h => h)))⟩
  · have k1' : (kd == 1) = false := by simpa using k1
    have k2' : (kd == 2) = false := by simpa using k2
    have k3' : (kd == 3) = false := by simpa using k3
    have k4' : (kd == 4) = false := by simpa using k4
    go_enter Tryz.func59, Tryz.ntmps59
    go_wp2_with (go_at_call 73; refine (HT.out _).mono ?_; rintro e w1 ⟨rfl, hq1⟩; obtain ⟨c0, c1, c2, _⟩ := at3 (blk (new0 w _) hq1))
    go_ret
    exact ⟨rfl, by (repeat (first | exact Kept.refl _ _ | assumption | apply Kept.drew | apply Kept.drewN | apply Kept.alloc | refine Kept.setCell ?_ (fun hlt => absurd hlt (Nat.lt_irrefl _)) _ | refine Kept.andThen ?_ (by assumption) (fun _ _ h => h)))⟩
end Go.Proofs.YtmegbllhidkmoaaGreat.Tb

/-
  DERIVED: THE SHELF's CONTRACTS AT THIS DUMP, IN PLAIN WORDS (tools/lay-plain.mjs out of 'YtmegbllhidkmoaaGreatSortLay.lean', which tools/lay-shelf.mjs wrote): THE SAME DECLARATIONS UNDER THE SAME NAMES: 'import', 'namespace', 'open', 'def', 'theorem' AND NOTHING ELSE: no command of the shelf's: FOR A HAND-IN. Each laying: the table of numbers ('.._ren') and one theorem, a field a fact of the dump's own or the kernel's comparison; each contract: ONE APPLICATION.
-/
namespace Go.Proofs
open Go.Shelf
def Tryz.sortLease_ren : Go.Shelf.Ren := ⟨fun | 6 => 52 | 15 => 69 | 14 => 68 | 28 => 87 | 29 => 88 | 20 => 71 | 21 => 80 | 22 => 81 | 23 => 82 | 24 => 83 | 25 => 84 | 26 => 85 | 27 => 86 | 46 => 98 | 47 => 99 | 48 => 100 | 49 => 101 | 50 => 102 | 57 => 108 | n => n, fun | 22 => 43 | 24 => 30 | 25 => 83 | 3 => 3 | 39 => 106 | 0 => 0 | 53 => 28 | 55 => 23 | 4 => 4 | 46 => 116 | 45 => 115 | 50 => 47 | 5 => 5 | 9 => 9 | 66 => 131 | 70 => 135 | 76 => 140 | 77 => 141 | n => n, fun | n => n⟩
theorem Tryz.sortLease : Go.Proofs.SlLaysF0.n6 Tryz.prog Tryz.sortLease_ren := {
  mixed := by kernel_rfl
  f6 := ⟨Tryz.f52.name, by decide, Tryz.func52.trans (congrArg some (by kernel_rfl))⟩
  f14 := ⟨Tryz.f68.name, by decide, Tryz.func68.trans (congrArg some (by kernel_rfl))⟩
  f15 := Tryz.func69.trans (congrArg some (by kernel_rfl))
  f20 := ⟨Tryz.f71.name, by decide, Tryz.func71.trans (congrArg some (by kernel_rfl))⟩
  f21 := ⟨Tryz.f80.name, by decide, Tryz.func80.trans (congrArg some (by kernel_rfl))⟩
  f22 := ⟨Tryz.f81.name, by decide, Tryz.func81.trans (congrArg some (by kernel_rfl))⟩
  f23 := ⟨Tryz.f82.name, by decide, Tryz.func82.trans (congrArg some (by kernel_rfl))⟩
  f24 := ⟨Tryz.f83.name, by decide, Tryz.func83.trans (congrArg some (by kernel_rfl))⟩
  f25 := ⟨Tryz.f84.name, by decide, Tryz.func84.trans (congrArg some (by kernel_rfl))⟩
  f26 := ⟨Tryz.f85.name, by decide, Tryz.func85.trans (congrArg some (by kernel_rfl))⟩
  f27 := ⟨Tryz.f86.name, by decide, Tryz.func86.trans (congrArg some (by kernel_rfl))⟩
  f28 := Tryz.func87.trans (congrArg some (by kernel_rfl))
  f29 := Tryz.func88.trans (congrArg some (by kernel_rfl))
  f46 := ⟨Tryz.f98.name, by decide, Tryz.func98.trans (congrArg some (by kernel_rfl))⟩
  f47 := Tryz.func99.trans (congrArg some (by kernel_rfl))
  f48 := Tryz.func100.trans (congrArg some (by kernel_rfl))
  f49 := ⟨Tryz.f101.name, by decide, Tryz.func101.trans (congrArg some (by kernel_rfl))⟩
  f50 := ⟨Tryz.f102.name, by decide, Tryz.func102.trans (congrArg some (by kernel_rfl))⟩
  f57 := ⟨Tryz.f108.name, by decide, Tryz.func108.trans (congrArg some (by kernel_rfl))⟩
  t0 := Tryz.underlying0
  a0 := Tryz.isAgg0
  z0 := Tryz.sizeOf0
  v0 := Tryz.zeroValue0
  t3 := Tryz.underlying3
  a3 := Tryz.isAgg3
  z3 := Tryz.sizeOf3
  v3 := Tryz.zeroValue3
  t4 := Tryz.underlying4
  a4 := Tryz.isAgg4
  z4 := Tryz.sizeOf4
  v4 := Tryz.zeroValue4
  t5 := Tryz.underlying5
  a5 := Tryz.isAgg5
  z5 := Tryz.sizeOf5
  v5 := Tryz.zeroValue5
  t9 := Tryz.underlying9
  a9 := Tryz.isAgg9
  z9 := Tryz.sizeOf9
  v9 := Tryz.zeroValue9
  t22 := Tryz.underlying43
  a22 := Tryz.isAgg43
  z22 := Tryz.sizeOf43
  v22 := Tryz.zeroValue43
  t25 := Tryz.underlying83
  a25 := Tryz.isAgg83
  z25 := Tryz.sizeOf83
  v25 := Tryz.zeroValue83
  t39 := Tryz.underlying106
  a39 := Tryz.isAgg106
  z39 := Tryz.sizeOf106
  v39 := Tryz.zeroValue106
  t45 := Tryz.underlying115
  a45 := Tryz.isAgg115
  z45 := Tryz.sizeOf115
  v45 := Tryz.zeroValue115
  t46 := Tryz.underlying116
  a46 := Tryz.isAgg116
  z46 := Tryz.sizeOf116
  v46 := Tryz.zeroValue116
  t50 := Tryz.underlying47
  a50 := Tryz.isAgg47
  z50 := Tryz.sizeOf47
  v50 := Tryz.zeroValue47
  t53 := Tryz.underlying28
  a53 := Tryz.isAgg28
  z53 := Tryz.sizeOf28
  v53 := Tryz.zeroValue28
  t55 := Tryz.underlying23
  a55 := Tryz.isAgg23
  z55 := Tryz.sizeOf23
  v55 := Tryz.zeroValue23
  t66 := Tryz.underlying131
  a66 := Tryz.isAgg131
  z66 := Tryz.sizeOf131
  v66 := Tryz.zeroValue131
  t70 := Tryz.underlying135
  a70 := Tryz.isAgg135
  z70 := Tryz.sizeOf135
  v70 := Tryz.zeroValue135
  t76 := Tryz.underlying140
  a76 := Tryz.isAgg140
  z76 := Tryz.sizeOf140
  v76 := Tryz.zeroValue140
  t77 := Tryz.underlying141
  a77 := Tryz.isAgg141
  z77 := Tryz.sizeOf141
  v77 := Tryz.zeroValue141 }
end Go.Proofs

/- Rows of leases, and slices.SortFunc over them. -/
namespace Go.Proofs.YtmegbllhidkmoaaGreat.Tb
open Go.RowKit Go.Maps Go.Sort
set_option linter.unusedVariables false
instance : Inhabited Lease := ⟨⟨⟨0, 0, 0, 0⟩, 0, ByteArray.empty, 0, 0⟩⟩
/-- v is a slice, in a block from B on, of these leases. -/
def LeasesIs (w : World) (B : Nat) (v : Value) (R : List Lease) : Prop := w.ownsRow B 30 8 v R.length (R.flatMap Lease.cells)
theorem flat_idx {α : Type} (enc : α → List Value) (k : Nat) (hk : ∀ x, (enc x).length = k) (j : Nat) (hj : j < k) : ∀ (R : List α) (i : Nat) (hi : i < R.length), (R.flatMap enc)[i * k + j]? = (enc (R[i]'hi))[j]?
  | [], i, hi => by simp at hi
  | e :: R, 0, hi => by
    rw [List.flatMap_cons, List.getElem?_append_left (by rw [hk]; omega)]
    simp
  | e :: R, i + 1, hi => by
    have e1 : (i + 1) * k + j - k = i * k + j := by rw [Nat.add_mul]; omega
    rw [List.flatMap_cons, List.getElem?_append_right (by rw [hk, Nat.add_mul]; omega), hk, e1]
    exact flat_idx enc k hk j hj R i (by simpa using hi)
theorem flat_length {α : Type} (enc : α → List Value) (k : Nat) (hk : ∀ x, (enc x).length = k) : ∀ R : List α, (R.flatMap enc).length = R.length * k
  | [] => by simp
  | e :: R => by rw [List.flatMap_cons, List.length_append, flat_length enc k hk R, hk, List.length_cons, Nat.add_mul]; omega
theorem lcells (l : Lease) : l.cells.length = 8 := rfl
theorem lone (l : Lease) : ∀ v ∈ l.cells, v.oneCell' = true := by intro v hv; simp [Lease.cells] at hv; rcases hv with rfl | rfl | rfl | rfl | rfl | rfl | rfl | rfl <;> rfl
theorem flat_at {α : Type} [Inhabited α] (enc : α → List Value) (k : Nat) (k0 : 0 < k) (hk : ∀ x, (enc x).length = k) (R : List α) (t : Nat) (ht : t < R.length * k) : (R.flatMap enc)[t]? = some ((flatK enc k R.toArray)[t]!) := by
  have h1 : t / k < R.length := by rw [Nat.div_lt_iff_lt_mul k0]; exact ht
  have h2 : t % k < k := Nat.mod_lt _ k0
  have h3 := flat_idx enc k hk (t % k) h2 R (t / k) h1
  rw [Nat.div_add_mod'] at h3
  rw [h3, get_flatK _ _ _ _ (by simpa using ht)]
  rw [getElem!_pos R.toArray (t / k) (by simpa using h1)]
  rw [List.getElem_toArray, List.getElem!_eq_getElem?_getD, List.getElem?_eq_getElem (by rw [hk]; exact h2)]
  rfl
theorem flat_list {α : Type} [Inhabited α] (enc : α → List Value) (k : Nat) (k0 : 0 < k) (hk : ∀ x, (enc x).length = k) (R : List α) : (flatK enc k R.toArray).toList = R.flatMap enc := by
  apply List.ext_getElem?
  intro t
  by_cases ht : t < R.length * k
  · rw [flat_at enc k k0 hk R t ht, getElem!_pos _ t (by simpa using ht)]
    rw [Array.getElem?_toList, Array.getElem?_eq_getElem (by simpa using ht)]
  · have e1 := flat_length enc k hk R
    have e2 : (flatK enc k R.toArray).toList.length = R.length * k := by simp
    rw [List.getElem?_eq_none (by omega), List.getElem?_eq_none (by omega)]

theorem LeasesIs.kept {w w' : World} {B : Nat} {v : Value} {R : List Lease} (h : LeasesIs w B v R) (hb : ∀ k, v.ownBlock = some k → w'.heap[k]? = w.heap[k]?) : LeasesIs w' B v R := by
  obtain ⟨h1, h2⟩ := h
  rcases h2 with ⟨rfl, h0⟩ | ⟨g, cap, cur, rfl, hg, hh, r⟩
  · exact ⟨h1, .inl ⟨rfl, h0⟩⟩
  · exact ⟨h1, .inr ⟨g, cap, cur, rfl, hg, (hb g rfl).trans hh, r⟩⟩
theorem LeasesIs.lt {w : World} {B : Nat} {v : Value} {R : List Lease} (h : LeasesIs w B v R) {k : Nat} (hk : v.ownBlock = some k) : B ≤ k ∧ k < w.heap.size := by
  obtain ⟨h1, h2⟩ := h
  rcases h2 with ⟨rfl, h0⟩ | ⟨g, cap, cur, rfl, hg, hh, r⟩
  · cases hk
  · obtain rfl : g = k := Option.some.inj hk
    exact ⟨hg, (Array.getElem?_eq_some_iff.1 hh).1⟩
theorem LeasesIs.mono {w : World} {B B' : Nat} {v : Value} {R : List Lease} (h : LeasesIs w B v R) (hB : B' ≤ B) : LeasesIs w B' v R := by
  obtain ⟨h1, h2⟩ := h
  rcases h2 with ⟨rfl, h0⟩ | ⟨g, cap, cur, rfl, hg, hh, r⟩
  · exact ⟨h1, .inl ⟨rfl, h0⟩⟩
  · exact ⟨h1, .inr ⟨g, cap, cur, rfl, Nat.le_trans hB hg, hh, r⟩⟩
theorem LeasesIs.old {w w' : World} {S : Nat → Prop} {B : Nat} {v : Value} {R : List Lease} (h : LeasesIs w B v R) (hk : Kept S w w') (hs : ∀ k, v.ownBlock = some k → ¬ S k) : LeasesIs w' B v R :=
  h.kept fun k hk' => hk.block k (h.lt hk').2 (hs k hk')
theorem leases_cell {w : World} {B : Nat} {v : Value} {R : List Lease} (h : LeasesIs w B v R) (i : Nat) (hi : i < R.length) :
    ∃ g cap, v = .slice (some ⟨g, 0, none⟩) R.length cap ∧ R.length ≤ cap ∧ cap ≤ maxLen ∧ ∀ j, j < 8 → w.cell? ⟨g, i * 8 + j, none⟩ = ((R[i]'hi).cells)[j]? ∧ w.frozen? ⟨g, i * 8 + j, none⟩ = false := by
  obtain ⟨h1, h2⟩ := h
  rcases h2 with ⟨rfl, h0⟩ | ⟨g, cap, cur, rfl, hg, hb, hn, hm, hc, ht⟩
  · omega
  · refine ⟨g, cap, rfl, hn, hm, fun j hj => ?_⟩
    have h3 := flat_idx Lease.cells 8 lcells j hj R i hi
    rw [← ht, List.getElem?_take_of_lt (by omega)] at h3
    have h4 : cur[i * 8 + j]? = ((R[i]'hi).cells)[j]? := by rw [← h3]; simp
    constructor
    · simp [World.cell?, hb, h4]
    · simp [World.frozen?, hb]
theorem leases_shape {w : World} {B : Nat} {v : Value} {R : List Lease} (h : LeasesIs w B v R) : ∃ p cap, v = .slice p R.length cap := by
  obtain ⟨h1, h2⟩ := h
  rcases h2 with ⟨rfl, h0⟩ | ⟨g, cap, cur, rfl, r⟩
  · exact ⟨none, 0, by rw [h0]⟩
  · exact ⟨_, _, rfl⟩

/-! the order -/
theorem cmpI_neg (x y : Int) : cmpI x y < 0 ↔ x < y := by unfold cmpI; split <;> (try split) <;> omega
theorem cmpI_zero (x y : Int) : cmpI x y = 0 ↔ x = y := by unfold cmpI; split <;> (try split) <;> omega
theorem orI_cons_neg (x : Int) (l : List Int) : orI (x :: l) < 0 ↔ x < 0 ∨ x = 0 ∧ orI l < 0 := by
  conv => lhs; unfold orI
  split <;> omega
theorem orI_cons_zero (x : Int) (l : List Int) : orI (x :: l) = 0 ↔ x = 0 ∧ orI l = 0 := by
  conv => lhs; unfold orI
  split <;> omega
theorem cmpK_neg (a b : Key) : cmpK a b < 0 ↔ a.kind < b.kind ∨ a.kind = b.kind ∧ (a.hi < b.hi ∨ a.hi = b.hi ∧ (a.lo < b.lo ∨ a.lo = b.lo ∧ a.bits < b.bits)) := by
  unfold cmpK cmpA
  simp only [orI_cons_neg, orI_cons_zero, cmpI_neg, cmpI_zero, show orI [] = 0 by rfl, and_true]
  omega
theorem cmpK_zero (a b : Key) : cmpK a b = 0 ↔ a = b := by
  unfold cmpK cmpA
  simp only [orI_cons_zero, cmpI_zero, show orI [] = 0 by rfl, and_true]
  exact ⟨fun h => Key.eq_of h.1 h.2.1.1 h.2.1.2 h.2.2, fun h => by subst h; exact ⟨rfl, ⟨rfl, rfl⟩, rfl⟩⟩
def klt (a b : Lease) : Prop := cmpK a.key b.key < 0
theorem klt_irrefl (a : Lease) : ¬ klt a a := by unfold klt; rw [cmpK_neg]; omega
theorem klt_trans {a b c : Lease} (h : klt a b) (k : klt b c) : klt a c := by unfold klt at *; rw [cmpK_neg] at *; omega
theorem klt_total {a b : Lease} (h : ¬ klt a b) (k : ¬ klt b a) : a.key = b.key := by
  unfold klt at *; rw [cmpK_neg] at *
  exact Key.eq_of (by omega) (by omega) (by omega) (by omega)
def cmpL (a b : Lease) : Int := cmpK a.key b.key
theorem cmpL_swo : SWO (ltOf cmpL) := by
  refine ⟨fun x => ?_, fun x y z => ?_, fun x y z => ?_⟩
  · simp only [ltOf, cmpL, decide_eq_false_iff_not, cmpK_neg]; omega
  · simp only [ltOf, cmpL, decide_eq_true_eq, cmpK_neg]; omega
  · simp only [ltOf, cmpL, decide_eq_false_iff_not, cmpK_neg]; omega
/-- Sorted, no key twice. -/
def Sorted (R : List Lease) : Prop := R.Pairwise klt
theorem Sorted.unique : ∀ {R R' : List Lease}, Sorted R → Sorted R' → R.Perm R' → R = R'
  | [], R', _, _, hp => by rw [List.nil_perm.1 hp]
  | a :: R, [], _, _, hp => by have := hp.length_eq; simp at this
  | a :: R, b :: R', h, h', hp => by
    unfold Sorted at h h'
    rw [List.pairwise_cons] at h h'
    have hab : a = b := by
      rcases List.mem_cons.1 (hp.mem_iff.1 List.mem_cons_self) with e | hin
      · exact e
      · rcases List.mem_cons.1 (hp.mem_iff.2 List.mem_cons_self) with e | hin'
        · exact e.symm
        · exact absurd (klt_trans (h.1 b hin') (h'.1 a hin)) (klt_irrefl a)
    subst hab
    rw [Sorted.unique h.2 h'.2 hp.cons_inv]
theorem Sorted.filter {R : List Lease} (h : Sorted R) (p : Lease → Bool) : Sorted (R.filter p) := List.Pairwise.filter p h
theorem Sorted.nodup {R : List Lease} (h : Sorted R) : (R.map Lease.key).Nodup := by
  unfold Sorted at h
  rw [List.Nodup, List.pairwise_map]
  exact h.imp fun hk e => by unfold klt at hk; rw [← e, cmpK_neg] at hk; omega

theorem putCells_size {α : Type} [Inhabited α] (enc : α → Value) (off : Nat) (d : Array α) (c : Array Value) : (putCells enc off d c).size = c.size := by simp [putCells]
theorem putCells_take (F : Array Value) (c : Array Value) (h : F.size ≤ c.size) : (putCells id 0 F c).toList.take F.size = F.toList := by
  apply List.ext_getElem?
  intro t
  by_cases ht : t < F.size
  · rw [List.getElem?_take_of_lt ht, Array.getElem?_toList, Array.getElem?_toList, putCells, Array.getElem?_mapIdx, Array.getElem?_eq_getElem (by omega), Array.getElem?_eq_getElem ht]
    simp [ht]
  · rw [List.getElem?_eq_none (by simp; omega), List.getElem?_eq_none (by simp; omega)]
theorem heap_mapBlock_same (w : World) (g : Nat) (f : Array Value → Array Value) {c : Array Value} {t : TypeId} {fr : Nat × Nat} (h : w.heap[g]? = some (.cells c t fr)) : (mapBlock w g f).heap[g]? = some (.cells (f c) t fr) := by
  show (w.heap.modify g (onCells f))[g]? = _
  rw [Array.getElem?_modify, if_pos rfl, h]; rfl
theorem heap_mapBlock_other (w : World) (g k : Nat) (f : Array Value → Array Value) (h : k ≠ g) : (mapBlock w g f).heap[k]? = w.heap[k]? := by
  show (w.heap.modify g (onCells f))[k]? = _
  rw [Array.getElem?_modify, if_neg (fun e => h e.symm)]
theorem sort_done {w : World} {B g cap n : Nat} {R : List Lease} {d' : Array Lease} {os : Array Obj} (h : LeasesIs w B (.slice (some ⟨g, 0, none⟩) R.length cap) R) (hR : 0 < R.length) (hs : d'.size = R.length) :
    LeasesIs (sortWorldK Lease.cells 8 w g 0 n d' os) B (.slice (some ⟨g, 0, none⟩) R.length cap) d'.toList ∧ Kept (fun i => i = g) w (sortWorldK Lease.cells 8 w g 0 n d' os) := by
  obtain ⟨h1, h2⟩ := h
  rcases h2 with ⟨hv, h0⟩ | ⟨g', cap', cur, hv, hg, hh, hn, hm, hc, ht⟩
  · omega
  · obtain ⟨rfl, rfl⟩ : g = g' ∧ cap = cap' := by simpa using hv
    have lg : g < w.heap.size := (Array.getElem?_eq_some_iff.1 hh).1
    have hb : (sortWorldK Lease.cells 8 w g 0 n d' os).heap[g]? = some (.cells (putCells id 0 (flatK Lease.cells 8 d') cur) 30 (0, 0)) := by
      unfold sortWorldK
      rw [heap_grow_old _ _ (by rw [size_putRowK]; exact lg)]
      exact heap_mapBlock_same _ _ _ hh
    have hsz : (flatK Lease.cells 8 d').size = R.length * 8 := by rw [size_flatK, hs]
    refine ⟨⟨?_, .inr ⟨g, cap, _, by simp only [Array.length_toList, hs], hg, hb, by simp only [Array.length_toList, hs]; exact hn, hm, by rw [putCells_size]; exact hc, ?_⟩⟩, ?_⟩
    · rw [flat_length _ 8 lcells]
    · rw [Array.length_toList, hs, ← hsz, putCells_take _ _ (by omega)]
      have := flat_list Lease.cells 8 (by omega) lcells d'.toList
      rw [← this]
    · refine ⟨rfl, rfl, rfl, ?_, fun k hk hne => ?_⟩
      · unfold sortWorldK; rw [size_grow, size_putRowK]; exact Nat.le_add_right _ _
      · unfold sortWorldK
        rw [heap_grow_old _ _ (by rw [size_putRowK]; exact hk)]
        exact heap_mapBlock_other _ _ _ _ hne
set_option maxHeartbeats 400000 in
theorem sort_leases (w : World) (B : Nat) (v : Value) (R : List Lease) (h : LeasesIs w B v R) (hnd : (R.map Lease.key).Nodup) (hlen : R.length < 4611686018427387904) :
    Calls Tryz.prog 52 #[v, .func (.func 53) #[] #[]] w fun e w' => e = .returned (.tuple #[]) ∧ ∃ R', R'.Perm R ∧ Sorted R' ∧ LeasesIs w' B v R' ∧ Kept (fun i => v.ownBlock = some i) w w' := by
  by_cases h0 : R.length = 0
  · obtain rfl : R = [] := List.length_eq_zero_iff.1 h0
    obtain ⟨p, cap, rfl⟩ := leases_shape h
    refine (AnyF.slices_SortFunc_none Tryz.sortLease p cap _ w).mono ?_
    rintro e w' ⟨rfl, rfl⟩
    exact ⟨rfl, [], List.Perm.refl _, List.Pairwise.nil, h, Kept.refl _ _⟩
  · have h' := h
    obtain ⟨h1, h2⟩ := h'
    rcases h2 with ⟨hv, h0'⟩ | ⟨g, cap, cur, rfl, hg, hh, hn, hm, hc, ht⟩
    · omega
    · have lg : g < w.heap.size := (Array.getElem?_eq_some_iff.1 hh).1
      have hH : HoldsK Lease.cells 8 w g 0 R.toArray := by
        intro j hj
        rw [size_flatK, List.size_toArray] at hj
        rw [Nat.zero_add]
        have h3 := flat_at Lease.cells 8 (by omega) lcells R j hj
        rw [← ht, List.getElem?_take_of_lt hj, Array.getElem?_toList] at h3
        constructor
        · simp [World.cell?, hh, h3]
        · simp [World.frozen?, hh]
      have hcmp : CmpLays Tryz.prog 53 #[] Lease.cells 8 cmpL g 0 R.toArray.size w := by
        intro m os dk hdk x y
        refine (table_compare _ x y).mono ?_
        rintro e w' ⟨rfl, q, os', hw⟩
        exact ⟨rfl, q, os', hw⟩
      have hsort := AnyQ.slices_SortFunc Tryz.sortLease 8 Tryz.isAgg30 Tryz.sizeOf30 Lease.cells lcells lone cmpL cmpL_swo 53 #[] g 0 cap R.toArray w (enters_of Tryz.func53 (by kernel_rfl) rfl) hcmp hH lg (by simpa using hlen)
      refine hsort.mono ?_
      rintro e w' ⟨rfl, d', n, os, hp, hs, rfl⟩
      have hsz : d'.size = R.length := by rw [hp.1, List.size_toArray]
      obtain ⟨r1, r2⟩ := sort_done (n := n) (d' := d') (os := os) h (by omega) hsz
      have hperm : d'.toList.Perm R := by
        have := hp.2.2
        rw [List.size_toArray, ← hsz, Array.extract_size] at this
        rw [hsz] at this
        simpa using this
      refine ⟨rfl, d'.toList, hperm, ?_, r1, r2.mono (fun k hk => by rw [hk]; rfl)⟩
      have hnd' : (d'.toList.map Lease.key).Nodup := (hperm.map _).nodup_iff.2 hnd
      unfold Sorted
      rw [List.pairwise_iff_getElem]
      intro i j hi hj hij
      have h3 := hs i j (Nat.zero_le _) hij (by simpa [hsz] using hj)
      rw [getElem!_pos d' j (by simpa using hj), getElem!_pos d' i (by simpa using hi)] at h3
      have h4 : ¬ cmpL d'[j] d'[i] < 0 := of_decide_eq_false h3
      by_cases hk : klt (d'.toList[i]) (d'.toList[j])
      · exact hk
      · exfalso
        have he := klt_total hk (by simpa [klt, cmpL] using h4)
        have := List.pairwise_iff_getElem.1 hnd' i j (by simpa using hi) (by simpa using hj) hij
        simp only [List.getElem_map] at this
        exact this he
end Go.Proofs.YtmegbllhidkmoaaGreat.Tb

/- 'for k, v := range m' over a map that holds a list of pairs. -/
namespace Go.Proofs.YtmegbllhidkmoaaGreat.Tb
open Go.RowKit Go.Maps
set_option linter.unusedVariables false
variable {α β : Type} {P : Program} {k t e : TypeId} {kv : α → Value} {ok : α → Prop} {ev : β → Value} {w : World} {b n : Nat} {A : List (α × β)}
/-- A range loop under way: rest is still to come. -/
def Ranging (P : Program) (k : TypeId) (kv : α → Value) (ok : α → Prop) (ev : β → Value) (w : World) (b r n : Nat) (A rest : List (α × β)) (cnt : Nat) : Prop :=
  ∃ (D : Dat) (left : Lit → Bool), w.ranges P k heldE b r n D left cnt ∧ Holds P k kv ok ev D A ∧ (∀ p ∈ rest, p ∈ A) ∧ (rest.map Prod.fst).Nodup ∧
    (∀ kl, left kl = true → ∃ p ∈ rest, keyOf P k (kv p.1) = some kl) ∧ (∀ p ∈ rest, ∀ kl, keyOf P k (kv p.1) = some kl → left kl = true)
theorem Ranging.left_eq {r cnt : Nat} {rest : List (α × β)} (h : Ranging P k kv ok ev w b r n A rest cnt) : w.rangeLeft b r = cnt := by
  obtain ⟨D, left, h, _⟩ := h; exact h.left_eq
theorem Ranging.lt {r cnt : Nat} {rest : List (α × β)} (h : Ranging P k kv ok ev w b r n A rest cnt) : r < w.heap.size := by
  obtain ⟨D, left, h, _⟩ := h; exact h.lt
theorem Ranging.block {w' : World} {r cnt : Nat} {rest : List (α × β)} (h : Ranging P k kv ok ev w b r n A rest cnt) (hb : w'.heap[b]? = w.heap[b]?) (hr : w'.heap[r]? = w.heap[r]?) : Ranging P k kv ok ev w' b r n A rest cnt := by
  obtain ⟨D, left, ⟨es, clock, since, seen, c0, h1, h2, h3, h4, h5, h6⟩, hh⟩ := h
  exact ⟨D, left, ⟨es, clock, since, seen, c0, hb.trans h1, h2, h3, h4, hr.trans h5, h6⟩, hh⟩
theorem wpList_range_map {ops : Array Oper} {rest : List Oper} {o : Oper} {a : Act} {Q : Exit → Act → World → Prop} (hg : o.guard = none) (m : Operand) (hop : o.op = Op.range t m) (K : KeyEnc P k kv ok) (ht : P.underlying t = some (.map k e))
    (hm : a.eval m = .map (some b)) (h : MapIs P k kv ok ev w b n A)
    (hK : ∀ w', Ranging P k kv ok ev w' b w.heap.size n A A A.length → w.grownBy w' none → w'.heap.size = w.heap.size + 1 → wpList P ops Q rest (a.put o.dst (.pointer (some ⟨w.heap.size, 0, none⟩))) w') :
    wpList P ops Q (o :: rest) a w := by
  obtain ⟨D, hown, hh⟩ := h
  refine wpList_range_own w hg m t hop k e K.law ht heldE b n D hm hown fun w' h1 h2 h3 => hK w' ⟨D, _, ?_, hh, fun p hp => hp, hh.nodup, hh.back, fun p hp kl hk => (hh.forth p hp kl hk).1⟩ h2 h3
  rw [← hh.size]; exact h1
theorem sameKey_self {kl : Lit} {key : Value} (K : Keyed P k) (h : keyOf P k key = some kl) : kl.sameKey kl = true := by
  have := K.key h
  revert this
  cases kl <;> simp [WideAt.IsKeyLit, Lit.sameKey]
theorem wpList_next_map {ops : Array Oper} {rest : List Oper} {o : Oper} {a : Act} {Q : Exit → Act → World → Prop} (hg : o.guard = none) (it : Operand) (hop : o.op = Op.next it false) (K : KeyEnc P k kv ok) (r cnt : Nat) (R : List (α × β))
    (hit : a.eval it = .pointer (some ⟨r, 0, none⟩)) (h : Ranging P k kv ok ev w b r n A R cnt)
    (hDone : R = [] → wpList P ops Q rest (a.put o.dst (.tuple #[.bool false])) w)
    (hMore : ∀ (p : α × β) (R' : List (α × β)) (w' : World) (cnt' : Nat), p ∈ A → R.Perm (p :: R') → Ranging P k kv ok ev w' b r n A R' cnt' → cnt' < cnt →
      w.grownBy w' (some r) → w'.heap.size = w.heap.size → (Instr.entry (.pointer (some ⟨r, 0, none⟩))).run P w' = .ok (.tuple #[kv p.1, ev p.2]) w' → wpList P ops Q rest (a.put o.dst (.tuple #[.bool true, kv p.1, ev p.2])) w') :
    wpList P ops Q (o :: rest) a w := by
  obtain ⟨D, left, hr, hh, hsub, hnd, hb, hf⟩ := h
  refine wpList_next_ranges w hg it hop k K.law heldE (fun v : Value => v) (fun v : Value => v) (fun key _ _ => ⟨key, rfl⟩) (fun v _ _ => ⟨v, rfl⟩) b r n D left cnt hit hr (fun _ hn => hDone ?_) ?_
  · cases R with
    | nil => rfl
    | cons p R =>
      obtain ⟨kl, hk⟩ := K.key p.1 (hh.keys p (hsub p List.mem_cons_self))
      have := hf p List.mem_cons_self kl hk
      rw [hn kl] at this; cases this
  · intro key v kl y w' cnt' hkey hl hv hat hr' hlt hgr hsz hen
    obtain ⟨p, hp, hpk⟩ := hb kl hl
    obtain rfl : kv p.1 = key := K.law.inj hpk hkey
    have hy : y = (.held v, []) := (Option.some.inj hv).symm
    subst hy
    have h2 := (hh.forth p (hsub p hp) kl hpk).2 (.held v)
    rw [hat] at h2
    obtain rfl : v = ev p.2 := by injection h2
    obtain ⟨s, t', hst⟩ := List.append_of_mem hp
    subst hst
    rw [List.map_append, List.map_cons, List.nodup_append] at hnd
    obtain ⟨n1, n2, n3⟩ := hnd
    rw [List.nodup_cons] at n2
    refine hMore p (s ++ t') w' cnt' (hsub p hp) List.perm_middle ⟨D, _, hr', hh, fun q hq => hsub q ?_, ?_, fun kl' hl' => ?_, fun q hq kl' hk' => ?_⟩ hlt hgr hsz hen
    · rcases List.mem_append.1 hq with h | h
      · exact List.mem_append_left _ h
      · exact List.mem_append_right _ (List.mem_cons_of_mem _ h)
    · rw [List.map_append, List.nodup_append]
      exact ⟨n1, n2.2, fun x hx y hy => n3 x hx y (List.mem_cons_of_mem _ hy)⟩
    · simp only [Bool.and_eq_true, Bool.not_eq_true'] at hl'
      obtain ⟨q, hq, hqk⟩ := hb kl' hl'.1
      refine ⟨q, ?_, hqk⟩
      rcases List.mem_append.1 hq with h | h
      · exact List.mem_append_left _ h
      · rcases List.mem_cons.1 h with rfl | h
        · obtain rfl : kl = kl' := Option.some.inj (hpk.symm.trans hqk)
          rw [sameKey_self K.law hpk] at hl'; cases hl'.2
        · exact List.mem_append_right _ h
    · have hq1 : q ∈ s ++ p :: t' := by
        rcases List.mem_append.1 hq with h | h
        · exact List.mem_append_left _ h
        · exact List.mem_append_right _ (List.mem_cons_of_mem _ h)
      have hne : q.1 ≠ p.1 := fun e => by
        rcases List.mem_append.1 hq with h | h
        · exact n3 q.1 (List.mem_map_of_mem h) p.1 List.mem_cons_self e
        · exact n2.1 (by rw [← e]; exact List.mem_map_of_mem h)
      have hkl : kl' ≠ kl := fun e => hne (K.inj _ _ (K.law.inj hk' (by rw [e]; exact hpk)))
      simp only [Bool.and_eq_true, Bool.not_eq_true']
      exact ⟨hf q hq1 kl' hk', sameKey_ne hkl⟩
end Go.Proofs.YtmegbllhidkmoaaGreat.Tb

/- picked. -/
namespace Go.Proofs.YtmegbllhidkmoaaGreat.Tb
open Go.RowKit Go.Maps Go.Shelf
set_option linter.unusedVariables false
theorem info_lease : (Tryz.prog.info? 30).map (fun i => (i.zero, i.size, i.bytes)) = some (some (.agg #[.int .i64 0, .int .u64 0, .int .u64 0, .int .i64 0, .int .i64 0, .string ⟨#[]⟩, .int .u32 0, .int .i64 0]), 8, 72) := by kernel_rfl
theorem leasesOf_snd (L : List Lease) : (leasesOf L).map Prod.snd = L := by
  unfold leasesOf
  rw [List.map_map, show (Prod.snd ∘ fun l : Lease => (l.key, l)) = id from rfl, List.map_id]
theorem leasesOf_fst (L : List Lease) : (leasesOf L).map Prod.fst = L.map Lease.key := by
  unfold leasesOf
  rw [List.map_map]; rfl
theorem TabAt.nodup {w : World} {bt b1 b2 N : Nat} {v : Value} {L : List Lease} {E : List End} (h : TabAt w bt b1 b2 v N L E) : (L.map Lease.key).Nodup := by rw [← leasesOf_fst]; exact h.m1.nodup
theorem TabAt.count {w : World} {bt b1 b2 N : Nat} {v : Value} {L : List Lease} {E : List End} (h : TabAt w bt b1 b2 v N L E) : L.length ≤ N := by
  have := h.m1.size_le
  rwa [leasesOf, List.length_map] at this
theorem LeasesIs.drew {w : World} {B : Nat} {v : Value} {R : List Lease} (h : LeasesIs w B v R) : LeasesIs w.drew B v R := h
theorem flat_snoc (R : List Lease) (l : Lease) : (R ++ [l]).flatMap Lease.cells = R.flatMap Lease.cells ++ l.cells := by rw [List.flatMap_append, List.flatMap_singleton]

set_option maxHeartbeats 3200000 in
set_option maxRecDepth 100000 in
theorem picked_run (w : World) (bt b1 b2 N : Nat) (v : Value) (L : List Lease) (E : List End) (h : TabAt w bt b1 b2 v N L E) (hN : N ≤ 1000000000) (g : Nat) (lb : Array Value) (p : Lease → Bool)
    (eg : ∀ args w, (callFunc g args).run Tryz.prog w = .ok (.enter g args) w) (hp : ∀ W l, l ∈ L → Quiet w W → Calls Tryz.prog g (#[l.val] ++ lb) W fun e w' => e = .returned (.bool (p l)) ∧ Quiet W w') :
    Calls Tryz.prog 31 #[.pointer (some ⟨bt, 0, none⟩), .func (.func g) #[] lb] w fun e w' => ∃ v' R, e = .returned v' ∧ R.Perm (L.filter p) ∧ Sorted R ∧ LeasesIs w' w.heap.size v' R ∧ Quiet w w' := by
  obtain ⟨i0, hi0, hz0, hz1, hz2⟩ := info_parts info_lease
  have lt : bt < w.heap.size := (Array.getElem?_eq_some_iff.1 h.blk).1
  have c0 := (cell_tab h).1
  have lb1 := h.m1.lt
  have HT := Aside1.mk h
  have HP := Aside1.mk hp
  clear h hp
  go_enter Tryz.func31, Tryz.ntmps31
  go_wp2_with (first
    | (at_range; go_loud (refine wpList_range_map rfl _ rfl encKey Tryz.underlying55 rfl (HT.out.m1.block rfl) ?_; intro w0 hrg0 hg0 hs0))
    | go_in)
  go_frame
  go_loopw [5] (fun v5 wr => ∃ (don rest : List (Key × Lease)) (cnt : Nat), Aside1 (Ranging Tryz.prog 71 Key.val Key.ok Lease.val wr b1 w.heap.size N (leasesOf L) rest cnt) ∧ Aside1 ((leasesOf L).Perm (don ++ rest)) ∧ Aside1 (LeasesIs wr (w.heap.size + 1) v5 ((don.map Prod.snd).filter p)) ∧ Aside1 (Quiet w wr)) (fun _ wr => wr.rangeLeft b1 w.heap.size)
  case atStart => exact ⟨[], leasesOf L, _, ⟨hrg0⟩, ⟨List.Perm.refl _⟩, ⟨⟨rfl, .inl ⟨rfl, rfl⟩⟩⟩, ⟨Kept.grown hg0 (fun k hk => by cases hk)⟩⟩
  case round =>
    clear hrg0 hg0 hs0 w0
    obtain ⟨don, rest, cnt, HR, HPm, HO, HQ⟩ := hrel
    go_wp2_with (first
      | (at_next; (refine wpList_next_map rfl _ rfl encKey w.heap.size cnt rest rfl HR.out ?_ ?_))
      | go_in)
    · intro hnil
      subst hnil
      have hpm : (don.map Prod.snd).Perm L := by
        have := HPm.out.map Prod.snd
        rw [leasesOf_snd, List.append_nil] at this
        exact this.symm
      have hpf := hpm.filter p
      have hnd : (((don.map Prod.snd).filter p).map Lease.key).Nodup := (hpf.map _).nodup_iff.2 (HT.out.nodup.sublist (List.filter_sublist.map _))
      have hlen : ((don.map Prod.snd).filter p).length < 4611686018427387904 := by
        have h1 := hpf.length_eq
        have h2 := List.length_filter_le p L
        have h3 := HT.out.count
        omega
      have HF := Aside1.mk hpf
      clear hpm hpf
      go_wp2_with (go_at_call 52; refine (sort_leases _ (w.heap.size + 1) _ _ HO.out hnd hlen).mono ?_; rintro e w2 ⟨rfl, R1, hpR, hsR, hlR, hkR⟩)
      go_ret
      refine ⟨_, R1, rfl, hpR.trans HF.out, hsR, hlR.mono (Nat.le_succ _), HQ.out.andThen hkR (fun i hi h => ?_)⟩
      have := (HO.out.lt h).1
      omega
    · intro kk l R' w1 cnt1 hin hperm hrg1 hlt hg1 hs1 hen
      obtain ⟨l', hl, he⟩ := List.mem_map.1 hin
      cases he
      have hq1 : Quiet w w1 := HQ.out.andThen (Kept.grown (S := fun i => i = w.heap.size) hg1 (fun k hk => (Option.some.inj hk).symm)) (fun i hi h => by omega)
      have hO1 : LeasesIs w1 (w.heap.size + 1) u5 ((don.map Prod.snd).filter p) := HO.out.kept fun k hk => hg1.block k (HO.out.lt hk).2 (fun e => by have := (HO.out.lt hk).1; have := Option.some.inj e; omega)
      have HR1 := Aside1.mk hrg1
      have HP1 := Aside1.mk (HPm.out.trans (hperm.append_left don))
      have HQ1 := Aside1.mk hq1
      have HO1 := Aside1.mk hO1
      have HL := Aside1.mk hlt
      have hle := HR.out.left_eq
      have hcall := fun W (hq : Quiet w W) => HP.out W l hl hq
      have HM := Aside1.mk hl
      clear hin hperm hg1 hs1 hq1 hO1 hrg1 hl hlt HQ HO HPm
      have HP2 : Aside1 ((leasesOf L).Perm ((don ++ [(l.key, l)]) ++ R')) := ⟨by rw [List.append_assoc]; exact HP1.out⟩
      clear HP1
      cases hpl : p l with
      | false =>
        have HP3 : Aside1 ((((don ++ [(l.key, l)]).map Prod.snd).filter p) = ((don.map Prod.snd).filter p)) := ⟨by rw [List.map_append, List.filter_append]; simp [hpl]⟩
        rw [hpl] at hcall
        clear hpl
        generalize hK : l.key = lk at *
        obtain ⟨⟨k, hh, lo, b⟩, s, c, i, t⟩ := l
        subst hK
        simp only [Lease.val, Key.val] at hen hcall ⊢
        go_wp2_with (first
          | (go_at_fn g; (refine (hcall _ ?_).mono ?_; (first | exact HQ1.out.alloc _ | exact (HQ1.out.alloc _).drew); rintro e w2 ⟨rfl, hq2⟩))
          | go_in)
        have hqq : Quiet w1 w2 := ((Kept.refl _ w1).alloc _).andThen hq2 (fun _ _ h => h)
        have hR2 := HR1.out.block (hqq.block b1 (Nat.lt_of_lt_of_le lb1 HQ1.out.size) (fun h => h)) (hqq.block w.heap.size HR1.out.lt (fun h => h))
        exact ⟨⟨_, R', cnt1, ⟨hR2⟩, HP2, ⟨by rw [HP3.out]; exact HO1.out.old hqq (fun _ _ h => h)⟩, ⟨HQ1.out.andThen hqq (fun _ _ h => h)⟩⟩, by rw [hR2.left_eq, hle]; exact HL.out⟩
      | true =>
        have HP3 : Aside1 ((((don ++ [(l.key, l)]).map Prod.snd).filter p) = ((don.map Prod.snd).filter p) ++ [l]) := ⟨by rw [List.map_append, List.filter_append]; simp [hpl]⟩
        have hlen : ((don.map Prod.snd).filter p).length ≤ 1000000000 := by
          have h1 := HP2.out.length_eq
          rw [leasesOf, List.length_map, List.append_assoc, List.length_append] at h1
          have h2 := List.length_filter_le p (don.map Prod.snd)
          have h3 := HT.out.count
          rw [List.length_map] at h2
          omega
        rw [hpl] at hcall
        clear hpl
        generalize hK : l.key = lk at *
        obtain ⟨⟨k, hh, lo, b⟩, s, c, i, t⟩ := l
        subst hK
        simp only [Lease.val, Key.val] at hen hcall ⊢
        generalize hG : (don.map Prod.snd).filter p = G at *
        go_wp2_with (first
          | (go_at_fn g; (refine (hcall _ ?_).mono ?_; (first | exact HQ1.out.alloc _ | exact (HQ1.out.alloc _).drew); rintro e w2 ⟨rfl, hq2⟩; have hqq : Quiet w1 w2 := ((Kept.refl _ w1).alloc _).andThen hq2 (fun _ _ h => h); have HB := Aside1.mk ((hq2.block w1.heap.size (by rw [World.size_alloc]; exact Nat.lt_succ_self _) (fun h => h)).trans (heap_alloc_new w1 _)); have y0 := (cell_of HB.out 0).1; have y1 := (cell_of HB.out 1).1; have y2 := (cell_of HB.out 2).1; have y3 := (cell_of HB.out 3).1; have y4 := (cell_of HB.out 4).1; have y5 := (cell_of HB.out 5).1; have y6 := (cell_of HB.out 6).1; have y7 := (cell_of HB.out 7).1; simp only [List.getElem?_toArray, List.getElem?_cons_zero, List.getElem?_cons_succ] at y0 y1 y2 y3 y4 y5 y6 y7; have HR2 := Aside1.mk (HR1.out.block (hqq.block b1 (Nat.lt_of_lt_of_le lb1 HQ1.out.size) (fun h => h)) (hqq.block w.heap.size HR1.out.lt (fun h => h))); have HO2 := Aside1.mk (HO1.out.old hqq (fun _ _ h => h)); have HQ2 := Aside1.mk (HQ1.out.andThen hqq (fun _ _ h => h))))
          | (at_builtin; (refine wpList_append_own_at _ rfl _ _ 43 rfl (w.heap.size + 1) 30 i0 _ 8 72 Tryz.underlying43 hi0 hz0 hz1 hz2 rfl (by omega) _ _ _ rfl (HO2.out.alloc _) ⟨w2.heap.size, 0, none⟩ 1 1 [.int .i64 k, .int .u64 hh, .int .u64 lo, .int .i64 b, .int .i64 s, .string c, .int .u32 i, .int .i64 t] rfl rfl (World.news_of_block (fr := (0, 0)) (heap_alloc_new w2 _)) (by simp [Value.oneCell']) (by unfold maxLen; omega) (by omega) (by have := HR2.out.lt; rw [World.size_alloc]; omega) ?_; intro v' w3 hown hgrow hnil hloc))
          | go_in)
        have hsz2 := HR2.out.lt
        have hq3 : Kept (fun i => u5.ownBlock = some i) w2 w3 := ((Kept.refl (fun i => u5.ownBlock = some i) w2).alloc _).andThen (Kept.grown (S := fun i => u5.ownBlock = some i) hgrow (fun k hk => hk)) (fun _ _ h => h)
        have hfar : ∀ i, i ≤ w.heap.size → ¬ u5.ownBlock = some i := fun i hi h => by have := (HO2.out.lt h).1; omega
        have hR3 := HR2.out.block (hq3.block b1 (by omega) (hfar b1 (by omega))) (hq3.block w.heap.size hsz2 (hfar _ (Nat.le_refl _)))
        have hO3 : LeasesIs w3 (w.heap.size + 1) v' (G ++ [⟨⟨k, hh, lo, b⟩, s, c, i, t⟩]) := by
          unfold LeasesIs
          rw [List.length_append, flat_snoc]
          exact hown
        exact ⟨⟨_, R', cnt1, ⟨hR3⟩, HP2, ⟨by rw [HP3.out]; exact hO3⟩, ⟨HQ2.out.andThen hq3 (fun i hi h => hfar i (by omega) h)⟩⟩, by rw [hR3.left_eq, hle]; exact HL.out⟩
end Go.Proofs.YtmegbllhidkmoaaGreat.Tb

/- lease.Right, Sound, Change, Meets: what they answer. -/
namespace Go.Proofs.YtmegbllhidkmoaaGreat.Tb
open Go.RowKit Go.Maps Go.Proofs.YtmegbllhidkmoaaGreatW.PrintWords Go.Proofs.YtmegbllhidkmoaaGreatW.PrintLast Go.Proofs.YtmegbllhidkmoaaGreatW.PrintMore
set_option linter.unusedVariables false
attribute [local go_sem] fldA_0 fldA_1 fldP_0 fldP_1
attribute [local go_sem high] eqA27 eqA30
theorem quiet_of_below {w w' : World} (h : Below w.heap.size w w') : Quiet w w' := ⟨h.os, h.tape, h.output, h.size, fun k hk _ => h.block k hk⟩
theorem wrap64_le (x : Int) : wrap64 x ≤ 9223372036854775807 := by unfold wrap64; omega
theorem wrap64_id {x : Int} (h0 : -9223372036854775808 ≤ x) (h : x ≤ 9223372036854775807) : wrap64 x = x := by unfold wrap64; omega
theorem up_total (h l n : Int) (hn : n ≤ 9223372036854775807) : ∃ r, addr_Up.f h l n = some r := by
  unfold addr_Up.f
  by_cases h1 : n ≤ 0
  · exact ⟨_, if_pos h1⟩
  · rw [if_neg h1]
    by_cases h2 : n ≥ 64
    · rw [if_pos h2, if_pos (by rw [wrap64_id] <;> omega)]; exact ⟨_, rfl⟩
    · rw [if_neg h2, if_pos (by omega), if_pos (by rw [wrap64_id] <;> omega)]; exact ⟨_, rfl⟩
theorem down_total (h l n : Int) (hn : n ≤ 9223372036854775807) : ∃ r, addr_Down.f h l n = some r := by
  unfold addr_Down.f
  by_cases h1 : n ≤ 0
  · exact ⟨_, if_pos h1⟩
  · rw [if_neg h1]
    by_cases h2 : n ≥ 64
    · rw [if_pos h2, if_pos (by rw [wrap64_id] <;> omega)]; exact ⟨_, rfl⟩
    · rw [if_neg h2, if_pos (by omega), if_pos (by rw [wrap64_id] <;> omega)]; exact ⟨_, rfl⟩
theorem clip_total (k : Nat) (h l n : Int) : ∃ r, addr_Clip.f (k + 1) h l n = some r := by
  unfold addr_Clip.f
  have hj : ∀ b, ∃ r, addr_Clip.j0 (k + 1) n b h l = some r := fun b => by
    cases b with
    | true => simp only [addr_Clip.j0]; exact ⟨_, if_pos trivial⟩
    | false =>
      obtain ⟨r, hr⟩ := down_total h l (wrap64 (128 - n)) (wrap64_le _)
      obtain ⟨r', hr'⟩ := up_total r.1 r.2 (wrap64 (128 - n)) (wrap64_le _)
      simp only [addr_Clip.j0]
      rw [if_neg (by simp), hr]
      simp only [Option.bind_some]
      rw [hr']
      exact ⟨_, rfl⟩
  split <;> exact hj _
theorem clip_bits (k : Nat) (h l n : Int) {a b c : Int} {d : Bool} (he : addr_Clip.f (k + 1) h l n = some (a, b, c, d)) (hd : d = true) : 0 ≤ n ∧ n ≤ 128 := by
  subst hd
  unfold addr_Clip.f at he
  by_cases hn : n < 0
  · rw [if_pos hn] at he; simp [addr_Clip.j0] at he
  · rw [if_neg hn] at he
    by_cases hb : n > 128
    · rw [show decide (n > 128) = true from decide_eq_true hb] at he; simp [addr_Clip.j0] at he
    · omega
theorem sound_total (k : Nat) (h l n : Int) : ∃ b, addr_Sound.f (k + 1) h l n = some b ∧ (b = true → 0 ≤ n ∧ n ≤ 128) := by
  unfold addr_Sound.f
  obtain ⟨⟨a, b, c, d⟩, hr⟩ := clip_total k h l n
  rw [hr]
  simp only [Option.bind_some]
  cases d with
  | true => rw [if_pos rfl]; exact ⟨_, rfl, fun _ => clip_bits k h l n hr rfl⟩
  | false => rw [if_neg (by simp)]; exact ⟨_, rfl, fun h => by cases h⟩
theorem span_total (k : Nat) (h l n : Int) : ∃ r, addr_Span.f (k + 1) h l n = some r := by
  unfold addr_Span.f
  obtain ⟨b, hb, hn⟩ := sound_total k h l n
  rw [hb]
  simp only [Option.bind_some]
  cases b with
  | false => rw [if_neg (by simp)]; exact ⟨_, rfl⟩
  | true =>
    obtain ⟨r, hr⟩ := down_total 18446744073709551615 18446744073709551615 n (by have := hn rfl; omega)
    rw [if_pos rfl, hr]; exact ⟨_, rfl⟩
theorem cmp_f (k : Nat) (h l h' l' : Int) : addr_Cmp.f (k + 3) h l h' l' = some (cmpA h l h' l') := rfl
theorem has_total (k : Nat) (h l n a b : Int) : ∃ r, addr_Has.f (k + 3) h l n a b = some r := by
  unfold addr_Has.f
  obtain ⟨s, hs⟩ := span_total (k + 2) h l n
  obtain ⟨d, hd, _⟩ := sound_total (k + 2) h l n
  rw [hs]
  simp only [Option.bind_some]
  rw [hd]
  simp only [Option.bind_some]
  cases d with
  | false => rw [if_neg (by simp)]; exact ⟨_, rfl⟩
  | true =>
    rw [if_pos rfl, cmp_f, Option.bind_some]
    by_cases hc : cmpA s.1 s.2.1 a b ≤ 0
    · rw [if_pos hc, cmp_f]; exact ⟨_, rfl⟩
    · rw [if_neg hc]; exact ⟨_, rfl⟩
theorem covers_total (k : Nat) (h l n h' l' n' : Int) : ∃ r, addr_Covers.f (k + 3) h l n h' l' n' = some r := by
  unfold addr_Covers.f
  obtain ⟨s, hs⟩ := span_total (k + 2) h' l' n'
  obtain ⟨d, hd, _⟩ := sound_total (k + 2) h' l' n'
  rw [hs]
  simp only [Option.bind_some]
  rw [hd]
  simp only [Option.bind_some]
  cases d with
  | false => rw [if_neg (by simp)]; exact ⟨_, rfl⟩
  | true =>
    obtain ⟨r, hr⟩ := has_total k h l n s.1 s.2.1
    rw [if_pos rfl, hr, Option.bind_some]
    cases r with
    | false => rw [if_neg (by simp)]; exact ⟨_, rfl⟩
    | true =>
      obtain ⟨r, hr⟩ := has_total k h l n s.2.2.1 s.2.2.2
      rw [if_pos rfl, hr]; exact ⟨_, rfl⟩

def soundP (k : Key) : Bool := (addr_Sound.f 19 k.hi k.lo k.bits).getD false
def coversP (a b : Key) : Bool := (addr_Covers.f 19 a.hi a.lo a.bits b.hi b.lo b.bits).getD false
def is4 (k : Key) : Bool := decide (k.hi = 0) && decide (k.lo ≤ 4294967295)
def rightB (k : Key) : Bool :=
  if k.kind = 1 then decide (k.bits = 128) && is4 k
  else if k.kind = 2 ∨ k.kind = 3 then decide (k.bits = 128)
  else if k.kind = 4 then soundP k && decide (k.bits ≥ 1) && decide (k.bits < 128) else false
def meetsB (a b : Key) : Bool :=
  rightB a && rightB b && (if a.kind = 1 ∨ b.kind = 1 then decide (a = b) else coversP a b || coversP b a)
theorem meetsB_symm (a b : Key) : meetsB a b = meetsB b a := by
  unfold meetsB
  have e1 : decide (a = b) = decide (b = a) := by rw [Bool.eq_iff_iff, decide_eq_true_eq, decide_eq_true_eq]; exact eq_comm
  rw [Bool.and_comm (rightB a), Bool.or_comm (coversP a b), e1]
  by_cases h : a.kind = 1 ∨ b.kind = 1
  · rw [if_pos h, if_pos h.symm]
  · rw [if_neg h, if_neg (fun k => h k.symm)]
theorem right_f (k : Key) : lease_Right.f 20 k.kind k.hi k.lo k.bits = some (rightB k) := by
  obtain ⟨kind, hi, lo, bits⟩ := k
  unfold lease_Right.f rightB addr_To4.f is4
  obtain ⟨b, hb, _⟩ := sound_total 18 hi lo bits
  have hs : soundP ⟨kind, hi, lo, bits⟩ = b := by unfold soundP; rw [hb]; rfl
  rw [hs]
  simp only
  by_cases h1 : kind = 1
  · subst h1
    by_cases h0 : hi = 0
    · by_cases h2 : lo > 4294967295
      · have : ¬ lo ≤ 4294967295 := by omega
        simp [h0, h2, this]
      · have : lo ≤ 4294967295 := by omega
        by_cases h3 : bits = 128 <;> simp [h0, h2, this, h3]
    · by_cases h3 : bits = 128 <;> simp [h0, h3]
  · have hto : ∃ r, (if hi = 0 then (if lo > 4294967295 then (some ((0 : Int), false)) else (some ((lo) % 4294967296, true))) else (some (0, false))) = some r := by
      split
      · split <;> exact ⟨_, rfl⟩
      · exact ⟨_, rfl⟩
    obtain ⟨r, hr⟩ := hto
    rw [hr]
    simp only [Option.bind_some, if_neg h1]
    by_cases h2 : kind = 2
    · subst h2
      simp only [if_pos, true_or]
      unfold lease_Right.j0
      by_cases h3 : bits = 128 <;> simp [h3]
    · simp only [if_neg h2]
      unfold lease_Right.j0
      by_cases h3 : kind = 3
      · subst h3
        by_cases h4 : bits = 128 <;> simp [h4]
      · simp only [h2, h3, or_self, if_false]
        by_cases h4 : kind = 4
        · subst h4
          simp only [if_true, hb, Option.bind_some]
          cases b
          · simp
          · by_cases h5 : bits ≥ 1 <;> simp [h5]
        · simp [h3, h4]
theorem covers_f (a b : Key) : addr_Covers.f 19 a.hi a.lo a.bits b.hi b.lo b.bits = some (coversP a b) := by
  obtain ⟨c, hc⟩ := covers_total 16 a.hi a.lo a.bits b.hi b.lo b.bits
  unfold coversP
  rw [hc]; rfl
theorem ameets_f (a b : Key) : addr_Meets.f 19 a.hi a.lo a.bits b.hi b.lo b.bits = some (coversP a b || coversP b a) := by
  unfold addr_Meets.f
  rw [covers_f, covers_f]
  cases coversP a b <;> rfl
theorem right_run (w : World) (k : Key) : Calls Tryz.prog 59 #[.int .i64 k.kind, .agg #[.int .u64 k.hi, .int .u64 k.lo, .int .i64 k.bits]] w fun e w' => e = .returned (.bool (rightB k)) ∧ Quiet w w' := lease_Right.calls 20 _ _ _ _ _ w (right_f k)
theorem ameets_run (w : World) (a b : Key) : Calls Tryz.prog 67 #[.agg #[.int .u64 a.hi, .int .u64 a.lo, .int .i64 a.bits], .agg #[.int .u64 b.hi, .int .u64 b.lo, .int .i64 b.bits]] w fun e w' => e = .returned (.bool (coversP a b || coversP b a)) ∧ Quiet w w' := addr_Meets.calls 19 _ _ _ _ _ _ _ w (ameets_f a b)
def soundL (l : Lease) : Bool :=
  rightB l.key && decide (0 ≤ l.till) && decide (l.till ≤ 1099511627776) &&
    (if l.state = 1 then !(l.client.toList == []) && decide (l.client.size ≤ 130) && (decide (l.key.kind ≠ 1) || l.iaid == 0)
     else if l.state = 2 then decide (l.key.kind ≠ 4) && l.client.toList == [] && l.iaid == 0 else false)
structure Change where
  gone : Bool
  lease : Lease
def Change.val (c : Change) : Value := .agg #[.bool c.gone, .int .i64 c.lease.key.kind, .int .u64 c.lease.key.hi, .int .u64 c.lease.key.lo, .int .i64 c.lease.key.bits, .int .i64 c.lease.state, .string c.lease.client, .int .u32 c.lease.iaid, .int .i64 c.lease.till]
def changeB (c : Change) : Bool :=
  if c.gone then rightB c.lease.key && (c.lease.state == 0 && (c.lease.client.toList == ([] : List UInt8) && (c.lease.iaid == 0 && c.lease.till == 0))) else soundL c.lease
set_option maxHeartbeats 1600000 in
set_option maxRecDepth 100000 in
theorem meets_run (w : World) (a b : Key) : Calls Tryz.prog 51 #[.int .i64 a.kind, .agg #[.int .u64 a.hi, .int .u64 a.lo, .int .i64 a.bits], .int .i64 b.kind, .agg #[.int .u64 b.hi, .int .u64 b.lo, .int .i64 b.bits]] w fun e w' => e = .returned (.bool (meetsB a b)) ∧ Quiet w w' := by
  have HA := Aside1.mk (fun W => right_run W a)
  have HB := Aside1.mk (fun W => right_run W b)
  have HM := Aside1.mk (fun W => ameets_run W a b)
  have hm : meetsB a b = (rightB a && rightB b && (if a.kind = 1 ∨ b.kind = 1 then decide (a = b) else coversP a b || coversP b a)) := rfl
  have hk : decide (a = b) = (decide (a.kind = b.kind) && ((a.hi == b.hi && a.lo == b.lo) && a.bits == b.bits)) := by
    rw [Bool.eq_iff_iff]
    simp only [decide_eq_true_eq, Bool.and_eq_true, beq_iff_eq]
    exact ⟨fun e => by subst e; exact ⟨rfl, ⟨rfl, rfl⟩, rfl⟩, fun ⟨e1, ⟨e2, e3⟩, e4⟩ => Key.eq_of e1 e2 e3 e4⟩
  rw [hk] at hm
  have HH := Aside1.mk hm
  clear hm hk
  generalize meetsB a b = r at HH ⊢
  generalize rightB a = ra at HA HH
  generalize rightB b = rb at HB HH
  generalize (coversP a b || coversP b a) = c at HM HH
  obtain ⟨k, h, l, n⟩ := a
  obtain ⟨k', h', l', n'⟩ := b
  cases ra with
  | false =>
    go_enter Tryz.func51, Tryz.ntmps51
    go_wp2_with fail
    refine (HA.out _).mono ?_
    rintro e w1 ⟨rfl, hq1⟩
    go_wp2_with fail
    go_ret
    exact ⟨by rw [HH.out]; rfl, by (repeat (first | exact Kept.refl _ _ | assumption | apply Kept.drew | apply Kept.drewN | apply Kept.alloc | refine Kept.setCell ?_ (fun hlt => absurd hlt (Nat.lt_irrefl _)) _ | refine Kept.andThen ?_ (by assumption) (fun _ _ h => h)))⟩
  | true =>
    cases rb with
    | false =>
      go_enter Tryz.func51, Tryz.ntmps51
      go_wp2_with fail
      refine (HA.out _).mono ?_
      rintro e w1 ⟨rfl, hq1⟩
      obtain ⟨b0, b1, b2, _⟩ := at3 (blk (new1 w _ _) hq1)
      go_wp2_with fail
      refine (HB.out _).mono ?_
      rintro e w2 ⟨rfl, hq2⟩
      go_wp2_with fail
      go_ret
      exact ⟨by rw [HH.out]; rfl, by (repeat (first | exact Kept.refl _ _ | assumption | apply Kept.drew | apply Kept.drewN | apply Kept.alloc | refine Kept.setCell ?_ (fun hlt => absurd hlt (Nat.lt_irrefl _)) _ | refine Kept.andThen ?_ (by assumption) (fun _ _ h => h)))⟩
    | true =>
      simp only [Bool.and_self, Bool.true_and] at HH
      by_cases h1 : k = 1 ∨ k' = 1
      · have HH2 : Aside1 (r = (decide (k = k') && ((h == h' && l == l') && n == n'))) := ⟨by have := HH.out; rw [if_pos h1] at this; exact this⟩
        clear HH
        have hw : ((k == 1) = true) ∨ ((k == 1) = false ∧ (k' == 1) = true) := by
          by_cases h : k = 1
          · exact .inl (by simp [h])
          · exact .inr ⟨by simp [h], by rcases h1 with e | e; (· exact absurd e h); (· simp [e])⟩
        clear h1
        by_cases hkk : k = k'
        · have HH3 : Aside1 (r = ((h == h' && l == l') && n == n')) := ⟨by rw [HH2.out, decide_eq_true hkk, Bool.true_and]⟩
          subst hkk
          clear HH2
          rcases hw with hw | ⟨hw, hw'⟩
          · go_enter Tryz.func51, Tryz.ntmps51
            go_wp2_with fail
            refine (HA.out _).mono ?_
            rintro e w1 ⟨rfl, hq1⟩
            obtain ⟨b0, b1, b2, _⟩ := at3 (blk (new1 w _ _) hq1)
            go_wp2_with fail
            refine (HB.out _).mono ?_
            rintro e w2 ⟨rfl, hq2⟩
            obtain ⟨b0', b1', b2', _⟩ := at3 (blk (new1 w _ _) (hq1.andThen hq2 (fun _ _ h => h)))
            obtain ⟨a0', a1', a2', _⟩ := at3 (blk (old1 w _ _) (hq1.andThen hq2 (fun _ _ h => h)))
            go_wp2_with fail
            go_ret
            exact ⟨by rw [HH3.out]; rfl, by (repeat (first | exact Kept.refl _ _ | assumption | apply Kept.drew | apply Kept.drewN | apply Kept.alloc | refine Kept.setCell ?_ (fun hlt => absurd hlt (Nat.lt_irrefl _)) _ | refine Kept.andThen ?_ (by assumption) (fun _ _ h => h)))⟩
          · rw [hw] at hw'; cases hw'
        · have HH3 : Aside1 (r = false) := ⟨by rw [HH2.out, decide_eq_false hkk, Bool.false_and]⟩
          have hkk' : (k == k') = false := by simpa using hkk
          clear HH2 hkk
          rcases hw with hw | ⟨hw, hw'⟩
          all_goals
            go_enter Tryz.func51, Tryz.ntmps51
            go_wp2_with fail
            refine (HA.out _).mono ?_
            rintro e w1 ⟨rfl, hq1⟩
            obtain ⟨b0, b1, b2, _⟩ := at3 (blk (new1 w _ _) hq1)
            go_wp2_with fail
            refine (HB.out _).mono ?_
            rintro e w2 ⟨rfl, hq2⟩
            obtain ⟨b0', b1', b2', _⟩ := at3 (blk (new1 w _ _) (hq1.andThen hq2 (fun _ _ h => h)))
            obtain ⟨a0', a1', a2', _⟩ := at3 (blk (old1 w _ _) (hq1.andThen hq2 (fun _ _ h => h)))
            go_wp2_with fail
            go_ret
            exact ⟨by rw [HH3.out]; rfl, by (repeat (first | exact Kept.refl _ _ | assumption | apply Kept.drew | apply Kept.drewN | apply Kept.alloc | refine Kept.setCell ?_ (fun hlt => absurd hlt (Nat.lt_irrefl _)) _ | refine Kept.andThen ?_ (by assumption) (fun _ _ h => h)))⟩
      · have HH2 : Aside1 (r = c) := ⟨by have := HH.out; rw [if_neg h1] at this; exact this⟩
        have hw : (k == 1) = false := by simpa using fun e => h1 (.inl e)
        have hw' : (k' == 1) = false := by simpa using fun e => h1 (.inr e)
        clear h1 HH
        go_enter Tryz.func51, Tryz.ntmps51
        go_wp2_with fail
        refine (HA.out _).mono ?_
        rintro e w1 ⟨rfl, hq1⟩
        obtain ⟨b0, b1, b2, _⟩ := at3 (blk (new1 w _ _) hq1)
        go_wp2_with fail
        refine (HB.out _).mono ?_
        rintro e w2 ⟨rfl, hq2⟩
        obtain ⟨b0', b1', b2', _⟩ := at3 (blk (new1 w _ _) (hq1.andThen hq2 (fun _ _ h => h)))
        obtain ⟨a0', a1', a2', _⟩ := at3 (blk (old1 w _ _) (hq1.andThen hq2 (fun _ _ h => h)))
        go_wp2_with fail
        refine (HM.out _).mono ?_
        rintro e w3 ⟨rfl, hq3⟩
        go_wp2_with fail
        go_ret
        exact ⟨by rw [HH2.out]; rfl, by (repeat (first | exact Kept.refl _ _ | assumption | apply Kept.drew | apply Kept.drewN | apply Kept.alloc | refine Kept.setCell ?_ (fun hlt => absurd hlt (Nat.lt_irrefl _)) _ | refine Kept.andThen ?_ (by assumption) (fun _ _ h => h)))⟩
theorem at8 {w : World} {b : Nat} {x0 x1 x2 x3 x4 x5 x6 x7 : Value} {t : TypeId} (h : w.heap[b]? = some (.cells #[x0, x1, x2, x3, x4, x5, x6, x7] t (0, 0))) : w.cell? ⟨b, 0, none⟩ = some x0 ∧ w.cell? ⟨b, 1, none⟩ = some x1 ∧ w.cell? ⟨b, 2, none⟩ = some x2 ∧ w.cell? ⟨b, 3, none⟩ = some x3 ∧ w.cell? ⟨b, 4, none⟩ = some x4 ∧ w.cell? ⟨b, 5, none⟩ = some x5 ∧ w.cell? ⟨b, 6, none⟩ = some x6 ∧ w.cell? ⟨b, 7, none⟩ = some x7 :=
  ⟨(cell_of h 0).1, by simpa using (cell_of h 1).1, by simpa using (cell_of h 2).1, by simpa using (cell_of h 3).1, by simpa using (cell_of h 4).1, by simpa using (cell_of h 5).1, by simpa using (cell_of h 6).1, by simpa using (cell_of h 7).1⟩
/-- What Sound's answer hangs on, way by way. -/
theorem sound_ways (l : Lease) : (rightB l.key = false ∧ soundL l = false) ∨ (rightB l.key = true ∧ ((l.till < 0 ∧ soundL l = false) ∨ (0 ≤ l.till ∧ 1099511627776 < l.till ∧ soundL l = false) ∨ (0 ≤ l.till ∧ l.till ≤ 1099511627776 ∧
    ((l.state = 1 ∧ ((l.client.toList = [] ∧ soundL l = false) ∨ ((!l.client.toList.isEmpty) = true ∧ 130 < (l.client.size : Int) ∧ soundL l = false) ∨ ((!l.client.toList.isEmpty) = true ∧ (l.client.size : Int) ≤ 130 ∧ (l.key.kind == 1) = false ∧ soundL l = true) ∨ ((!l.client.toList.isEmpty) = true ∧ (l.client.size : Int) ≤ 130 ∧ l.key.kind = 1 ∧ soundL l = (l.iaid == 0)))) ∨
     (l.state = 2 ∧ ((l.key.kind = 4 ∧ soundL l = false) ∨ ((l.key.kind == 4) = false ∧ l.client.toList = [] ∧ soundL l = (l.iaid == 0)) ∨ ((l.key.kind == 4) = false ∧ (!l.client.toList.isEmpty) = true ∧ soundL l = false))) ∨
     ((l.state == 1) = false ∧ (l.state == 2) = false ∧ soundL l = false))))) := by
  unfold soundL
  cases rightB l.key with
  | false => exact .inl ⟨rfl, rfl⟩
  | true =>
    refine .inr ⟨rfl, ?_⟩
    by_cases h0 : l.till < 0
    · exact .inl ⟨h0, by rw [decide_eq_false (show ¬ 0 ≤ l.till by omega)]; rfl⟩
    · refine .inr ?_
      rw [decide_eq_true (show 0 ≤ l.till by omega)]
      by_cases h1 : l.till ≤ 1099511627776
      · refine .inr ⟨by omega, h1, ?_⟩
        rw [decide_eq_true h1]
        by_cases s1 : l.state = 1
        · refine .inl ⟨s1, ?_⟩
          rw [if_pos s1]
          by_cases hc : l.client.toList = []
          · exact .inl ⟨hc, by rw [hc]; rfl⟩
          · have hcb : (l.client.toList == []) = false := by simpa using hc
            have hce : (!l.client.toList.isEmpty) = true := by simpa using hc
            rw [hcb]
            refine .inr ?_
            by_cases hz : l.client.size ≤ 130
            · refine .inr ?_
              rw [decide_eq_true hz]
              by_cases hk : l.key.kind = 1
              · exact .inr ⟨hce, by omega, hk, by rw [decide_eq_false (show ¬ l.key.kind ≠ 1 from fun h => h hk)]; rfl⟩
              · exact .inl ⟨hce, by omega, by simpa using hk, by rw [decide_eq_true hk]; rfl⟩
            · exact .inl ⟨hce, by omega, by rw [decide_eq_false hz]; rfl⟩
        · rw [if_neg s1]
          refine .inr ?_
          by_cases s2 : l.state = 2
          · refine .inl ⟨s2, ?_⟩
            rw [if_pos s2]
            by_cases hk : l.key.kind = 4
            · exact .inl ⟨hk, by rw [decide_eq_false (show ¬ l.key.kind ≠ 4 from fun h => h hk)]; rfl⟩
            · refine .inr ?_
              rw [decide_eq_true hk]
              by_cases hc : l.client.toList = []
              · exact .inl ⟨by simpa using hk, hc, by rw [hc]; rfl⟩
              · exact .inr ⟨by simpa using hk, by simpa using hc, by rw [show (l.client.toList == []) = false by simpa using hc]; rfl⟩
          · rw [if_neg s2]
            exact .inr ⟨by simpa using s1, by simpa using s2, rfl⟩
      · exact .inl ⟨by omega, by omega, by rw [decide_eq_false h1]; rfl⟩
set_option maxHeartbeats 1600000 in
set_option maxRecDepth 100000 in
theorem sound_run (w : World) (l : Lease) : Calls Tryz.prog 58 #[l.val] w fun e w' => e = .returned (.bool (soundL l)) ∧ Quiet w w' := by
  have HA := Aside1.mk (fun W => right_run W l.key)
  have hw := sound_ways l
  generalize soundL l = r at hw ⊢
  generalize rightB l.key = ra at HA hw
  obtain ⟨⟨k, h, lo, n⟩, s, c, i, t⟩ := l
  simp only [Lease.val] at *
  rcases hw with ⟨rfl, rfl⟩ | ⟨rfl, ⟨h0, rfl⟩ | ⟨h0, h1, rfl⟩ | ⟨h0, h1, ⟨rfl, ⟨hc, rfl⟩ | ⟨hc, hz, rfl⟩ | ⟨hc, hz, hk, rfl⟩ | ⟨hc, hz, rfl, rfl⟩⟩ | ⟨rfl, ⟨rfl, rfl⟩ | ⟨hk, hc, rfl⟩ | ⟨hk, hc, rfl⟩⟩ | ⟨s1, s2, rfl⟩⟩⟩
  all_goals
    (try (have hk1 : (k != 1) = true := by simpa using hk))
    (try (have hk4 : (k != 4) = true := by simpa using hk))
    (try (have hc1 : ¬ c.toList = [] := by simpa using hc))
    go_enter Tryz.func58, Tryz.ntmps58
    go_wp2_with fail
    refine (HA.out _).mono ?_
    rintro e w1 ⟨rfl, hq1⟩
    obtain ⟨a0, a1, a2, a3, a4, a5, a6, a7⟩ := at8 (blk (new0 w _) hq1)
    go_wp2_with fail
    go_ret
    exact ⟨rfl, by (repeat (first | exact Kept.refl _ _ | assumption | apply Kept.drew | apply Kept.drewN | apply Kept.alloc | refine Kept.setCell ?_ (fun hlt => absurd hlt (Nat.lt_irrefl _)) _ | refine Kept.andThen ?_ (by assumption) (fun _ _ h => h)))⟩
theorem at9 {w : World} {b : Nat} {x0 x1 x2 x3 x4 x5 x6 x7 x8 : Value} {t : TypeId} (h : w.heap[b]? = some (.cells #[x0, x1, x2, x3, x4, x5, x6, x7, x8] t (0, 0))) : w.cell? ⟨b, 0, none⟩ = some x0 ∧ w.cell? ⟨b, 1, none⟩ = some x1 ∧ w.cell? ⟨b, 2, none⟩ = some x2 ∧ w.cell? ⟨b, 3, none⟩ = some x3 ∧ w.cell? ⟨b, 4, none⟩ = some x4 ∧ w.cell? ⟨b, 5, none⟩ = some x5 ∧ w.cell? ⟨b, 6, none⟩ = some x6 ∧ w.cell? ⟨b, 7, none⟩ = some x7 ∧ w.cell? ⟨b, 8, none⟩ = some x8 :=
  ⟨(cell_of h 0).1, by simpa using (cell_of h 1).1, by simpa using (cell_of h 2).1, by simpa using (cell_of h 3).1, by simpa using (cell_of h 4).1, by simpa using (cell_of h 5).1, by simpa using (cell_of h 6).1, by simpa using (cell_of h 7).1, by simpa using (cell_of h 8).1⟩
set_option maxHeartbeats 1600000 in
set_option maxRecDepth 100000 in
theorem change_run (w : World) (c : Change) : Calls Tryz.prog 42 #[c.val] w fun e w' => e = .returned (.bool (changeB c)) ∧ Quiet w w' := by
  obtain ⟨g, x⟩ := c
  have HA := Aside1.mk (fun W => right_run W x.key)
  have HS := Aside1.mk (fun W => sound_run W x)
  have hc : changeB ⟨g, x⟩ = (if g then rightB x.key && (x.state == 0 && (x.client.toList == ([] : List UInt8) && (x.iaid == 0 && x.till == 0))) else soundL x) := rfl
  have HC := Aside1.mk hc
  clear hc
  generalize changeB ⟨g, x⟩ = r at HC ⊢
  generalize soundL x = rs at HS HC
  generalize rightB x.key = ra at HA HC
  obtain ⟨⟨k, h, lo, n⟩, s, c, i, t⟩ := x
  simp only [Lease.val, Change.val] at *
  cases g with
  | false =>
    go_enter Tryz.func42, Tryz.ntmps42
    go_wp2_with fail
    refine (HS.out _).mono ?_
    rintro e w1 ⟨rfl, hq1⟩
    go_wp2_with fail
    go_ret
    exact ⟨by rw [HC.out]; rfl, by (repeat (first | exact Kept.refl _ _ | assumption | apply Kept.drew | apply Kept.drewN | apply Kept.alloc | refine Kept.setCell ?_ (fun hlt => absurd hlt (Nat.lt_irrefl _)) _ | refine Kept.andThen ?_ (by assumption) (fun _ _ h => h)))⟩
  | true =>
    cases ra with
    | false =>
      go_enter Tryz.func42, Tryz.ntmps42
      go_wp2_with fail
      refine (HA.out _).mono ?_
      rintro e w1 ⟨rfl, hq1⟩
      go_wp2_with fail
      go_ret
      exact ⟨by rw [HC.out]; rfl, by (repeat (first | exact Kept.refl _ _ | assumption | apply Kept.drew | apply Kept.drewN | apply Kept.alloc | refine Kept.setCell ?_ (fun hlt => absurd hlt (Nat.lt_irrefl _)) _ | refine Kept.andThen ?_ (by assumption) (fun _ _ h => h)))⟩
    | true =>
      go_enter Tryz.func42, Tryz.ntmps42
      go_wp2_with fail
      refine (HA.out _).mono ?_
      rintro e w1 ⟨rfl, hq1⟩
      obtain ⟨a0, a1, a2, a3, a4, a5, a6, a7, a8⟩ := at9 (blk (new0 w _) hq1)
      go_wp2_with fail
      go_ret
      exact ⟨by rw [HC.out]; simp, by (repeat (first | exact Kept.refl _ _ | assumption | apply Kept.drew | apply Kept.drewN | apply Kept.alloc | refine Kept.setCell ?_ (fun hlt => absurd hlt (Nat.lt_irrefl _)) _ | refine Kept.andThen ?_ (by assumption) (fun _ _ h => h)))⟩
end Go.Proofs.YtmegbllhidkmoaaGreat.Tb

/- All, Client, Meets. -/
namespace Go.Proofs.YtmegbllhidkmoaaGreat.Tb
open Go.RowKit Go.Maps Go.Shelf
set_option linter.unusedVariables false
theorem picked_sorted (w : World) (bt b1 b2 N : Nat) (v : Value) (L : List Lease) (E : List End) (h : TabAt w bt b1 b2 v N L E) (hN : N ≤ 1000000000) (hs : Sorted L) (g : Nat) (lb : Array Value) (p : Lease → Bool)
    (eg : ∀ args w, (callFunc g args).run Tryz.prog w = .ok (.enter g args) w) (hp : ∀ W l, l ∈ L → Quiet w W → Calls Tryz.prog g (#[l.val] ++ lb) W fun e w' => e = .returned (.bool (p l)) ∧ Quiet W w') :
    Calls Tryz.prog 31 #[.pointer (some ⟨bt, 0, none⟩), .func (.func g) #[] lb] w fun e w' => ∃ v', e = .returned v' ∧ LeasesIs w' w.heap.size v' (L.filter p) ∧ Quiet w w' := by
  refine (picked_run w bt b1 b2 N v L E h hN g lb p eg hp).mono ?_
  rintro e w' ⟨v', R, rfl, hp, hR, hl, hq⟩
  obtain rfl : R = L.filter p := hR.unique (hs.filter p) hp
  exact ⟨v', rfl, hl, hq⟩
set_option maxRecDepth 100000 in
theorem all_fn (w : World) (l : Lease) : Calls Tryz.prog 32 #[l.val] w fun e w' => e = .returned (.bool true) ∧ Quiet w w' := by
  obtain ⟨⟨k, h, lo, b⟩, s, c, i, t⟩ := l
  simp only [Lease.val]
  go_enter Tryz.func32, Tryz.ntmps32
  go_wp2_with fail
  go_ret
  exact ⟨rfl, (Kept.refl _ w).alloc _⟩
theorem bytes_same (c q : ByteArray) : c.toList = q.toList ↔ c = q := by
  rw [ByteArray.toList_eq, ByteArray.toList_eq]
  exact ⟨fun h => by cases c; cases q; simp_all, fun h => by rw [h]⟩
theorem bytes_eq (c q : ByteArray) : (c.toList == q.toList) = decide (c = q) := by
  rw [Bool.eq_iff_iff, beq_iff_eq, decide_eq_true_eq, bytes_same]
set_option maxRecDepth 100000 in
theorem client_fn (w : World) (l : Lease) (x : Nat) (q : ByteArray) (ha : w.cell? ⟨x, 0, none⟩ = some (.string q)) : Calls Tryz.prog 41 #[l.val, .pointer (some ⟨x, 0, none⟩)] w fun e w' => e = .returned (.bool (l.bound && decide (l.client = q))) ∧ Quiet w w' := by
  obtain ⟨⟨k, h, lo, b⟩, s, c, i, t⟩ := l
  have hx := World.block_lt_of_cell? w _ ha
  have hne : ¬ x = w.heap.size := by simp at hx; omega
  simp only [Lease.val, Lease.bound]
  by_cases hs : s = 1
  · subst hs
    go_enter Tryz.func41, Tryz.ntmps41
    go_wp2_with fail
    all_goals
      go_ret
      exact ⟨by simp; exact bytes_eq c q, (Kept.refl _ w).alloc _⟩
  · have hs' : (s == 1) = false := by simpa using hs
    go_enter Tryz.func41, Tryz.ntmps41
    go_wp2_with fail
    all_goals
      go_ret
      exact ⟨by simp [*], (Kept.refl _ w).alloc _⟩
set_option maxRecDepth 100000 in
theorem meets_fn (w : World) (l : Lease) (x y : Nat) (q : Key) (ha : w.cell? ⟨x, 0, none⟩ = some (.int .i64 q.kind)) (h0 : w.cell? ⟨y, 0, none⟩ = some (.int .u64 q.hi)) (h1 : w.cell? ⟨y, 1, none⟩ = some (.int .u64 q.lo)) (h2 : w.cell? ⟨y, 2, none⟩ = some (.int .i64 q.bits)) :
    Calls Tryz.prog 50 #[l.val, .pointer (some ⟨x, 0, none⟩), .pointer (some ⟨y, 0, none⟩)] w fun e w' => e = .returned (.bool (meetsB q l.key)) ∧ Quiet w w' := by
  obtain ⟨⟨k, h, lo, b⟩, s, c, i, t⟩ := l
  obtain ⟨qk, qh, ql, qb⟩ := q
  have hx := World.block_lt_of_cell? w _ ha
  have hne : ¬ x = w.heap.size := by simp at hx; omega
  have hy := World.block_lt_of_cell? w _ h0
  have hne' : ¬ y = w.heap.size := by simp at hy; omega
  simp only [Lease.val]
  go_enter Tryz.func50, Tryz.ntmps50
  go_wp2_with (go_at_call 51; refine (meets_run _ ⟨qk, qh, ql, qb⟩ ⟨k, h, lo, b⟩).mono ?_; rintro e w' ⟨rfl, hq⟩)
  all_goals
    go_ret
    exact ⟨rfl, ((Kept.refl _ w).alloc _).andThen hq (fun _ _ h => h)⟩

set_option maxRecDepth 100000 in
theorem tab_all (w : World) (bt b1 b2 N : Nat) (v : Value) (L : List Lease) (E : List End) (h : TabAt w bt b1 b2 v N L E) (hN : N ≤ 1000000000) (hs : Sorted L) :
    Calls Tryz.prog 11 #[.pointer (some ⟨bt, 0, none⟩)] w fun e w' => ∃ v', e = .returned v' ∧ LeasesIs w' w.heap.size v' L ∧ Quiet w w' := by
  have hp := fun W (hT : TabAt W bt b1 b2 v N L E) => picked_sorted W bt b1 b2 N v L E hT hN hs 32 #[] (fun _ => true) (enters_of Tryz.func32 (by kernel_rfl) rfl) (fun W l _ _ => all_fn W l)
  have HT := Aside1.mk h
  clear h
  go_enter Tryz.func11, Tryz.ntmps11
  go_wp2_with (go_at_call 31; refine (hp _ HT.out).mono ?_; rintro e w' ⟨v', rfl, hl, hq⟩)
  go_ret
  rw [List.filter_eq_self.2 (fun _ _ => rfl)] at hl
  exact ⟨v', rfl, hl, hq⟩
set_option maxRecDepth 100000 in
theorem tab_client (w : World) (bt b1 b2 N : Nat) (v : Value) (L : List Lease) (E : List End) (h : TabAt w bt b1 b2 v N L E) (hN : N ≤ 1000000000) (hs : Sorted L) (q : ByteArray) :
    Calls Tryz.prog 19 #[.pointer (some ⟨bt, 0, none⟩), .string q] w fun e w' => ∃ v', e = .returned v' ∧ LeasesIs w' w.heap.size v' (L.filter fun l => l.bound && decide (l.client = q)) ∧ Quiet w w' := by
  have hp := fun W (hT : TabAt W bt b1 b2 v N L E) (hc : W.cell? ⟨w.heap.size, 0, none⟩ = some (.string q)) => picked_sorted W bt b1 b2 N v L E hT hN hs 41 #[.pointer (some ⟨w.heap.size, 0, none⟩)] (fun l => l.bound && decide (l.client = q)) (enters_of Tryz.func41 (by kernel_rfl) rfl) (fun W' l _ hq => client_fn W' l w.heap.size q (hq.cell hc (fun h => h)))
  have HT := Aside1.mk (h.kept ((Kept.refl (fun _ => False) w).alloc (.cells #[.string q] 9)) (fun _ _ h => h))
  have hc : (w.alloc (.cells #[.string q] 9)).cell? ⟨w.heap.size, 0, none⟩ = some (.string q) := (cell_of (heap_alloc_new w _) 0).1
  clear h
  go_enter Tryz.func19, Tryz.ntmps19
  go_wp2_with (go_at_call 31; refine (hp _ HT.out hc).mono ?_; rintro e w' ⟨v', rfl, hl, hq⟩)
  go_ret
  exact ⟨v', rfl, hl.mono (by rw [World.size_alloc]; exact Nat.le_succ _), ((Kept.refl _ w).alloc _).andThen hq (fun _ _ h => h)⟩
set_option maxRecDepth 100000 in
theorem tab_meets (w : World) (bt b1 b2 N : Nat) (v : Value) (L : List Lease) (E : List End) (h : TabAt w bt b1 b2 v N L E) (hN : N ≤ 1000000000) (hs : Sorted L) (q : Key) :
    Calls Tryz.prog 28 #[.pointer (some ⟨bt, 0, none⟩), .int .i64 q.kind, .agg #[.int .u64 q.hi, .int .u64 q.lo, .int .i64 q.bits]] w fun e w' => ∃ v', e = .returned v' ∧ LeasesIs w' w.heap.size v' (L.filter fun l => meetsB q l.key) ∧ Quiet w w' := by
  have hp := fun W (hT : TabAt W bt b1 b2 v N L E) (hc : W.cell? ⟨w.heap.size, 0, none⟩ = some (.int .i64 q.kind)) (h0 : W.cell? ⟨w.heap.size + 1, 0, none⟩ = some (.int .u64 q.hi)) (h1 : W.cell? ⟨w.heap.size + 1, 1, none⟩ = some (.int .u64 q.lo)) (h2 : W.cell? ⟨w.heap.size + 1, 2, none⟩ = some (.int .i64 q.bits)) =>
    picked_sorted W bt b1 b2 N v L E hT hN hs 50 #[.pointer (some ⟨w.heap.size, 0, none⟩), .pointer (some ⟨w.heap.size + 1, 0, none⟩)] (fun l => meetsB q l.key) (enters_of Tryz.func50 (by kernel_rfl) rfl) (fun W' l _ hq => meets_fn W' l w.heap.size (w.heap.size + 1) q (hq.cell hc (fun h => h)) (hq.cell h0 (fun h => h)) (hq.cell h1 (fun h => h)) (hq.cell h2 (fun h => h)))
  obtain ⟨qk, qh, ql, qb⟩ := q
  have HT := Aside1.mk (h.kept (((Kept.refl (fun _ => False) w).alloc (.cells #[.int .i64 qk] 3)).alloc (.cells #[.int .u64 qh, .int .u64 ql, .int .i64 qb] 27)) (fun _ _ h => h))
  have hc : ((w.alloc (.cells #[.int .i64 qk] 3)).alloc (.cells #[.int .u64 qh, .int .u64 ql, .int .i64 qb] 27)).cell? ⟨w.heap.size, 0, none⟩ = some (.int .i64 qk) := keep_alloc (cell_of (heap_alloc_new w _) 0).1
  have hb := heap_alloc_new (w.alloc (.cells #[.int .i64 qk] 3)) (.cells #[.int .u64 qh, .int .u64 ql, .int .i64 qb] 27)
  rw [World.size_alloc] at hb
  have h0 := (cell_of hb 0).1
  have h1 := (cell_of hb 1).1
  have h2 := (cell_of hb 2).1
  simp only [List.getElem?_toArray, List.getElem?_cons_zero, List.getElem?_cons_succ] at h0 h1 h2
  clear h hb
  go_enter Tryz.func28, Tryz.ntmps28
  go_wp2_with (go_at_call 31; refine (hp _ HT.out hc h0 h1 h2).mono ?_; rintro e w' ⟨v', rfl, hl, hq⟩)
  go_ret
  exact ⟨v', rfl, hl.mono (by rw [World.size_alloc, World.size_alloc]; exact Nat.le_succ_of_le (Nat.le_succ _)), (((Kept.refl _ w).alloc _).alloc _).andThen hq (fun _ _ h => h)⟩
end Go.Proofs.YtmegbllhidkmoaaGreat.Tb

/- What a put does to the leases: the plain part. -/
namespace Go.Proofs.YtmegbllhidkmoaaGreat.Tb
open Go.RowKit Go.Maps
set_option linter.unusedVariables false
theorem Lease.owner_ok {l : Lease} (h : l.ok) : l.owner.ok := ⟨h.1.1, h.2.2.1, h.2.2.2.1⟩
def takenB (L : List Lease) (l : Lease) : Bool := (findO L l.owner).isSome && l.bound && decide ((findO L l.owner).getD zeroKey ≠ l.key)
def meetAny (L : List Lease) (l : Lease) : Bool := L.any fun x => meetsB l.key x.key && decide (x.key ≠ l.key)
def fullB (L : List Lease) (l : Lease) : Bool := (findL L l.key).isNone && decide (1024 ≤ L.length)
def putE (L : List Lease) (l : Lease) : Int := if takenB L l then 90 else if meetAny L l then 91 else if fullB L l then 63 else 0
def insertK (l : Lease) : List Lease → List Lease
  | [] => [l]
  | x :: L => if cmpK l.key x.key < 0 then l :: x :: L else x :: insertK l L
def putL (L : List Lease) (l : Lease) : List Lease := insertK l (without L l.key)

theorem insertK_perm (l : Lease) : ∀ X : List Lease, (insertK l X).Perm (l :: X)
  | [] => List.Perm.refl _
  | x :: X => by
    unfold insertK
    split
    · exact List.Perm.refl _
    · exact ((insertK_perm l X).cons x).trans (List.Perm.swap l x X)
theorem insertK_mem {l x : Lease} {X : List Lease} : x ∈ insertK l X ↔ x = l ∨ x ∈ X := by rw [(insertK_perm l X).mem_iff, List.mem_cons]
theorem insertK_sorted (l : Lease) : ∀ X : List Lease, Sorted X → (∀ x ∈ X, x.key ≠ l.key) → Sorted (insertK l X)
  | [], _, _ => List.pairwise_singleton _ _
  | x :: X, h, hn => by
    unfold Sorted at h ⊢
    unfold insertK
    rw [List.pairwise_cons] at h
    split
    · rename_i hc
      rw [List.pairwise_cons, List.pairwise_cons]
      exact ⟨fun y hy => (List.mem_cons.1 hy).elim (fun e => by rw [e]; exact hc) (fun hy => klt_trans hc (h.1 y hy)), h⟩
    · rename_i hc
      rw [List.pairwise_cons]
      refine ⟨fun y hy => ?_, insertK_sorted l X h.2 (fun y hy => hn y (List.mem_cons_of_mem _ hy))⟩
      rcases insertK_mem.1 hy with rfl | hy
      · refine Classical.byContradiction fun hc' => hn x List.mem_cons_self (klt_total hc' hc)
      · exact h.1 y hy
theorem without_sorted {L : List Lease} (h : Sorted L) (k : Key) : Sorted (without L k) := List.Pairwise.filter _ h
theorem mem_without {L : List Lease} {k : Key} {x : Lease} : x ∈ without L k ↔ x ∈ L ∧ x.key ≠ k := by unfold without; rw [List.mem_filter]; simp
theorem putL_sorted {L : List Lease} (h : Sorted L) (l : Lease) : Sorted (putL L l) := insertK_sorted l _ (without_sorted h _) (fun x hx => (mem_without.1 hx).2)
theorem mem_putL {L : List Lease} {l x : Lease} : x ∈ putL L l ↔ x = l ∨ x ∈ L ∧ x.key ≠ l.key := by unfold putL; rw [insertK_mem, mem_without]
theorem look_key {A : List (Owner × Key)} (hn : (A.map Prod.fst).Nodup) {o : Owner} {k : Key} (h : (o, k) ∈ A) : look A o = some k := look_mem hn h
/-- No other lease of this owner is left. -/
theorem untaken {w : World} {bt b1 b2 N : Nat} {v : Value} {L : List Lease} {E : List End} (h : TabAt w bt b1 b2 v N L E) {l : Lease} (ht : takenB L l = false) (hb : l.bound = true) : ∀ x ∈ without L l.key, x.bound = true → x.owner ≠ l.owner := by
  intro x hx hxb he
  obtain ⟨h1, h2⟩ := mem_without.1 hx
  have hin : (l.owner, x.key) ∈ ownersOf L := List.mem_map.2 ⟨x, List.mem_filter.2 ⟨h1, hxb⟩, by rw [he]⟩
  have hl : findO L l.owner = some x.key := look_key h.m2.nodup hin
  unfold takenB at ht
  rw [hl, hb] at ht
  simp at ht
  exact h2 ht
theorem uniq_putL {w : World} {bt b1 b2 N : Nat} {v : Value} {L : List Lease} {E : List End} (h : TabAt w bt b1 b2 v N L E) (hu : Uniq L) {l : Lease} (ht : takenB L l = false) : Uniq (putL L l) := by
  intro a ha b hb hab hbb ho
  rcases mem_putL.1 ha with rfl | ha'
  · rcases mem_putL.1 hb with rfl | hb'
    · rfl
    · exact absurd ho.symm (untaken h ht hab b (mem_without.2 hb') hbb)
  · rcases mem_putL.1 hb with rfl | hb'
    · exact absurd ho (untaken h ht hbb a (mem_without.2 ha') hab)
    · exact hu a ha'.1 b hb'.1 hab hbb ho
theorem uniq_without {L : List Lease} (hu : Uniq L) (k : Key) : Uniq (without L k) := fun a ha b hb => hu a (mem_without.1 ha).1 b (mem_without.1 hb).1
theorem put_leases {w : World} {b1 n : Nat} {L : List Lease} {l : Lease} (h : MapIs Tryz.prog 71 Key.val Key.ok Lease.val w b1 n (stored (leasesOf (without L l.key)) l.key l)) : LeaseMap w b1 n (putL L l) := by
  refine h.perm ?_
  have e : (leasesOf (without L l.key)).filter (fun p => p.1 ≠ l.key) = leasesOf (without L l.key) := by
    rw [List.filter_eq_self]
    intro p hp
    obtain ⟨x, hx, rfl⟩ := List.mem_map.1 hp
    simpa using (mem_without.1 hx).2
  unfold stored
  rw [e]
  exact ((insertK_perm l (without L l.key)).map fun l => (l.key, l)).symm
theorem put_owners {w w0 : World} {bt b1 b2 N n : Nat} {v : Value} {L : List Lease} {E : List End} (h0 : TabAt w0 bt b1 b2 v N L E) {l : Lease} (ht : takenB L l = false) (hb : l.bound = true) (h : MapIs Tryz.prog 74 Owner.val Owner.ok Key.val w b2 n (stored (ownersOf (without L l.key)) l.owner l.key)) : OwnerMap w b2 n (putL L l) := by
  refine h.perm ?_
  have e : (ownersOf (without L l.key)).filter (fun p => p.1 ≠ l.owner) = ownersOf (without L l.key) := by
    rw [List.filter_eq_self]
    intro p hp
    obtain ⟨x, hx, rfl⟩ := List.mem_map.1 hp
    obtain ⟨hx1, hx2⟩ := List.mem_filter.1 hx
    simpa using untaken h0 ht hb x hx1 hx2
  unfold stored
  rw [e]
  have := (((insertK_perm l (without L l.key)).filter Lease.bound).map fun l => (l.owner, l.key)).symm
  rw [List.filter_cons_of_pos hb] at this
  exact this
theorem put_idle {w : World} {b2 n : Nat} {L : List Lease} {l : Lease} (hb : l.bound = false) (h : OwnerMap w b2 n (without L l.key)) : OwnerMap w b2 n (putL L l) := by
  refine h.perm ?_
  have := (((insertK_perm l (without L l.key)).filter Lease.bound).map fun l => (l.owner, l.key)).symm
  rw [List.filter_cons_of_neg (by simp [hb])] at this
  exact this
theorem siftUp_len (E : List End) (j : Nat) : (siftUp E j).length = E.length := by
  induction j using Nat.strongRecOn generalizing E with
  | _ j ih =>
    rw [siftUp]
    split
    · rfl
    · split
      · rw [ih _ (by omega), swapE_len]
      · rfl
/-- The table behind a put's three stores. -/
theorem put_done {w w0 wX : World} {bt b1 b2 N : Nat} {v v' : Value} {L : List Lease} {E : List End} (h0 : TabAt w0 bt b1 b2 v N L E) {l : Lease} (hl : l.ok) (m1 : LeaseMap wX b1 (N + 1) (putL L l)) (m2 : OwnerMap wX b2 (N + 1) (putL L l))
    (hH : HeapAt w bt #[.map (some b1), .map (some b2), v] 60 v' (siftUp (E ++ [l.fin]) E.length)) (hnew : ∀ k, v'.ownBlock = some k → v.ownBlock = some k ∨ wX.heap.size ≤ k) (hk : Kept (fun k => k = bt ∨ v.ownBlock = some k) wX w) :
    TabAt w bt b1 b2 v' (N + 1) (putL L l) (siftUp (E ++ [l.fin]) E.length) := by
  refine ⟨?_, m1.block (hk.block b1 m1.lt ?_), m2.block (hk.block b2 m2.lt ?_), hH.ends, ?_, h0.n12, ?_, ?_, hH.ne, ?_⟩
  · have := hH.blk
    simpa using this
  · rintro (e | e)
    · exact h0.ne1 e.symm
    · exact h0.v1 e
  · rintro (e | e)
    · exact h0.ne2 e.symm
    · exact h0.v2 e
  · rw [siftUp_len, List.length_append]; have := h0.len; simp; omega
  · intro e
    rcases hnew b1 e with e | e
    · exact h0.v1 e
    · exact absurd m1.lt (by omega)
  · intro e
    rcases hnew b2 e with e | e
    · exact h0.v2 e
    · exact absurd m2.lt (by omega)
  · intro x hx
    rcases mem_putL.1 hx with rfl | hx
    · exact hl
    · exact h0.oks x hx.1
end Go.Proofs.YtmegbllhidkmoaaGreat.Tb

/- A table's put. -/
namespace Go.Proofs.YtmegbllhidkmoaaGreat.Tb
open Go.RowKit Go.Maps Go.Shelf Go.Proofs.YtmegbllhidkmoaaGreatW.PrintWords Go.Proofs.YtmegbllhidkmoaaGreatW.PrintLast Go.Proofs.YtmegbllhidkmoaaGreatW.PrintMore
set_option linter.unusedVariables false
theorem eqKey (d : Nat) (w : World) (a b c e a' b' c' e' : Int) :
    (Op.equalIn (d + 4) 71 (.agg #[.int .i64 a, .int .u64 b, .int .u64 c, .int .i64 e]) (.agg #[.int .i64 a', .int .u64 b', .int .u64 c', .int .i64 e'])).run Tryz.prog w = .ok (a == a' && ((b == b' && (c == c')) && (e == e'))) w := by
  refine eqA_of Tryz.underlying71 (by kernel_rfl) ?_
  refine eqf_cons (by rfl) (by go_simp; rfl) (by go_simp; rfl) (by go_simp) ?_
  exact eqf_last (by rfl) (by go_simp) (by go_simp) (eqA27 d w _ _ _ _ _ _)
attribute [local go_sem high] eqKey
theorem int_beq (x y : Int) : (x == y) = decide (x = y) := by rw [Bool.eq_iff_iff]; simp
theorem wrap_next {j : Nat} (h : j < 9223372036854775807) : Value.int .i64 (wrap64 ((j : Int) + 1)) = .int .i64 ((j + 1 : Nat) : Int) := by
  rw [wrap64_id (by omega) (by omega)]; rfl
theorem set_four {w : World} {b : Nat} {a0 a1 a2 a3 x0 x1 x2 x3 : Value} {t : TypeId} (h : w.heap[b]? = some (.cells #[a0, a1, a2, a3] t (0, 0))) :
    ((((w.setCell ⟨b, 0, none⟩ x0).setCell ⟨b, 1, none⟩ x1).setCell ⟨b, 2, none⟩ x2).setCell ⟨b, 3, none⟩ x3).heap[b]? = some (.cells #[x0, x1, x2, x3] t (0, 0)) :=
  heap_setCell_same _ b 3 #[x0, x1, x2, a3] t x3 (heap_setCell_same _ b 2 #[x0, x1, a2, a3] t x2 (heap_setCell_same _ b 1 #[x0, a1, a2, a3] t x1 (heap_setCell_same _ b 0 #[a0, a1, a2, a3] t x0 h)))
set_option maxHeartbeats 3200000 in
set_option maxRecDepth 100000 in
theorem tab_put (w : World) (bt b1 b2 N : Nat) (v : Value) (L : List Lease) (E : List End) (h : TabAt w bt b1 b2 v N L E) (hu : Uniq L) (hN : N < 1000000000) (hs : Sorted L) (l : Lease) (hl : l.ok) :
    Calls Tryz.prog 43 #[.pointer (some ⟨bt, 0, none⟩), l.val] w fun e w' => e = .returned (.int .i64 (putE L l)) ∧ Kept (Foot bt b1 b2 v) w w' ∧
      (putE L l = 0 → ∃ v', TabAt w' bt b1 b2 v' (N + 1) (putL L l) (siftUp (E ++ [l.fin]) E.length) ∧ ∀ k, v'.ownBlock = some k → v.ownBlock = some k ∨ w.heap.size ≤ k) := by
  have lt : bt < w.heap.size := (Array.getElem?_eq_some_iff.1 h.blk).1
  have HT := Aside1.mk h
  have HL := Aside1.mk hl
  have SkO : Aside1 (∀ w2, Quiet w w2 → (Instr.lookup 56 (.map (some b2)) l.owner.val true).run Tryz.prog w2 = .ok (.tuple #[((findO L l.owner).getD zeroKey).val, .bool (findO L l.owner).isSome]) w2) :=
    ⟨fun w2 hq => look_owner (h.kept hq (fun _ _ h => h)).m2 l.owner (Lease.owner_ok hl)⟩
  clear h hl
  have hkey := fun W => key_of W l
  have hown := fun W => owner_of W l
  obtain ⟨⟨lk, lh, ll, lb⟩, s, c, ia, ti⟩ := l
  obtain ⟨r, hr⟩ : ∃ r, (findO L (Lease.owner ⟨⟨lk, lh, ll, lb⟩, s, c, ia, ti⟩)).getD zeroKey = r := ⟨_, rfl⟩
  obtain ⟨f, hf⟩ : ∃ f, (findO L (Lease.owner ⟨⟨lk, lh, ll, lb⟩, s, c, ia, ti⟩)).isSome = f := ⟨_, rfl⟩
  rw [hr, hf] at SkO
  obtain ⟨ok, oh, ol, ob⟩ := r
  have HR := Aside1.mk hr
  have HF := Aside1.mk hf
  clear hr hf
  simp only [Lease.val, Key.val, Owner.val, Lease.owner] at SkO hkey hown ⊢
  go_enter Tryz.func43, Tryz.ntmps43
  go_upto_region 2 with (go_at_call 44; refine (hkey _).mono ?_; rintro e w1 ⟨rfl, hq1⟩)
  have lw : w.heap.size < w1.heap.size := by have := hq1.size; rw [World.size_alloc] at this; omega
  have HQ1 := Aside1.mk ((((Kept.refl (fun _ => False) w).alloc _).andThen hq1 (fun _ _ h => h)).alloc (.cells #[.int .i64 lk, .int .u64 lh, .int .u64 ll, .int .i64 lb] 71))
  have HB0 := Aside1.mk ((Below.heap_alloc w1 (.cells #[.int .i64 lk, .int .u64 lh, .int .u64 ll, .int .i64 lb] 71) w.heap.size lw).trans ((hq1.block w.heap.size (by rw [World.size_alloc]; omega) (fun h => h)).trans (heap_alloc_new w _)))
  have HB1 := Aside1.mk (heap_alloc_new w1 (.cells #[.int .i64 lk, .int .u64 lh, .int .u64 ll, .int .i64 lb] 71))
  generalize w1.heap.size = kx at *
  generalize w1.alloc (.cells #[.int .i64 lk, .int .u64 lh, .int .u64 ll, .int .i64 lb] 71) = W1 at *
  clear hq1
  go_cut [6, 7] (fun v6 v7 wc => ∃ hx : Nat, v6 = .pointer (some ⟨hx, 0, none⟩) ∧ v7 = .bool f ∧ Aside1 (wc.heap[hx]? = some (.cells #[.int .i64 ok, .int .u64 oh, .int .u64 ol, .int .i64 ob] 71 (0, 0))) ∧ Aside1 (Quiet W1 wc))
  case first =>
   have HS : Aside1 (∀ w', Quiet W1 w' → (w'.cell? ⟨bt, 1, none⟩ = some (.map (some b2)) ∧ w'.cell? ⟨w.heap.size, 0, none⟩ = some (.int .i64 lk) ∧ w'.cell? ⟨w.heap.size, 1, none⟩ = some (.int .u64 lh) ∧ w'.cell? ⟨w.heap.size, 2, none⟩ = some (.int .u64 ll) ∧ w'.cell? ⟨w.heap.size, 3, none⟩ = some (.int .i64 lb) ∧ w'.cell? ⟨w.heap.size, 4, none⟩ = some (.int .i64 s) ∧ w'.cell? ⟨w.heap.size, 5, none⟩ = some (.string c) ∧ w'.cell? ⟨w.heap.size, 6, none⟩ = some (.int .u32 ia) ∧ w'.cell? ⟨w.heap.size, 7, none⟩ = some (.int .i64 ti) ∧ (Instr.lookup 56 (.map (some b2)) (.agg #[.int .i64 lk, .string c, .int .u32 ia]) true).run Tryz.prog w' = .ok (.tuple #[.agg #[.int .i64 ok, .int .u64 oh, .int .u64 ol, .int .i64 ob], .bool f]) w')) := ⟨fun w' hq => ⟨hq.cell (cell_tab (HT.out.kept HQ1.out (fun _ _ h => h))).2.1 (fun h => h), hq.cell (cell_of HB0.out 0).1 (fun h => h), hq.cell (cell_of HB0.out 1).1 (fun h => h), hq.cell (cell_of HB0.out 2).1 (fun h => h), hq.cell (cell_of HB0.out 3).1 (fun h => h), hq.cell (cell_of HB0.out 4).1 (fun h => h), hq.cell (cell_of HB0.out 5).1 (fun h => h), hq.cell (cell_of HB0.out 6).1 (fun h => h), hq.cell (cell_of HB0.out 7).1 (fun h => h), SkO.out w' (HQ1.out.andThen hq (fun _ _ h => h))⟩⟩
   go_region_held3 (fun w' => w'.cell? ⟨bt, 1, none⟩ = some (.map (some b2)) ∧ w'.cell? ⟨w.heap.size, 0, none⟩ = some (.int .i64 lk) ∧ w'.cell? ⟨w.heap.size, 1, none⟩ = some (.int .u64 lh) ∧ w'.cell? ⟨w.heap.size, 2, none⟩ = some (.int .u64 ll) ∧ w'.cell? ⟨w.heap.size, 3, none⟩ = some (.int .i64 lb) ∧ w'.cell? ⟨w.heap.size, 4, none⟩ = some (.int .i64 s) ∧ w'.cell? ⟨w.heap.size, 5, none⟩ = some (.string c) ∧ w'.cell? ⟨w.heap.size, 6, none⟩ = some (.int .u32 ia) ∧ w'.cell? ⟨w.heap.size, 7, none⟩ = some (.int .i64 ti) ∧ (Instr.lookup 56 (.map (some b2)) (.agg #[.int .i64 lk, .string c, .int .u32 ia]) true).run Tryz.prog w' = .ok (.tuple #[.agg #[.int .i64 ok, .int .u64 oh, .int .u64 ol, .int .i64 ob], .bool f]) w') ((refine HS.out _ ?_; (repeat (first | exact Kept.refl _ _ | assumption | apply Kept.drew | apply Kept.drewN | apply Kept.alloc | refine Kept.setCell ?_ (fun hlt => absurd hlt (Nat.lt_irrefl _)) _ | refine Kept.andThen ?_ (by assumption) (fun _ _ h => h))))) (first | (go_at_call 60; refine (hown _).mono ?_; rintro e w2 ⟨rfl, hq2⟩; (try (have hz := (hq2.block _ (Array.getElem?_eq_some_iff.1 (heap_alloc_new _ (.cells #[.int .i64 0, .int .u64 0, .int .u64 0, .int .i64 0] 71))).1 (fun h => h)).trans (heap_alloc_new _ _); have z0 := (cell_of hz 0).1; have z1 := (cell_of hz 1).1; have z2 := (cell_of hz 2).1; have z3 := (cell_of hz 3).1; have g0 := (cell_of hz 0).2; have g1 := (cell_of hz 1).2; have g2 := (cell_of hz 2).2; have g3 := (cell_of hz 3).2; simp only [List.getElem?_toArray, List.getElem?_cons_zero, List.getElem?_cons_succ] at z0 z1 z2 z3))))
   all_goals go_wp2_with fail
   all_goals go_meet
   all_goals (refine ⟨_, rfl, rfl, ⟨?_⟩, ⟨?_⟩⟩; (first | with_reducible exact heap_alloc_new _ _ | with_reducible exact set_four hz); (repeat (first | exact Kept.refl _ _ | assumption | apply Kept.drew | apply Kept.drewN | apply Kept.alloc | refine Kept.setCell ?_ (fun hlt => absurd hlt (Nat.lt_irrefl _)) _ | refine Kept.andThen ?_ (by assumption) (fun _ _ h => h))))
  case rest =>
   obtain ⟨hx, rfl, rfl, HBx, HQx⟩ := hcut
   have lkx := (Array.getElem?_eq_some_iff.1 HB1.out).1
   have l0x := (Array.getElem?_eq_some_iff.1 HB0.out).1
   replace HB0 := Aside1.mk ((HQx.out.block _ l0x (fun h => h)).trans HB0.out)
   replace HB1 := Aside1.mk ((HQx.out.block _ lkx (fun h => h)).trans HB1.out)
   replace HQ1 := Aside1.mk (HQ1.out.andThen HQx.out (fun _ _ h => h))
   clear HQx l0x lkx
   go_upto_region 3 with fail
   go_cut [1, 7, 34] (fun v1 v7 v34 wd => v34 = .bool (f && decide (s = 1) && decide ((⟨ok, oh, ol, ob⟩ : Key) ≠ ⟨lk, lh, ll, lb⟩)) ∧ wd = wc)
   case first =>
    have y0 := (cell_of HBx.out 0).1
    have y1 := (cell_of HBx.out 1).1
    have y2 := (cell_of HBx.out 2).1
    have y3 := (cell_of HBx.out 3).1
    have x0 := (cell_of HB1.out 0).1
    have x1 := (cell_of HB1.out 1).1
    have x2 := (cell_of HB1.out 2).1
    have x3 := (cell_of HB1.out 3).1
    have x4 := (cell_of HB0.out 4).1
    simp only [List.getElem?_toArray, List.getElem?_cons_zero, List.getElem?_cons_succ] at y0 y1 y2 y3 x0 x1 x2 x3 x4
    go_wp2_with fail
    all_goals go_meet
    all_goals exact ⟨by simp [*, int_beq, Bool.or_assoc], rfl⟩
   case rest =>
    obtain ⟨rfl, rfl⟩ := hcut
    generalize hT : (f && decide (s = 1) && decide ((⟨ok, oh, ol, ob⟩ : Key) ≠ ⟨lk, lh, ll, lb⟩)) = T
    have HTK := Aside1.mk (show takenB L ⟨⟨lk, lh, ll, lb⟩, s, c, ia, ti⟩ = T by rw [← hT, ← HF.out, ← HR.out]; unfold takenB Lease.bound; simp [Bool.beq_eq_decide_eq])
    clear hT HF HR HBx
    have x0 := (cell_of HB0.out 0).1
    have x1 := (cell_of HB0.out 1).1
    have x2 := (cell_of HB0.out 2).1
    have x3 := (cell_of HB0.out 3).1
    simp only [List.getElem?_toArray, List.getElem?_cons_zero, List.getElem?_cons_succ] at x0 x1 x2 x3
    have HT1 := Aside1.mk (HT.out.kept HQ1.out (fun _ _ h => h))
    have hmeet := tab_meets wc bt b1 b2 N v L E HT1.out (Nat.le_of_lt hN) hs ⟨lk, lh, ll, lb⟩
    simp only at hmeet
    cases T with
    | true =>
      go_wp2_with fail
      go_ret
      have he : putE L ⟨⟨lk, lh, ll, lb⟩, s, c, ia, ti⟩ = 90 := by unfold putE; rw [HTK.out]; rfl
      rw [he]
      exact ⟨rfl, HQ1.out.mono (fun _ h => h.elim), fun h => by cases h⟩
    | false =>
      obtain ⟨M, HMd⟩ : ∃ M, M = L.filter fun x => meetsB ⟨lk, lh, ll, lb⟩ x.key := ⟨_, rfl⟩
      rw [← HMd] at hmeet
      replace HMd := Aside1.mk HMd
      go_wp2_with (go_at_call 28; refine hmeet.mono ?_; rintro e wM ⟨vM, rfl, hM, hqM⟩; obtain ⟨pM, cM, hv⟩ := leases_shape hM; subst hv; have HM := Aside1.mk hM; have HQM := Aside1.mk hqM; clear hM hqM)
      go_loopw [42] (fun v42 wr => ∃ j : Nat, v42 = .int .i64 j ∧ j ≤ M.length ∧ Aside1 (∀ x ∈ M.take j, x.key = ⟨lk, lh, ll, lb⟩) ∧ Aside1 (Quiet wM wr)) (fun v42 _ => M.length - (RowKit.intOf v42).toNat)
      case atStart => exact ⟨0, rfl, Nat.zero_le _, ⟨fun x hx => by simp at hx⟩, ⟨Kept.refl _ _⟩⟩
      case round =>
        obtain ⟨j, rfl, hj, HJ, HQr⟩ := hrel
        by_cases hlt : j < M.length
        · have hi : (j : Int) < (M.length : Int) := by omega
          obtain ⟨g, cap, hv, hn, hm, hcell⟩ := leases_cell (HM.out.old HQr.out (fun _ _ h => h)) j hlt
          simp only [Value.slice.injEq] at hv
          obtain ⟨rfl, _, rfl⟩ := hv
          obtain ⟨⟨⟨mk, mh, ml, mb⟩, ms, mc, mi, mt⟩, HMj⟩ : ∃ x, Aside1 (M[j] = x) := ⟨_, ⟨rfl⟩⟩
          rw [HMj.out] at hcell
          have a0 := (hcell 0 (by omega)).1
          have a1 := (hcell 1 (by omega)).1
          have a2 := (hcell 2 (by omega)).1
          have a3 := (hcell 3 (by omega)).1
          have a4 := (hcell 4 (by omega)).1
          have a5 := (hcell 5 (by omega)).1
          have a6 := (hcell 6 (by omega)).1
          have a7 := (hcell 7 (by omega)).1
          simp only [Lease.cells, List.getElem?_cons_zero, List.getElem?_cons_succ, Nat.add_zero] at a0 a1 a2 a3 a4 a5 a6 a7
          clear hcell
          have hkM := fun W => key_of W ⟨⟨mk, mh, ml, mb⟩, ms, mc, mi, mt⟩
          simp only [Lease.val, Key.val] at hkM
          go_upto_region 8 with fail
          have HQ2M := Aside1.mk (HQr.out.alloc (.cells #[.int .i64 mk, .int .u64 mh, .int .u64 ml, .int .i64 mb, .int .i64 ms, .string mc, .int .u32 mi, .int .i64 mt] 30))
          have HQ2 := Aside1.mk (HQM.out.andThen HQ2M.out (fun _ _ h => h))
          have HBb := Aside1.mk (heap_alloc_new wr (.cells #[.int .i64 mk, .int .u64 mh, .int .u64 ml, .int .i64 mb, .int .i64 ms, .string mc, .int .u32 mi, .int .i64 mt] 30))
          have HBk := Aside1.mk ((HQ2.out.block kx (Array.getElem?_eq_some_iff.1 HB1.out).1 (fun h => h)).trans HB1.out)
          clear a0 a1 a2 a3 a4 a5 a6 a7
          generalize wr.heap.size = bx at *
          generalize wr.alloc (.cells #[.int .i64 mk, .int .u64 mh, .int .u64 ml, .int .i64 mb, .int .i64 ms, .string mc, .int .u32 mi, .int .i64 mt] 30) = W2 at *
          have HS : Aside1 (∀ w', Quiet W2 w' → (w'.cell? ⟨bx, 0, none⟩ = some (.int .i64 mk) ∧ w'.cell? ⟨bx, 1, none⟩ = some (.int .u64 mh) ∧ w'.cell? ⟨bx, 2, none⟩ = some (.int .u64 ml) ∧ w'.cell? ⟨bx, 3, none⟩ = some (.int .i64 mb) ∧ w'.cell? ⟨bx, 4, none⟩ = some (.int .i64 ms) ∧ w'.cell? ⟨bx, 5, none⟩ = some (.string mc) ∧ w'.cell? ⟨bx, 6, none⟩ = some (.int .u32 mi) ∧ w'.cell? ⟨bx, 7, none⟩ = some (.int .i64 mt) ∧ w'.cell? ⟨kx, 0, none⟩ = some (.int .i64 lk) ∧ w'.cell? ⟨kx, 1, none⟩ = some (.int .u64 lh) ∧ w'.cell? ⟨kx, 2, none⟩ = some (.int .u64 ll) ∧ w'.cell? ⟨kx, 3, none⟩ = some (.int .i64 lb))) := ⟨fun w' hq => ⟨hq.cell (cell_of HBb.out 0).1 (fun h => h), hq.cell (cell_of HBb.out 1).1 (fun h => h), hq.cell (cell_of HBb.out 2).1 (fun h => h), hq.cell (cell_of HBb.out 3).1 (fun h => h), hq.cell (cell_of HBb.out 4).1 (fun h => h), hq.cell (cell_of HBb.out 5).1 (fun h => h), hq.cell (cell_of HBb.out 6).1 (fun h => h), hq.cell (cell_of HBb.out 7).1 (fun h => h), hq.cell (cell_of HBk.out 0).1 (fun h => h), hq.cell (cell_of HBk.out 1).1 (fun h => h), hq.cell (cell_of HBk.out 2).1 (fun h => h), hq.cell (cell_of HBk.out 3).1 (fun h => h)⟩⟩
          by_cases hke : (⟨mk, mh, ml, mb⟩ : Key) = ⟨lk, lh, ll, lb⟩
          · have HJ2 : Aside1 (∀ x ∈ M.take (j + 1), x.key = ⟨lk, lh, ll, lb⟩) := ⟨fun x hx => by
              rw [List.take_succ_eq_append_getElem hlt, List.mem_append, List.mem_singleton] at hx
              rcases hx with hx | rfl
              · exact HJ.out x hx
              · rw [HMj.out]; exact hke⟩
            simp only [Key.mk.injEq] at hke
            obtain ⟨e1, e2, e3, e4⟩ := hke
            subst e1 e2 e3 e4
            go_region_held3 (fun w' => w'.cell? ⟨bx, 0, none⟩ = some (.int .i64 mk) ∧ w'.cell? ⟨bx, 1, none⟩ = some (.int .u64 mh) ∧ w'.cell? ⟨bx, 2, none⟩ = some (.int .u64 ml) ∧ w'.cell? ⟨bx, 3, none⟩ = some (.int .i64 mb) ∧ w'.cell? ⟨bx, 4, none⟩ = some (.int .i64 ms) ∧ w'.cell? ⟨bx, 5, none⟩ = some (.string mc) ∧ w'.cell? ⟨bx, 6, none⟩ = some (.int .u32 mi) ∧ w'.cell? ⟨bx, 7, none⟩ = some (.int .i64 mt) ∧ w'.cell? ⟨kx, 0, none⟩ = some (.int .i64 mk) ∧ w'.cell? ⟨kx, 1, none⟩ = some (.int .u64 mh) ∧ w'.cell? ⟨kx, 2, none⟩ = some (.int .u64 ml) ∧ w'.cell? ⟨kx, 3, none⟩ = some (.int .i64 mb)) ((refine HS.out _ ?_; (repeat (first | exact Kept.refl _ _ | assumption | apply Kept.drew | apply Kept.drewN | apply Kept.alloc | refine Kept.setCell ?_ (fun hlt => absurd hlt (Nat.lt_irrefl _)) _ | refine Kept.andThen ?_ (by assumption) (fun _ _ h => h))))) (first | (go_at_call 44; refine (hkM _).mono ?_; rintro e w3 ⟨rfl, hq3⟩))
            all_goals go_wp2_with fail
            rw [wrap_next (by unfold maxLen at hm; omega)]
            exact ⟨⟨j + 1, rfl, hlt, HJ2, ⟨HQ2M.out.drew.andThen hq3 (fun _ _ h => h)⟩⟩, by simp [RowKit.intOf]; omega⟩
          · have hno : meetAny L ⟨⟨lk, lh, ll, lb⟩, s, c, ia, ti⟩ = true := by
              have hin : M[j] ∈ M := List.getElem_mem hlt
              rw [HMj.out, HMd.out, List.mem_filter] at hin
              unfold meetAny
              rw [List.any_eq_true]
              exact ⟨_, hin.1, by rw [Bool.and_eq_true]; exact ⟨hin.2, decide_eq_true hke⟩⟩
            have he : putE L ⟨⟨lk, lh, ll, lb⟩, s, c, ia, ti⟩ = 91 := by unfold putE; rw [HTK.out, hno]; rfl
            have HE := Aside1.mk he
            clear hno he
            simp only [Key.mk.injEq] at hke
            go_region_held3 (fun w' => w'.cell? ⟨bx, 0, none⟩ = some (.int .i64 mk) ∧ w'.cell? ⟨bx, 1, none⟩ = some (.int .u64 mh) ∧ w'.cell? ⟨bx, 2, none⟩ = some (.int .u64 ml) ∧ w'.cell? ⟨bx, 3, none⟩ = some (.int .i64 mb) ∧ w'.cell? ⟨bx, 4, none⟩ = some (.int .i64 ms) ∧ w'.cell? ⟨bx, 5, none⟩ = some (.string mc) ∧ w'.cell? ⟨bx, 6, none⟩ = some (.int .u32 mi) ∧ w'.cell? ⟨bx, 7, none⟩ = some (.int .i64 mt) ∧ w'.cell? ⟨kx, 0, none⟩ = some (.int .i64 lk) ∧ w'.cell? ⟨kx, 1, none⟩ = some (.int .u64 lh) ∧ w'.cell? ⟨kx, 2, none⟩ = some (.int .u64 ll) ∧ w'.cell? ⟨kx, 3, none⟩ = some (.int .i64 lb)) ((refine HS.out _ ?_; (repeat (first | exact Kept.refl _ _ | assumption | apply Kept.drew | apply Kept.drewN | apply Kept.alloc | refine Kept.setCell ?_ (fun hlt => absurd hlt (Nat.lt_irrefl _)) _ | refine Kept.andThen ?_ (by assumption) (fun _ _ h => h))))) (first | (go_at_call 44; refine (hkM _).mono ?_; rintro e w3 ⟨rfl, hq3⟩))
            all_goals go_wp2_with fail
            · go_ret
              rw [HE.out]
              exact ⟨rfl, ((HQ1.out.andThen HQ2.out (fun _ _ h => h)).drew.andThen hq3 (fun _ _ h => h)).mono (fun _ h => h.elim), fun h => by cases h⟩
            · rename_i hcon
              exact absurd (by simpa [and_assoc] using hcon) hke
        · have hje : ¬ (j : Int) < (M.length : Int) := by omega
          obtain rfl : j = M.length := by omega
          have hno : meetAny L ⟨⟨lk, lh, ll, lb⟩, s, c, ia, ti⟩ = false := by
            unfold meetAny
            rw [List.any_eq_false]
            intro x hx hb
            rw [Bool.and_eq_true] at hb
            have h1 : x ∈ M := by rw [HMd.out, List.mem_filter]; exact ⟨hx, hb.1⟩
            have h2 := HJ.out x (by rw [List.take_length]; exact h1)
            simp [h2] at hb
          have HNO := Aside1.mk hno
          have HQW := Aside1.mk ((HQ1.out.andThen HQM.out (fun _ _ h => h)).andThen HQr.out (fun _ _ h => h))
          have HBk := Aside1.mk (((HQM.out.andThen HQr.out (fun _ _ h => h)).block kx (Array.getElem?_eq_some_iff.1 HB1.out).1 (fun h => h)).trans HB1.out)
          have HBl := Aside1.mk (((HQM.out.andThen HQr.out (fun _ _ h => h)).block w.heap.size (Array.getElem?_eq_some_iff.1 HB0.out).1 (fun h => h)).trans HB0.out)
          have HTr := Aside1.mk (HT.out.kept HQW.out (fun _ _ h => h))
          clear hno HJ HQr HQM HM HMd HT1 HQ1 HB0 HB1 hmeet x0 x1 x2 x3
          obtain ⟨r, hr⟩ : ∃ r, (findL L ⟨lk, lh, ll, lb⟩).getD zeroLease = r := ⟨_, rfl⟩
          obtain ⟨fok, hf⟩ : ∃ f, (findL L ⟨lk, lh, ll, lb⟩).isSome = f := ⟨_, rfl⟩
          have SkL : Aside1 (∀ w2, Quiet wr w2 → (Instr.lookup 55 (.map (some b1)) (Key.val ⟨lk, lh, ll, lb⟩) true).run Tryz.prog w2 = .ok (.tuple #[r.val, .bool fok]) w2) :=
            ⟨fun w2 hq => by rw [← hr, ← hf]; exact look_lease (HTr.out.kept hq (fun _ _ h => h)).m1 _ HL.out.1⟩
          obtain ⟨⟨fk, fh, fl, fb⟩, fs, fc, fi, ft⟩ := r
          have HFok := Aside1.mk hf
          clear hr hf
          simp only [Lease.val, Key.val] at SkL
          have HS : Aside1 (∀ w', Quiet wr w' → (w'.cell? ⟨bt, 0, none⟩ = some (.map (some b1)) ∧ w'.cell? ⟨kx, 0, none⟩ = some (.int .i64 lk) ∧ w'.cell? ⟨kx, 1, none⟩ = some (.int .u64 lh) ∧ w'.cell? ⟨kx, 2, none⟩ = some (.int .u64 ll) ∧ w'.cell? ⟨kx, 3, none⟩ = some (.int .i64 lb) ∧ (Instr.lookup 55 (.map (some b1)) (.agg #[.int .i64 lk, .int .u64 lh, .int .u64 ll, .int .i64 lb]) true).run Tryz.prog w' = .ok (.tuple #[.agg #[.int .i64 fk, .int .u64 fh, .int .u64 fl, .int .i64 fb, .int .i64 fs, .string fc, .int .u32 fi, .int .i64 ft], .bool fok]) w')) := ⟨fun w' hq => ⟨hq.cell (cell_tab HTr.out).1 (fun h => h), hq.cell (cell_of HBk.out 0).1 (fun h => h), hq.cell (cell_of HBk.out 1).1 (fun h => h), hq.cell (cell_of HBk.out 2).1 (fun h => h), hq.cell (cell_of HBk.out 3).1 (fun h => h), SkL.out w' hq⟩⟩
          go_upto_region 11 with fail
          go_cut [10, 11] (fun v10 v11 wz => v11 = .bool fok ∧ Aside1 (Quiet wr wz))
          case first =>
            go_region_held3 (fun w' => w'.cell? ⟨bt, 0, none⟩ = some (.map (some b1)) ∧ w'.cell? ⟨kx, 0, none⟩ = some (.int .i64 lk) ∧ w'.cell? ⟨kx, 1, none⟩ = some (.int .u64 lh) ∧ w'.cell? ⟨kx, 2, none⟩ = some (.int .u64 ll) ∧ w'.cell? ⟨kx, 3, none⟩ = some (.int .i64 lb) ∧ (Instr.lookup 55 (.map (some b1)) (.agg #[.int .i64 lk, .int .u64 lh, .int .u64 ll, .int .i64 lb]) true).run Tryz.prog w' = .ok (.tuple #[.agg #[.int .i64 fk, .int .u64 fh, .int .u64 fl, .int .i64 fb, .int .i64 fs, .string fc, .int .u32 fi, .int .i64 ft], .bool fok]) w') ((refine HS.out _ ?_; (repeat (first | exact Kept.refl _ _ | assumption | apply Kept.drew | apply Kept.drewN | apply Kept.alloc | refine Kept.setCell ?_ (fun hlt => absurd hlt (Nat.lt_irrefl _)) _ | refine Kept.andThen ?_ (by assumption) (fun _ _ h => h))))) (fail)
            all_goals go_wp2_with fail
            all_goals go_meet
            all_goals exact ⟨rfl, ⟨by (repeat (first | exact Kept.refl _ _ | assumption | apply Kept.drew | apply Kept.drewN | apply Kept.alloc | refine Kept.setCell ?_ (fun hlt => absurd hlt (Nat.lt_irrefl _)) _ | refine Kept.andThen ?_ (by assumption) (fun _ _ h => h)))⟩⟩
          case rest =>
            obtain ⟨rfl, HQz⟩ := hcut
            have HTz := Aside1.mk (HTr.out.kept HQz.out (fun _ _ h => h))
            replace HBk := Aside1.mk ((HQz.out.block kx (Array.getElem?_eq_some_iff.1 HBk.out).1 (fun h => h)).trans HBk.out)
            replace HBl := Aside1.mk ((HQz.out.block w.heap.size (Array.getElem?_eq_some_iff.1 HBl.out).1 (fun h => h)).trans HBl.out)
            replace HQW := Aside1.mk (HQW.out.andThen HQz.out (fun _ _ h => h))
            clear HS SkL HTr HQz
            have c0 := (cell_tab HTz.out).1
            have hlen := fun ty => HTz.out.m1.len Tryz.underlying55 ty
            rw [show (leasesOf L).length = L.length from List.length_map ..] at hlen
            go_upto_region 12 with fail
            go_cut [11, 69] (fun v11 v69 wd => v69 = .bool (!fok && decide (1024 ≤ L.length)) ∧ wd = wc)
            case first =>
              cases fok with
              | true =>
                go_wp2_with fail
                all_goals go_meet
                all_goals exact ⟨by simp [*], rfl⟩
              | false =>
                go_wp2_with fail
                all_goals go_meet
                all_goals exact ⟨by simp [*]; omega, rfl⟩
            case rest =>
              obtain ⟨rfl, rfl⟩ := hcut
              generalize hF2 : (!fok && decide (1024 ≤ L.length)) = F2
              have HFu := Aside1.mk (show fullB L ⟨⟨lk, lh, ll, lb⟩, s, c, ia, ti⟩ = F2 by rw [← hF2, ← HFok.out]; unfold fullB; rw [Option.not_isSome])
              clear hF2 HFok hlen
              have k0 := (cell_of HBk.out 0).1
              have k1 := (cell_of HBk.out 1).1
              have k2 := (cell_of HBk.out 2).1
              have k3 := (cell_of HBk.out 3).1
              simp only [List.getElem?_toArray, List.getElem?_cons_zero, List.getElem?_cons_succ] at k0 k1 k2 k3
              cases F2 with
              | true =>
                have he : putE L ⟨⟨lk, lh, ll, lb⟩, s, c, ia, ti⟩ = 63 := by unfold putE; rw [HTK.out, HNO.out, HFu.out]; rfl
                have HE := Aside1.mk he
                clear he
                go_wp2_with fail
                go_ret
                rw [HE.out]
                exact ⟨rfl, HQW.out.mono (fun _ h => h.elim), fun h => by cases h⟩
              | false =>
                have he : putE L ⟨⟨lk, lh, ll, lb⟩, s, c, ia, ti⟩ = 0 := by unfold putE; rw [HTK.out, HNO.out, HFu.out]; rfl
                have HE := Aside1.mk he
                clear he
                have hdropk := tab_drop _ bt b1 b2 N v L E HTz.out hu ⟨lk, lh, ll, lb⟩ HL.out.1
                simp only [Key.val] at hdropk
                have lb1 := HT.out.m1.lt
                have lb2 := HT.out.m2.lt
                have hkept : ∀ i, w.heap.size ≤ i → ¬ (i = b1 ∨ i = b2) := fun i hi h => by omega
                go_upto_region 15 with (go_at_call 45; refine hdropk.mono ?_; rintro e wD ⟨rfl, hTD, hkD⟩)
                clear hdropk c0 k0 k1 k2 k3
                replace HBk := Aside1.mk ((hkD.block kx (Array.getElem?_eq_some_iff.1 HBk.out).1 (hkept kx (Nat.le_of_lt lw))).trans HBk.out)
                replace HBl := Aside1.mk ((hkD.block w.heap.size (Array.getElem?_eq_some_iff.1 HBl.out).1 (hkept _ (Nat.le_refl _))).trans HBl.out)
                have HQD := Aside1.mk ((HQW.out.mono (S' := fun i => i = b1 ∨ i = b2) (fun _ h => h.elim)).andThen hkD (fun _ _ h => h))
                have HTD := Aside1.mk hTD
                clear hTD hkD HQW
                have c0 := (cell_tab HTD.out).1
                have k0 := (cell_of HBk.out 0).1
                have k1 := (cell_of HBk.out 1).1
                have k2 := (cell_of HBk.out 2).1
                have k3 := (cell_of HBk.out 3).1
                have x0 := (cell_of HBl.out 0).1
                have x1 := (cell_of HBl.out 1).1
                have x2 := (cell_of HBl.out 2).1
                have x3 := (cell_of HBl.out 3).1
                have x4 := (cell_of HBl.out 4).1
                have x5 := (cell_of HBl.out 5).1
                have x6 := (cell_of HBl.out 6).1
                have x7 := (cell_of HBl.out 7).1
                simp only [List.getElem?_toArray, List.getElem?_cons_zero, List.getElem?_cons_succ] at k0 k1 k2 k3 x0 x1 x2 x3 x4 x5 x6 x7
                obtain ⟨wS, hrun, hmS, hturn⟩ := (HTD.out.m1.block (w' := wD.drew) rfl).store encKey Tryz.underlying55 (by unfold maxLen; omega) HL.out.1 ⟨⟨lk, lh, ll, lb⟩, s, c, ia, ti⟩
                simp only [Key.val, Lease.val] at hrun
                have HMS := Aside1.mk (put_leases (l := ⟨⟨lk, lh, ll, lb⟩, s, c, ia, ti⟩) hmS)
                have hkS : Kept (fun i => i = b1) wD wS := (Kept.refl (fun i => i = b1) wD).drew.andThen (Kept.grown (S := fun i => i = b1) hturn.grown (fun k hk => (Option.some.inj hk).symm)) (fun _ _ h => h)
                have HKS := Aside1.mk hkS
                clear hmS hturn hkS
                go_wp2_with fail
                go_region
                go_upto_region 16 with fail
                have HTi := Aside1.mk (show TabAt wD bt b1 b2 v N (without L ⟨lk, lh, ll, lb⟩) E from HTD.out)
                have nb1 : ∀ i, w.heap.size ≤ i → i ≠ b1 := fun i hi => by omega
                replace HBk := Aside1.mk ((HKS.out.block kx (Array.getElem?_eq_some_iff.1 HBk.out).1 (nb1 kx (Nat.le_of_lt lw))).trans HBk.out)
                replace HBl := Aside1.mk ((HKS.out.block w.heap.size (Array.getElem?_eq_some_iff.1 HBl.out).1 (nb1 _ (Nat.le_refl _))).trans HBl.out)
                have HB2 := Aside1.mk (HTD.out.m2.block (HKS.out.block b2 HTD.out.m2.lt (fun e => HTD.out.n12 e.symm)))
                have c1 : wS.cell? ⟨bt, 1, none⟩ = some (.map (some b2)) := HKS.out.cell (cell_tab HTD.out).2.1 HTD.out.ne1
                have hHS : HeapAt wS bt #[.map (some b1), .map (some b2), v] 60 v E := by
                  refine ⟨(HKS.out.block bt (Array.getElem?_eq_some_iff.1 HTD.out.blk).1 HTD.out.ne1).trans HTD.out.blk, by simp, HTD.out.ends.kept fun i hi => HKS.out.block i ?_ (fun e => HTD.out.v1 (by rw [hi, e])), HTD.out.vt⟩
                  obtain ⟨_, h2⟩ := HTD.out.ends
                  rcases h2 with ⟨rfl, _⟩ | ⟨g, cap, cur, rfl, _, hh, _⟩
                  · cases hi
                  · obtain rfl : g = i := Option.some.inj hi
                    exact (Array.getElem?_eq_some_iff.1 hh).1
                have HHS := Aside1.mk hHS
                have HKW := Aside1.mk (HQD.out.andThen HKS.out (fun _ _ h => Or.inl h))
                clear hHS c0 hrun k0 k1 k2 k3 x0 x1 x2 x3 x4 x5 x6 x7 HKS
                have k0 := (cell_of HBk.out 0).1
                have k1 := (cell_of HBk.out 1).1
                have k2 := (cell_of HBk.out 2).1
                have k3 := (cell_of HBk.out 3).1
                have x0 := (cell_of HBl.out 0).1
                have x1 := (cell_of HBl.out 1).1
                have x2 := (cell_of HBl.out 2).1
                have x3 := (cell_of HBl.out 3).1
                have x4 := (cell_of HBl.out 4).1
                have x5 := (cell_of HBl.out 5).1
                have x6 := (cell_of HBl.out 6).1
                have x7 := (cell_of HBl.out 7).1
                simp only [List.getElem?_toArray, List.getElem?_cons_zero, List.getElem?_cons_succ] at k0 k1 k2 k3 x0 x1 x2 x3 x4 x5 x6 x7
                by_cases hs1 : s = 1
                · subst hs1
                  have HBB := Aside1.mk (show Lease.bound ⟨⟨lk, lh, ll, lb⟩, 1, c, ia, ti⟩ = true from rfl)
                  go_upto_region 17 with fail
                  go_cut [1] (fun v1 wX => Aside1 (OwnerMap wX b2 (N + 1) (putL L ⟨⟨lk, lh, ll, lb⟩, 1, c, ia, ti⟩)) ∧ Aside1 (Kept (fun i => i = b2) wS wX))
                  case first =>
                    go_region_with (first | (go_at_call 60; refine (hown _).mono ?_; rintro e w4 ⟨rfl, hq4⟩; have c1' : w4.cell? ⟨bt, 1, none⟩ = some (.map (some b2)) := hq4.cell c1 (fun h => h); have k0' : w4.cell? ⟨kx, 0, none⟩ = some (.int .i64 lk) := hq4.cell k0 (fun h => h); have k1' : w4.cell? ⟨kx, 1, none⟩ = some (.int .u64 lh) := hq4.cell k1 (fun h => h); have k2' : w4.cell? ⟨kx, 2, none⟩ = some (.int .u64 ll) := hq4.cell k2 (fun h => h); have k3' : w4.cell? ⟨kx, 3, none⟩ = some (.int .i64 lb) := hq4.cell k3 (fun h => h); obtain ⟨wO, hrunO, hmO, hturnO⟩ := (HB2.out.block (w' := w4) (hq4.block b2 HB2.out.lt (fun h => h))).store encOwner Tryz.underlying56 (by unfold maxLen; omega) (Lease.owner_ok HL.out) ⟨lk, lh, ll, lb⟩; have HMO := Aside1.mk hmO; have HTU := Aside1.mk hturnO; have HQ4 := Aside1.mk hq4; simp only [Key.val, Owner.val, Lease.owner] at hrunO; clear hmO hturnO hq4))
                    all_goals go_wp2_with fail
                    all_goals go_meet
                    all_goals exact ⟨⟨put_owners (l := ⟨⟨lk, lh, ll, lb⟩, 1, c, ia, ti⟩) HT.out HTK.out HBB.out HMO.out⟩, ⟨(((Kept.refl (fun i => i = b2) wS).drew).andThen HQ4.out (fun _ _ h => h.elim)).andThen (Kept.grown (S := fun i => i = b2) HTU.out.grown (fun k hk => (Option.some.inj hk).symm)) (fun _ _ h => h)⟩⟩
                  case rest =>
                    obtain ⟨HOX, HKX⟩ := hcut
                    have nb2 : ∀ i, w.heap.size ≤ i → i ≠ b2 := fun i hi => by omega
                    have hHX : HeapAt wc bt #[.map (some b1), .map (some b2), v] 60 v E := by
                      refine ⟨(HKX.out.block bt (Array.getElem?_eq_some_iff.1 HHS.out.blk).1 HT.out.ne2).trans HHS.out.blk, by simp, HHS.out.ends.kept fun i hi => HKX.out.block i ?_ (fun e => HT.out.v2 (by rw [hi, e])), HT.out.vt⟩
                      obtain ⟨_, h2⟩ := HHS.out.ends
                      rcases h2 with ⟨rfl, _⟩ | ⟨g, cap, cur, rfl, _, hh, _⟩
                      · cases hi
                      · obtain rfl : g = i := Option.some.inj hi
                        exact (Array.getElem?_eq_some_iff.1 hh).1
                    have HMX := Aside1.mk (HMS.out.block (HKX.out.block b1 HMS.out.lt HT.out.n12))
                    have hbk := (HKX.out.block kx (Array.getElem?_eq_some_iff.1 HBk.out).1 (nb2 kx (Nat.le_of_lt lw))).trans HBk.out
                    have hbl := (HKX.out.block w.heap.size (Array.getElem?_eq_some_iff.1 HBl.out).1 (nb2 _ (Nat.le_refl _))).trans HBl.out
                    have k0' := (cell_of hbk 0).1
                    have k1' := (cell_of hbk 1).1
                    have k2' := (cell_of hbk 2).1
                    have k3' := (cell_of hbk 3).1
                    have x7' := (cell_of hbl 7).1
                    simp only [List.getElem?_toArray, List.getElem?_cons_zero, List.getElem?_cons_succ] at k0' k1' k2' k3' x7'
                    have HKZ := Aside1.mk (HKW.out.andThen HKX.out (fun _ _ h => Or.inr h))
                    clear hbk hbl k0 k1 k2 k3 x0 x1 x2 x3 x4 x5 x6 x7 HKX HKW HBk HBl c1
                    have hpush := heap_push wc.drew bt #[.map (some b1), .map (some b2), v] 60 v E (hHX.drewN 1) ⟨ti, ⟨lk, lh, ll, lb⟩⟩ (by have := HT.out.len; omega)
                    simp only [End.val] at hpush
                    go_wp2_with fail
                    go_region_with (first | (go_at_call 61; refine hpush.mono ?_; rintro e w5 ⟨rfl, v', hH, hnew, hk5⟩))
                    all_goals go_wp2_with fail
                    all_goals
                      go_ret
                      rw [HE.out]
                      have hk6 : Kept (fun k => k = bt ∨ v.ownBlock = some k) wc w5 := (Kept.refl (fun k => k = bt ∨ v.ownBlock = some k) wc).drew.andThen hk5 (fun _ _ h => h)
                      exact ⟨rfl, (HKZ.out.mono (S' := Foot bt b1 b2 v) (fun i h => h.elim (fun h => .inr (.inl h)) (fun h => .inr (.inr (.inl h))))).andThen hk6 (fun i _ h => h.elim .inl (fun h => .inr (.inr (.inr h)))), fun _ => ⟨v', put_done (wX := wc) HT.out (l := ⟨⟨lk, lh, ll, lb⟩, 1, c, ia, ti⟩) HL.out HMX.out HOX.out hH hnew hk6, fun k hk => (hnew k hk).imp id (fun h => Nat.le_trans HKZ.out.size h)⟩⟩
                · have HBB := Aside1.mk (show Lease.bound ⟨⟨lk, lh, ll, lb⟩, s, c, ia, ti⟩ = false by unfold Lease.bound; simpa using hs1)
                  have hs1' : (s == 1) = false := by simpa using hs1
                  have hpush := heap_push wS.drew bt #[.map (some b1), .map (some b2), v] 60 v E (HHS.out.drewN 1) ⟨ti, ⟨lk, lh, ll, lb⟩⟩ (by have := HT.out.len; omega)
                  simp only [End.val] at hpush
                  go_wp2_with fail
                  go_region_with (first | (go_at_call 61; refine hpush.mono ?_; rintro e w5 ⟨rfl, v', hH, hnew, hk5⟩))
                  all_goals go_wp2_with fail
                  all_goals
                    go_ret
                    rw [HE.out]
                    have hk6 : Kept (fun k => k = bt ∨ v.ownBlock = some k) wS w5 := (Kept.refl (fun k => k = bt ∨ v.ownBlock = some k) wS).drew.andThen hk5 (fun _ _ h => h)
                    exact ⟨rfl, (HKW.out.mono (S' := Foot bt b1 b2 v) (fun i h => h.elim (fun h => .inr (.inl h)) (fun h => .inr (.inr (.inl h))))).andThen hk6 (fun i _ h => h.elim .inl (fun h => .inr (.inr (.inr h)))), fun _ => ⟨v', put_done (wX := wS) HT.out (l := ⟨⟨lk, lh, ll, lb⟩, s, c, ia, ti⟩) HL.out HMS.out (put_idle (l := ⟨⟨lk, lh, ll, lb⟩, s, c, ia, ti⟩) HBB.out (HB2.out.mono (Nat.le_succ N))) hH hnew hk6, fun k hk => (hnew k hk).imp id (fun h => Nat.le_trans HKW.out.size h)⟩⟩
end Go.Proofs.YtmegbllhidkmoaaGreat.Tb

/- A table's change. -/
namespace Go.Proofs.YtmegbllhidkmoaaGreat.Tb
open Go.RowKit Go.Maps Go.Shelf Go.Proofs.YtmegbllhidkmoaaGreatW.PrintWords Go.Proofs.YtmegbllhidkmoaaGreatW.PrintLast Go.Proofs.YtmegbllhidkmoaaGreatW.PrintMore
set_option linter.unusedVariables false
def changeE (L : List Lease) (c : Change) : Int := if changeB c then (if c.gone then (if (findL L c.lease.key).isSome then 0 else 62) else putE L c.lease) else 80
def changeL (L : List Lease) (c : Change) : List Lease := if c.gone then without L c.lease.key else putL L c.lease
def changeEnds (E : List End) (c : Change) : List End := if c.gone then E else siftUp (E ++ [c.lease.fin]) E.length
theorem TabAt.mono {w : World} {bt b1 b2 N N' : Nat} {v : Value} {L : List Lease} {E : List End} (h : TabAt w bt b1 b2 v N L E) (hN : N ≤ N') : TabAt w bt b1 b2 v N' L E :=
  ⟨h.blk, h.m1.mono hN, h.m2.mono hN, h.ends, Nat.le_trans h.len hN, h.n12, h.v1, h.v2, h.vt, h.oks⟩
set_option maxHeartbeats 3200000 in
set_option maxRecDepth 100000 in
theorem tab_change (w : World) (bt b1 b2 N : Nat) (v : Value) (L : List Lease) (E : List End) (h : TabAt w bt b1 b2 v N L E) (hu : Uniq L) (hN : N < 1000000000) (hs : Sorted L) (c : Change) (hl : c.lease.ok) :
    Calls Tryz.prog 21 #[.pointer (some ⟨bt, 0, none⟩), c.val] w fun e w' => e = .returned (.int .i64 (changeE L c)) ∧ Kept (Foot bt b1 b2 v) w w' ∧
      (changeE L c = 0 → ∃ v', TabAt w' bt b1 b2 v' (N + 1) (changeL L c) (changeEnds E c) ∧ ∀ k, v'.ownBlock = some k → v.ownBlock = some k ∨ w.heap.size ≤ k) := by
  have hchange := fun W => change_run W c
  have HT := Aside1.mk h
  have HL := Aside1.mk hl
  have hput := fun W (hq : Quiet w W) => tab_put W bt b1 b2 N v L E (HT.out.kept hq (fun _ _ h => h)) hu hN hs c.lease hl
  have hdrop := fun W (hq : Quiet w W) => tab_drop W bt b1 b2 N v L E (HT.out.kept hq (fun _ _ h => h)) hu c.lease.key hl.1
  have hkey := fun W => key_of W c.lease
  have SkL : Aside1 (∀ w2, Quiet w w2 → (Instr.lookup 55 (.map (some b1)) (Key.val c.lease.key) true).run Tryz.prog w2 = .ok (.tuple #[((findL L c.lease.key).getD zeroLease).val, .bool (findL L c.lease.key).isSome]) w2) :=
    ⟨fun w2 hq => look_lease (HT.out.kept hq (fun _ _ h => h)).m1 _ hl.1⟩
  clear h hl
  obtain ⟨E1, hE1⟩ : ∃ x, changeE L c = x := ⟨_, rfl⟩
  obtain ⟨E2, hE2⟩ : ∃ x, putE L c.lease = x := ⟨_, rfl⟩
  have HE1 := Aside1.mk hE1
  have HE2 := Aside1.mk hE2
  have HB : ∀ b, changeB c = b → Aside1 (changeB c = b) := fun b h => ⟨h⟩
  have HG : ∀ b, c.gone = b → Aside1 (c.gone = b) := fun b h => ⟨h⟩
  rw [hE1]
  rw [hE2] at hput
  clear hE1 hE2
  cases hb : changeB c with
  | false =>
    have HB1 := HB _ hb
    rw [hb] at hchange
    clear hb HB HG hput hdrop hkey SkL
    obtain ⟨gn, ⟨⟨lk, lh, ll, lb⟩, s, cl, ia, ti⟩⟩ := c
    simp only [Change.val] at hchange ⊢
    go_enter Tryz.func21, Tryz.ntmps21
    go_wp2_with (go_at_call 42; refine (hchange _).mono ?_; rintro e w1 ⟨rfl, hq1⟩)
    go_ret
    have he : E1 = 80 := by rw [← HE1.out]; unfold changeE; rw [HB1.out]; rfl
    rw [he]
    exact ⟨rfl, ((((Kept.refl (fun _ => False) w).alloc _).andThen hq1 (fun _ _ h => h)).mono (fun _ h => h.elim)), fun h => by cases h⟩
  | true =>
    have HB1 := HB _ hb
    rw [hb] at hchange
    clear hb HB
    cases hg : c.gone with
    | false =>
      have HG1 := HG _ hg
      clear HG hdrop hkey SkL
      obtain ⟨gn, ⟨⟨lk, lh, ll, lb⟩, s, cl, ia, ti⟩⟩ := c
      simp only at hg
      subst hg
      simp only [Change.val, Lease.val] at hchange hput ⊢
      go_enter Tryz.func21, Tryz.ntmps21
      go_wp2_with (first | (go_at_call 42; refine (hchange _).mono ?_; rintro e w1 ⟨rfl, hq1⟩; have HBc := Aside1.mk ((hq1.block w.heap.size (by rw [World.size_alloc]; exact Nat.lt_succ_self _) (fun h => h)).trans (heap_alloc_new w _)); have y0 := (cell_of HBc.out 0).1; have y1 := (cell_of HBc.out 1).1; have y2 := (cell_of HBc.out 2).1; have y3 := (cell_of HBc.out 3).1; have y4 := (cell_of HBc.out 4).1; have y5 := (cell_of HBc.out 5).1; have y6 := (cell_of HBc.out 6).1; have y7 := (cell_of HBc.out 7).1; have y8 := (cell_of HBc.out 8).1; simp only [List.getElem?_toArray, List.getElem?_cons_zero, List.getElem?_cons_succ] at y0 y1 y2 y3 y4 y5 y6 y7 y8) | (go_at_call 43; refine (hput _ ?_).mono ?_; ((repeat (first | exact Kept.refl _ _ | assumption | apply Kept.drew | apply Kept.drewN | apply Kept.alloc | refine Kept.setCell ?_ (fun hlt => absurd hlt (Nat.lt_irrefl _)) _ | refine Kept.andThen ?_ (by assumption) (fun _ _ h => h)))); rintro e w2 ⟨rfl, hk2, hT2⟩))
      go_ret
      have he : E1 = E2 := by rw [← HE1.out, ← HE2.out]; unfold changeE; rw [HB1.out]; simp
      rw [he]
      have hqw : Quiet w w1 := ((Kept.refl (fun _ => False) w).alloc _).andThen hq1 (fun _ _ h => h)
      refine ⟨rfl, (hqw.mono (fun _ h => h.elim)).andThen hk2 (fun _ _ h => h), fun h0 => ?_⟩
      obtain ⟨v', r1, r2⟩ := hT2 h0
      exact ⟨v', r1, fun k hk => (r2 k hk).imp id (fun h => Nat.le_trans hqw.size h)⟩
    | true =>
      have HG1 := HG _ hg
      clear HG hput
      obtain ⟨r, hr⟩ : ∃ r, (findL L c.lease.key).getD zeroLease = r := ⟨_, rfl⟩
      obtain ⟨fok, hf⟩ : ∃ f, (findL L c.lease.key).isSome = f := ⟨_, rfl⟩
      have HF := Aside1.mk hf
      rw [hr, hf] at SkL
      clear hr hf
      obtain ⟨⟨fk, fh, fl, fb⟩, fs, fc, fi, ft⟩ := r
      obtain ⟨gn, ⟨⟨lk, lh, ll, lb⟩, s, cl, ia, ti⟩⟩ := c
      simp only at hg
      subst hg
      simp only [Change.val, Lease.val, Key.val] at hchange hdrop hkey SkL ⊢
      go_enter Tryz.func21, Tryz.ntmps21
      go_upto_region 6 with (first | (go_at_call 42; refine (hchange _).mono ?_; rintro e w1 ⟨rfl, hq1⟩; have HBc := Aside1.mk ((hq1.block w.heap.size (by rw [World.size_alloc]; exact Nat.lt_succ_self _) (fun h => h)).trans (heap_alloc_new w _)); have y0 := (cell_of HBc.out 0).1; have y1 := (cell_of HBc.out 1).1; have y2 := (cell_of HBc.out 2).1; have y3 := (cell_of HBc.out 3).1; have y4 := (cell_of HBc.out 4).1; have y5 := (cell_of HBc.out 5).1; have y6 := (cell_of HBc.out 6).1; have y7 := (cell_of HBc.out 7).1; have y8 := (cell_of HBc.out 8).1; simp only [List.getElem?_toArray, List.getElem?_cons_zero, List.getElem?_cons_succ] at y0 y1 y2 y3 y4 y5 y6 y7 y8) | (go_at_call 44; refine (hkey _).mono ?_; rintro e w2 ⟨rfl, hq2⟩))
      have hqw : Quiet w w2 := (((Kept.refl (fun _ => False) w).alloc _).andThen hq1 (fun _ _ h => h)).andThen hq2 (fun _ _ h => h)
      have HQ1 := Aside1.mk (hqw.alloc (.cells #[.int .i64 lk, .int .u64 lh, .int .u64 ll, .int .i64 lb] 71))
      have HB1k := Aside1.mk (heap_alloc_new w2 (.cells #[.int .i64 lk, .int .u64 lh, .int .u64 ll, .int .i64 lb] 71))
      clear hq1 hq2 y0 y1 y2 y3 y4 y5 y6 y7 y8 HBc hqw
      generalize w2.heap.size = kx at *
      generalize w2.alloc (.cells #[.int .i64 lk, .int .u64 lh, .int .u64 ll, .int .i64 lb] 71) = W1 at *
      have HS : Aside1 (∀ w', Quiet W1 w' → (w'.cell? ⟨bt, 0, none⟩ = some (.map (some b1)) ∧ w'.cell? ⟨kx, 0, none⟩ = some (.int .i64 lk) ∧ w'.cell? ⟨kx, 1, none⟩ = some (.int .u64 lh) ∧ w'.cell? ⟨kx, 2, none⟩ = some (.int .u64 ll) ∧ w'.cell? ⟨kx, 3, none⟩ = some (.int .i64 lb) ∧ (Instr.lookup 55 (.map (some b1)) (.agg #[.int .i64 lk, .int .u64 lh, .int .u64 ll, .int .i64 lb]) true).run Tryz.prog w' = .ok (.tuple #[.agg #[.int .i64 fk, .int .u64 fh, .int .u64 fl, .int .i64 fb, .int .i64 fs, .string fc, .int .u32 fi, .int .i64 ft], .bool fok]) w')) := ⟨fun w' hq => ⟨hq.cell (cell_tab (HT.out.kept HQ1.out (fun _ _ h => h))).1 (fun h => h), hq.cell (cell_of HB1k.out 0).1 (fun h => h), hq.cell (cell_of HB1k.out 1).1 (fun h => h), hq.cell (cell_of HB1k.out 2).1 (fun h => h), hq.cell (cell_of HB1k.out 3).1 (fun h => h), SkL.out w' (HQ1.out.andThen hq (fun _ _ h => h))⟩⟩
      go_cut [6, 7] (fun v6 v7 wz => v7 = .bool fok ∧ Aside1 (Quiet W1 wz))
      case first =>
        go_region_held3 (fun w' => w'.cell? ⟨bt, 0, none⟩ = some (.map (some b1)) ∧ w'.cell? ⟨kx, 0, none⟩ = some (.int .i64 lk) ∧ w'.cell? ⟨kx, 1, none⟩ = some (.int .u64 lh) ∧ w'.cell? ⟨kx, 2, none⟩ = some (.int .u64 ll) ∧ w'.cell? ⟨kx, 3, none⟩ = some (.int .i64 lb) ∧ (Instr.lookup 55 (.map (some b1)) (.agg #[.int .i64 lk, .int .u64 lh, .int .u64 ll, .int .i64 lb]) true).run Tryz.prog w' = .ok (.tuple #[.agg #[.int .i64 fk, .int .u64 fh, .int .u64 fl, .int .i64 fb, .int .i64 fs, .string fc, .int .u32 fi, .int .i64 ft], .bool fok]) w') ((refine HS.out _ ?_; (repeat (first | exact Kept.refl _ _ | assumption | apply Kept.drew | apply Kept.drewN | apply Kept.alloc | refine Kept.setCell ?_ (fun hlt => absurd hlt (Nat.lt_irrefl _)) _ | refine Kept.andThen ?_ (by assumption) (fun _ _ h => h))))) (fail)
        all_goals go_wp2_with fail
        all_goals go_meet
        all_goals exact ⟨rfl, ⟨by (repeat (first | exact Kept.refl _ _ | assumption | apply Kept.drew | apply Kept.drewN | apply Kept.alloc | refine Kept.setCell ?_ (fun hlt => absurd hlt (Nat.lt_irrefl _)) _ | refine Kept.andThen ?_ (by assumption) (fun _ _ h => h)))⟩⟩
      case rest =>
        obtain ⟨rfl, HQz⟩ := hcut
        obtain ⟨_, k0, k1, k2, k3, _⟩ := HS.out wc HQz.out
        have HQw := Aside1.mk (HQ1.out.andThen HQz.out (fun _ _ h => h))
        have hdr := hdrop wc HQw.out
        clear hdrop HS SkL HQ1 HQz
        cases fok with
        | false =>
          go_wp2_with fail
          go_ret
          have he : E1 = 62 := by rw [← HE1.out]; unfold changeE; rw [HB1.out, HF.out]; rfl
          rw [he]
          exact ⟨rfl, HQw.out.mono (fun _ h => h.elim), fun h => by cases h⟩
        | true =>
          go_wp2_with (go_at_call 45; refine hdr.mono ?_; rintro e w4 ⟨rfl, hT4, hk4⟩)
          go_ret
          have he : E1 = 0 := by rw [← HE1.out]; unfold changeE; rw [HB1.out, HF.out]; rfl
          rw [he]
          exact ⟨rfl, (HQw.out.mono (S' := Foot bt b1 b2 v) (fun _ h => h.elim)).andThen hk4 (fun i _ h => h.elim (fun h => .inr (.inl h)) (fun h => .inr (.inr (.inl h)))), fun _ => ⟨v, hT4.mono (Nat.le_succ N), fun k hk => .inl hk⟩⟩
end Go.Proofs.YtmegbllhidkmoaaGreat.Tb

/- Of, Size; the clones; Copy. -/
namespace Go.Proofs.YtmegbllhidkmoaaGreat.Tb
open Go.RowKit Go.Maps
set_option linter.unusedVariables false
set_option maxRecDepth 100000 in
theorem tab_size (w : World) (bt b1 b2 N : Nat) (v : Value) (L : List Lease) (E : List End) (h : TabAt w bt b1 b2 v N L E) :
    Calls Tryz.prog 20 #[.pointer (some ⟨bt, 0, none⟩)] w fun e w' => e = .returned (.int .i64 (L.length : Int)) ∧ Quiet w w' := by
  have c0 := (cell_tab h).1
  have hlen := fun ty => h.m1.len Tryz.underlying55 ty
  rw [show (leasesOf L).length = L.length from List.length_map ..] at hlen
  clear h
  go_enter Tryz.func20, Tryz.ntmps20
  go_wp2_with fail
  go_ret
  exact ⟨rfl, Kept.refl _ _⟩

set_option maxRecDepth 100000 in
theorem clone_leases (w : World) (b n : Nat) (L : List Lease) (h : LeaseMap w b n L) :
    Calls Tryz.prog 33 #[.map (some b)] w fun e w' => e = .returned (.map (some w.heap.size)) ∧ LeaseMap w' w.heap.size n L ∧ w'.heap.size = w.heap.size + 1 ∧ Quiet w w' := by
  obtain ⟨D, ⟨es, clock, hb, F, hs⟩, hh⟩ := h
  have hq := fun w => run_eql_map_nil_sl (P := Tryz.prog) w 55 _ _ (some b) Tryz.underlying55
  have HF := Aside1.mk F
  have HH := Aside1.mk hh
  have HS := Aside1.mk hs
  clear F hh hs
  go_enter Tryz.func33, Tryz.ntmps33
  go_wp2_with fail
  rw [run_callFunc_extern Tryz.func54 (by kernel_rfl) (by kernel_rfl) (by kernel_rfl) (e := Extern.MapsClone.clone) (by kernel_rfl), run_maps_clone_sl w 55 hb]
  simp only [Result.andThen]
  rw [Oper.upon_value]
  go_wp2_with fail
  rw [run_typeAssert_map_sl _ 55 20 _ _ _ Tryz.underlying55]
  simp only [Result.andThen]
  rw [Oper.upon_value]
  go_wp2_with fail
  go_ret
  exact ⟨rfl, ⟨D, ⟨es, clock, heap_alloc_new w _, HF.out, HS.out⟩, HH.out⟩, World.size_alloc _ _, (Kept.refl _ w).alloc _⟩
set_option maxRecDepth 100000 in
theorem clone_owners (w : World) (b n : Nat) (L : List Lease) (h : OwnerMap w b n L) :
    Calls Tryz.prog 34 #[.map (some b)] w fun e w' => e = .returned (.map (some w.heap.size)) ∧ OwnerMap w' w.heap.size n L ∧ w'.heap.size = w.heap.size + 1 ∧ Quiet w w' := by
  obtain ⟨D, ⟨es, clock, hb, F, hs⟩, hh⟩ := h
  have hq := fun w => run_eql_map_nil_sl (P := Tryz.prog) w 56 _ _ (some b) Tryz.underlying56
  have HF := Aside1.mk F
  have HH := Aside1.mk hh
  have HS := Aside1.mk hs
  clear F hh hs
  go_enter Tryz.func34, Tryz.ntmps34
  go_wp2_with fail
  rw [run_callFunc_extern Tryz.func54 (by kernel_rfl) (by kernel_rfl) (by kernel_rfl) (e := Extern.MapsClone.clone) (by kernel_rfl), run_maps_clone_sl w 56 hb]
  simp only [Result.andThen]
  rw [Oper.upon_value]
  go_wp2_with fail
  rw [run_typeAssert_map_sl _ 56 20 _ _ _ Tryz.underlying56]
  simp only [Result.andThen]
  rw [Oper.upon_value]
  go_wp2_with fail
  go_ret
  exact ⟨rfl, ⟨D, ⟨es, clock, heap_alloc_new w _, HF.out, HS.out⟩, HH.out⟩, World.size_alloc _ _, (Kept.refl _ w).alloc _⟩

theorem end_one (e : End) : ∀ v ∈ e.cells, v.oneCell' = true := by intro v hv; simp [End.cells] at hv; rcases hv with rfl | rfl | rfl | rfl | rfl <;> rfl
set_option maxHeartbeats 800000 in
set_option maxRecDepth 100000 in
theorem clone_ends (w : World) (v : Value) (E : List End) (h : EndsIs w v E) (hE : E.length ≤ 1000000000) :
    Calls Tryz.prog 35 #[v] w fun e w' => ∃ v', e = .returned v' ∧ EndsIs w' v' E ∧ (∀ k, v'.ownBlock = some k → w.heap.size ≤ k) ∧ Quiet w w' := by
  have q22 : ∀ (w : World) (a : Option Addr) (n c n' c' : Nat), (binOp .eql 58 (.slice a n c) (.slice none n' c')).run Tryz.prog w = .ok (.bool a.isNone) w := fun w a n c n' c' => Lib.run_eql_slice_nil w _ _ a n c n' c' Tryz.underlying58
  obtain ⟨i0, hi0, hz0, hz1, hz2⟩ := info_parts info_end
  obtain ⟨hlen, h2⟩ := h
  rcases h2 with ⟨rfl, h0⟩ | ⟨g, cap, cur, rfl, hg, hh, hn, hm, hc, ht⟩
  · obtain rfl : E = [] := List.length_eq_zero_iff.1 h0
    go_enter Tryz.func35, Tryz.ntmps35
    go_wp2_with fail
    go_ret
    exact ⟨_, rfl, ⟨rfl, .inl ⟨rfl, rfl⟩⟩, (fun k hk => by cases hk), Kept.refl _ _⟩
  · have A : Aside1 (∀ j u, (E.flatMap End.cells)[j]? = some u → w.cell? ⟨g, 0 + j, none⟩ = some u) := ⟨fun j u hj => by
      rw [Nat.zero_add]
      have hjl : j < E.length * 5 := by
        rw [← hlen]
        exact (List.getElem?_eq_some_iff.1 hj).1
      rw [← ht, List.getElem?_take_of_lt hjl, Array.getElem?_toList] at hj
      simp [World.cell?, hh, hj]⟩
    have HL := Aside1.mk hlen
    clear hh ht hc hlen
    go_enter Tryz.func35, Tryz.ntmps35
    go_wp2_with (first | (at_builtin; refine wpList_append_own _ rfl _ _ 58 rfl w.heap.size 77 i0 _ 5 40 Tryz.underlying58 hi0 hz0 hz1 hz2 rfl (by omega) _ _ _ rfl (World.ownsRow_made w #[] 0 (Nat.le_refl _) (Nat.zero_le _) (by simp)) ⟨g, 0, none⟩ E.length cap (E.flatMap End.cells) rfl ?qc1 ?qc2 ?qc3 ?qc4 ?qc5 ?qc6 ?_) | go_in)
    case qc1 => exact HL.out
    case qc2 =>
      intro j u hj
      rw [Addr.add_lit]
      exact Lib.cell?_alloc_some _ (A.out j u hj)
    case qc3 =>
      intro u hu
      obtain ⟨e, _, he⟩ := List.mem_flatMap.1 hu
      exact end_one e u he
    case qc4 => unfold maxLen; omega
    case qc5 => omega
    case qc6 => simp
    intro v' w1 hown hgrow hnil
    go_wp2_with fail
    go_ret
    refine ⟨v', rfl, ?_, ?_, ?_⟩
    · have : World.ownsRow w1 w.heap.size 77 5 v' E.length (E.flatMap End.cells) := by simpa using hown
      obtain ⟨a, b⟩ := this
      refine ⟨a, b.imp id ?_⟩
      rintro ⟨g', cap', cur', r1, r2, r3⟩
      exact ⟨g', cap', cur', r1, Nat.zero_le _, r3⟩
    · intro k hk
      have : World.ownsRow w1 w.heap.size 77 5 v' E.length (E.flatMap End.cells) := by simpa using hown
      obtain ⟨_, b⟩ := this
      rcases b with ⟨rfl, _⟩ | ⟨g', cap', cur', rfl, r2, r3⟩
      · cases hk
      · obtain rfl : g' = k := Option.some.inj hk
        exact r2
    · exact ((Kept.refl (fun _ => False) w).alloc _).andThen (Kept.grown (S := fun i => i = w.heap.size) hgrow (fun k hk => by simp [Value.ownBlock] at hk; exact hk.symm)) (fun i hi h => by omega)
end Go.Proofs.YtmegbllhidkmoaaGreat.Tb

/- A table's Copy. -/
namespace Go.Proofs.YtmegbllhidkmoaaGreat.Tb
open Go.RowKit Go.Maps
set_option linter.unusedVariables false
theorem ends_lt {w : World} {v : Value} {E : List End} (h : EndsIs w v E) {k : Nat} (hk : v.ownBlock = some k) : k < w.heap.size := by
  obtain ⟨_, h2⟩ := h
  rcases h2 with ⟨rfl, _⟩ | ⟨g, cap, cur, rfl, _, hh, _⟩
  · cases hk
  · obtain rfl : g = k := Option.some.inj hk
    exact (Array.getElem?_eq_some_iff.1 hh).1
theorem ends_old {w w' : World} {v : Value} {E : List End} {S : Nat → Prop} (h : EndsIs w v E) (hk : Kept S w w') (hs : ∀ k, v.ownBlock = some k → ¬ S k) : EndsIs w' v E :=
  h.kept fun k hk' => hk.block k (ends_lt h hk') (hs k hk')
theorem ends_shape {w : World} {v : Value} {E : List End} (h : EndsIs w v E) : ∃ p cap, v = .slice p E.length cap := by
  obtain ⟨h1, h2⟩ := h
  rcases h2 with ⟨rfl, h0⟩ | ⟨g, cap, cur, rfl, r⟩
  · exact ⟨none, 0, by rw [h0]⟩
  · exact ⟨_, _, rfl⟩
theorem copy_done {w p1 w1 p2 w2 p3 w3 : World} {N : Nat} {v' : Value} {L : List Lease} {E : List End} (q0 : Quiet w p1) (m1 : LeaseMap w1 p1.heap.size N L) (q1 : Quiet p1 w1) (qa : Quiet w1 p2) (m2 : OwnerMap w2 p2.heap.size N L) (q2 : Quiet p2 w2) (qb : Quiet w2 p3)
    (he : EndsIs w3 v' E) (hv : ∀ k, v'.ownBlock = some k → p3.heap.size ≤ k) (q3 : Quiet p3 w3) (hl : E.length ≤ N) (oks : ∀ l ∈ L, l.ok) :
    TabAt (w3.alloc (.cells #[.map (some p1.heap.size), .map (some p2.heap.size), v'] 60)) w3.heap.size p1.heap.size p2.heap.size v' N L E ∧ (∀ k, Foot w3.heap.size p1.heap.size p2.heap.size v' k → w.heap.size ≤ k) ∧ Quiet w (w3.alloc (.cells #[.map (some p1.heap.size), .map (some p2.heap.size), v'] 60)) := by
  have s0 := q0.size
  have s1 := q1.size
  have sa := qa.size
  have s2 := q2.size
  have sb := qb.size
  have s3 := q3.size
  have l1 := m1.lt
  have l2 := m2.lt
  have k2 : Quiet w2 (w3.alloc (.cells #[.map (some p1.heap.size), .map (some p2.heap.size), v'] 60)) := (qb.andThen q3 (fun _ _ h => h)).alloc _
  have k1 : Quiet w1 (w3.alloc (.cells #[.map (some p1.heap.size), .map (some p2.heap.size), v'] 60)) := (qa.andThen q2 (fun _ _ h => h)).andThen k2 (fun _ _ h => h)
  refine ⟨⟨heap_alloc_new w3 _, m1.block (k1.block _ l1 (fun h => h)), m2.block (k2.block _ l2 (fun h => h)), ends_old he ((Kept.refl (fun _ => False) w3).alloc _) (fun _ _ h => h), hl, by omega, ?_, ?_, ?_, oks⟩, ?_, (q0.andThen q1 (fun _ _ h => h)).andThen k1 (fun _ _ h => h)⟩
  · intro e; have := hv _ e; omega
  · intro e; have := hv _ e; omega
  · intro e; have := ends_lt he e; omega
  · rintro k (rfl | rfl | rfl | h)
    · omega
    · omega
    · omega
    · have := hv _ h; omega
set_option maxHeartbeats 1600000 in
set_option maxRecDepth 100000 in
theorem tab_copy (w : World) (bt b1 b2 N : Nat) (v : Value) (L : List Lease) (E : List End) (h : TabAt w bt b1 b2 v N L E) (hN : N ≤ 1000000000) :
    Calls Tryz.prog 13 #[.pointer (some ⟨bt, 0, none⟩)] w fun e w' => ∃ bt' b1' b2' v', e = .returned (.pointer (some ⟨bt', 0, none⟩)) ∧ TabAt w' bt' b1' b2' v' N L E ∧ (∀ k, Foot bt' b1' b2' v' k → w.heap.size ≤ k) ∧ Quiet w w' := by
  have HT := Aside1.mk h
  have HS : Aside1 (∀ w', Quiet w w' → (w'.cell? ⟨bt, 0, none⟩ = some (.map (some b1)) ∧ w'.cell? ⟨bt, 1, none⟩ = some (.map (some b2)) ∧ w'.cell? ⟨bt, 2, none⟩ = some v)) := ⟨fun w' hq => cell_tab (HT.out.kept hq (fun _ _ h => h))⟩
  have hc1 := fun W (hq : Quiet w W) => clone_leases W b1 N L (HT.out.kept hq (fun _ _ h => h)).m1
  have hc2 := fun W (hq : Quiet w W) => clone_owners W b2 N L (HT.out.kept hq (fun _ _ h => h)).m2
  have hc3 := fun W (hq : Quiet w W) => clone_ends W v E (HT.out.kept hq (fun _ _ h => h)).ends (Nat.le_trans HT.out.len hN)
  obtain ⟨c0, c1, c2⟩ := cell_tab h
  clear h
  go_enter Tryz.func13, Tryz.ntmps13
  go_wp2_with fail
  go_region_held3 (fun w' => w'.cell? ⟨bt, 0, none⟩ = some (.map (some b1)) ∧ w'.cell? ⟨bt, 1, none⟩ = some (.map (some b2)) ∧ w'.cell? ⟨bt, 2, none⟩ = some v) ((refine HS.out _ ?_; (repeat (first | exact Kept.refl _ _ | assumption | apply Kept.drew | apply Kept.drewN | apply Kept.alloc | refine Kept.setCell ?_ (fun hlt => absurd hlt (Nat.lt_irrefl _)) _ | refine Kept.andThen ?_ (by assumption) (fun _ _ h => h)))))
    (first
      | (go_at_call 33; refine (hc1 _ ?_).mono ?_; ((repeat (first | exact Kept.refl _ _ | assumption | apply Kept.drew | apply Kept.drewN | apply Kept.alloc | refine Kept.setCell ?_ (fun hlt => absurd hlt (Nat.lt_irrefl _)) _ | refine Kept.andThen ?_ (by assumption) (fun _ _ h => h)))); rintro e w1 ⟨rfl, hm1, hs1, hq1⟩)
      | (go_at_call 34; refine (hc2 _ ?_).mono ?_; ((repeat (first | exact Kept.refl _ _ | assumption | apply Kept.drew | apply Kept.drewN | apply Kept.alloc | refine Kept.setCell ?_ (fun hlt => absurd hlt (Nat.lt_irrefl _)) _ | refine Kept.andThen ?_ (by assumption) (fun _ _ h => h)))); rintro e w2 ⟨rfl, hm2, hs2, hq2⟩)
      | (go_at_call 35; refine (hc3 _ ?_).mono ?_; ((repeat (first | exact Kept.refl _ _ | assumption | apply Kept.drew | apply Kept.drewN | apply Kept.alloc | refine Kept.setCell ?_ (fun hlt => absurd hlt (Nat.lt_irrefl _)) _ | refine Kept.andThen ?_ (by assumption) (fun _ _ h => h)))); rintro e w3 ⟨v', rfl, he3, hv3, hq3⟩; obtain ⟨pE, cE, hvE⟩ := ends_shape he3; subst hvE))
  all_goals go_wp2_with fail
  all_goals
    go_ret
    have hcd := copy_done (p1 := w.drew) (p2 := w1) (p3 := w2) ((Kept.refl (fun _ => False) w).drew) hm1 hq1 (Kept.refl _ _) hm2 hq2 (Kept.refl _ _) he3 hv3 hq3 HT.out.len HT.out.oks
    rw [hs1] at hcd
    exact ⟨w3.heap.size, w.heap.size, w.heap.size + 1, _, rfl, hcd⟩
end Go.Proofs.YtmegbllhidkmoaaGreat.Tb
