/- The contracts of strings.Split, Cut, Join and strconv.Itoa in the form that the printed texts ask for, out of the library's own contracts. -/
import Derived.Test.YtmegbllhidkmoaaDoorProg
import Derived.Test.YtmegbllhidkmoaaDoorFacts
import Derived.Test.YtmegbllhidkmoaaDoorWWords
import Derived.Test.YtmegbllhidkmoaaDoorWLast
import Derived.Test.YtmegbllhidkmoaaDoorWMore
import Derived.Test.YtmegbllhidkmoaaDoorShelf
import Derived.Lib.AppendIntMem
import Derived.Lib.AtoiErrMem
namespace Go.Proofs.YtmegbllhidkmoaaDoor.Tx
open Go.RowKit Go.Proofs.YtmegbllhidkmoaaDoorW.PrintWords Go.Proofs.YtmegbllhidkmoaaDoorW.PrintLast
set_option linter.unusedVariables false

/-- What the text functions read of the package-level variables. -/
structure Glob (w : World) : Prop where
  len : ∃ m, w.cell? ⟨0, 0, none⟩ = some (.int .i64 m)
  syn : ∃ t p, w.cell? ⟨1, 0, none⟩ = some (.iface t p)
  rng : ∃ t p, w.cell? ⟨2, 0, none⟩ = some (.iface t p)
  tab : Lib.TabIs Tryd.prog w "internal/strconv.uint64pow10" .u64 Lib.pow10Tab
  tz : w.cell? ⟨7, 15, none⟩ = some (.int .u8 4)
theorem Glob.below {w w' : World} (h : Glob w) (hb : Below w.heap.size w w') : Glob w' := by
  obtain ⟨⟨m, h1⟩, ⟨t, p, h2⟩, ⟨t', p', h3⟩, h4, h5⟩ := h
  exact ⟨⟨m, pw_cell_below hb h1⟩, ⟨t, p, pw_cell_below hb h2⟩, ⟨t', p', pw_cell_below hb h3⟩, Lib.tabBelow_of_tabIs h4 _ hb, pw_cell_below hb h5⟩

theorem fresh_row (w : World) (xs : List ByteArray) (e : Nat) (hl : xs.length ≤ maxLen) :
    Kd.R Kd.string e (w.alloc (.cells (xs.map Value.string).toArray e)) w.heap.size (fun _ => True) (.slice (some ⟨w.heap.size, 0, none⟩) xs.length xs.length) xs := by
  refine Kd.R_of_own ⟨by simp [encs], .inr ⟨w.heap.size, xs.length, (xs.map Value.string).toArray, rfl, Nat.le_refl _, ?_, Nat.le_refl _, hl, by simp [Kd.string, Kd.scalar], ?_⟩⟩ (fun _ _ => trivial)
  · unfold World.alloc; exact Array.getElem?_push_size
  · simp [encs, List.take_of_length_le]

def strings_Split.f (a0 a1 : ByteArray) : Option (List ByteArray) := if a0.size < 4294967281 ∧ 1 ≤ a1.size then some (Lib.splitB a1 0 (Lib.countB a0 a1) a0) else none
theorem strings_Split.calls (a0 a1 : ByteArray) (r : List ByteArray) (w : World) (hG : Aside0 (Glob w)) (h : strings_Split.f a0 a1 = some r) :
    Calls Tryd.prog 34 #[.string a0, .string a1] w fun e w' => ∃ v0_ : Value, e = .returned (v0_) ∧ Kd.R Kd.string 9 w' w.heap.size (fun _ => True) v0_ r ∧ Below w.heap.size w w' := by
  unfold strings_Split.f at h
  by_cases hc : a0.size < 4294967281 ∧ 1 ≤ a1.size
  · rw [if_pos hc] at h
    obtain rfl := Option.some.inj h
    obtain ⟨m, hm⟩ := hG.out.len
    refine (Tryd.strings_Split a0 a1 m w hc.1 hm hc.2).mono ?_
    rintro e w' ⟨rfl, rfl⟩
    have hlen := Lib.splitB_all a1 hc.2 0 _ a0 rfl
    have hle := Lib.countB_le a1 hc.2 a0.size a0 (Nat.le_refl _)
    refine ⟨_, rfl, ?_, (Below.refl _ _).alloc (Nat.le_refl _) _⟩
    have := fresh_row w (Lib.splitB a1 0 (Lib.countB a0 a1) a0) 9 (by rw [hlen]; unfold maxLen; omega)
    rw [hlen] at this
    exact this
  · rw [if_neg hc] at h; exact absurd h (by simp)

def strings_Cut.f (a0 a1 : ByteArray) : Option (ByteArray × ByteArray × Bool) := if a0.size < 4294967281 then some (⟨(Lib.cut a0.data.toList a1.data.toList).1.toArray⟩, ⟨(Lib.cut a0.data.toList a1.data.toList).2.1.toArray⟩, (Lib.cut a0.data.toList a1.data.toList).2.2) else none
theorem strings_Cut.calls (a0 a1 : ByteArray) (r1 r2 : ByteArray) (r3 : Bool) (w : World) (hG : Aside0 (Glob w)) (h : strings_Cut.f a0 a1 = some (r1, r2, r3)) :
    Calls Tryd.prog 36 #[.string a0, .string a1] w fun e w' => e = .returned (.tuple #[.string r1, .string r2, .bool r3]) ∧ Below w.heap.size w w' := by
  unfold strings_Cut.f at h
  by_cases hc : a0.size < 4294967281
  · rw [if_pos hc] at h
    have h' := Option.some.inj h
    simp only [Prod.mk.injEq] at h'
    obtain ⟨rfl, rfl, rfl⟩ := h'
    obtain ⟨m, hm⟩ := hG.out.len
    refine (Tryd.strings_Cut a0 a1 m w hc hm).mono ?_
    rintro e w' ⟨rfl, n, rfl⟩
    exact ⟨rfl, pw_below_drewN (Below.refl _ _) n⟩
  · rw [if_neg hc] at h; exact absurd h (by simp)

def strings_Join.f (a0 : List ByteArray) (a1 : ByteArray) : Option ByteArray := if a0.length ≤ 140737488355328 ∧ (Lib.join (a0.map (·.data.toList)) a1.data.toList).length ≤ 140737488355328 then some ⟨(Lib.join (a0.map (·.data.toList)) a1.data.toList).toArray⟩ else none
theorem strings_Join.calls (A0 : Option Addr) (c0 : Nat) (l0 : List ByteArray) (a1 : ByteArray) (r : ByteArray) (w : World) (hr0 : Kd.C Kd.string w A0 l0.length l0) (hc0 : l0.length ≤ c0) (hG : Aside0 (Glob w)) (h : strings_Join.f l0 a1 = some r) :
    Calls Tryd.prog 48 #[.slice A0 l0.length c0, .string a1] w fun e w' => e = .returned (.string r) ∧ Below w.heap.size w w' := by
  unfold strings_Join.f at h
  by_cases hc : l0.length ≤ 140737488355328 ∧ (Lib.join (l0.map (·.data.toList)) a1.data.toList).length ≤ 140737488355328
  · rw [if_pos hc] at h
    obtain rfl := Option.some.inj h
    cases l0 with
    | nil =>
      refine (Tryd.strings_Join_none A0 c0 a1 w).mono ?_
      rintro e w' ⟨rfl, rfl⟩
      exact ⟨by simp [Lib.join_nil], Below.refl _ _⟩
    | cons x l =>
      have hcell : ∃ bk o, A0 = some ⟨bk, o, none⟩ ∧ ∀ (j : Nat) y, (x :: l)[j]? = some y → w.cell? ⟨bk, o + j, none⟩ = some (.string y) := by
        obtain ⟨ad, e0, h0⟩ := Kd.at_string hr0 0 (by omega) (by simp)
        rw [show (0 : Int).toNat = 0 from rfl, Addr.add_zero'] at h0
        obtain ⟨b, o, sp⟩ := ad
        have hsp : sp = none := by
          cases sp with
          | none => rfl
          | some s => simp [World.cell?] at h0; split at h0 <;> simp at h0
        subst hsp
        refine ⟨b, o, e0, fun j y hy => ?_⟩
        have hj : j < (x :: l).length := by
          rcases Nat.lt_or_ge j (x :: l).length with h | h
          · exact h
          · rw [List.getElem?_eq_none h] at hy; cases hy
        obtain ⟨ad, e1, h1⟩ := Kd.at_string hr0 (j : Int) (by omega) (by exact_mod_cast hj)
        rw [e0] at e1
        injection e1 with e1
        subst e1
        have e2 : (⟨b, o, none⟩ : Addr).add ((j : Int).toNat) = ⟨b, o + j, none⟩ := by
          rw [Int.toNat_natCast]
          unfold Addr.add
          split
          · rename_i hz; subst hz; rfl
          · rfl
        rw [e2] at h1
        rw [h1]
        congr 2
        unfold rdOf
        rw [Int.toNat_natCast]
        simp [List.getD, hy]
      obtain ⟨bk, o, rfl, hcells⟩ := hcell
      have hbk := World.block_lt_of_cell? w _ (hcells 0 x rfl)
      exact (Tryd.strings_Join bk o c0 (x :: l) a1 w hcells hbk hc.1 hc0 hc.2)
  · rw [if_neg hc] at h; exact absurd h (by simp)

def strconv_Itoa.f (a0 : Int) : Option ByteArray := if -9223372036854775808 ≤ a0 ∧ a0 ≤ 9223372036854775807 then some ⟨(Lib.itoa a0).toArray⟩ else none
theorem strconv_Itoa.calls (a0 : Int) (r : ByteArray) (w : World) (hG : Aside0 (Glob w)) (h : strconv_Itoa.f a0 = some r) :
    Calls Tryd.prog 47 #[.int .i64 a0] w fun e w' => e = .returned (.string r) ∧ Below w.heap.size w w' := by
  unfold strconv_Itoa.f at h
  by_cases hc : -9223372036854775808 ≤ a0 ∧ a0 ≤ 9223372036854775807
  · rw [if_pos hc] at h
    obtain rfl := Option.some.inj h
    refine (Tryd.strconv_Itoa a0 hc.1 hc.2 w hG.out.tab).mono ?_
    rintro e w' ⟨rfl, k, os, rfl⟩
    exact ⟨rfl, Lib.below_grow _ w (Nat.le_refl _) k os⟩
  · rw [if_neg hc] at h; exact absurd h (by simp)
end Go.Proofs.YtmegbllhidkmoaaDoor.Tx
