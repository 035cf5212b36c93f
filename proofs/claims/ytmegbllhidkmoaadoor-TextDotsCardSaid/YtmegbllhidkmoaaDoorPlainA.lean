/- Plain facts on lists of bytes: a text cut at a byte, and put together again; decimal numbers; words of bits. -/
import Derived.Lib.Split
import Derived.Lib.SplitLaws
import Derived.Lib.Join
import Derived.Lib.ItoaMem
import Derived.Lib.ItoaLen
import Derived.Lib.ParseIntB
import Derived.Laws.BitsLemmas
namespace Go.Proofs.YtmegbllhidkmoaaDoor.Plain
open Go.Lib

def splitL (c : UInt8) : List UInt8 → List (List UInt8)
  | [] => [[]]
  | b :: l => if b = c then [] :: splitL c l else match splitL c l with
    | h :: t => (b :: h) :: t
    | [] => [[b]]
theorem splitL_ne (c : UInt8) (l : List UInt8) : splitL c l ≠ [] := by
  cases l with
  | nil => simp [splitL]
  | cons b l => unfold splitL; split; · simp
                split <;> simp
theorem index_cons (b c : UInt8) (l : List UInt8) : index (b :: l) [c] = if c = b then 0 else if index l [c] = -1 then -1 else index l [c] + 1 := by
  rw [index]
  have : [c].isPrefixOf (b :: l) = (c == b) := by simp [List.isPrefixOf]
  rw [this]
  by_cases h : c = b
  · simp [h]
  · have : (c == b) = false := by simpa using h
    rw [this, if_neg (by decide), if_neg h]
    simp
theorem splitK_splitL (c : UInt8) : ∀ l : List UInt8, splitK [c] 0 (count l [c]) l = splitL c l
  | [] => by rw [count_one]; rfl
  | b :: l => by
    have ih := splitK_splitL c l
    unfold splitL
    by_cases h : b = c
    · subst h
      rw [if_pos rfl, count_cons_eq, Nat.add_comm, splitK, index_cons, if_pos rfl, if_neg (by decide)]
      simp only [Int.toNat_zero, Nat.zero_add, List.take_zero, List.length_singleton, List.drop_one, List.tail_cons]
      rw [ih]
    · rw [if_neg h, count_cons_ne b c l h, ← ih]
      cases hk : count l [c] with
      | zero => rfl
      | succ k =>
        have hcb : ¬ c = b := fun e => h e.symm
        have hidx : index (b :: l) [c] = if index l [c] = -1 then -1 else index l [c] + 1 := by rw [index_cons, if_neg hcb]
        rw [splitK, splitK, hidx]
        by_cases hi : index l [c] = -1
        · rw [hi]; simp
        · have hge := index_ge l [c]
          rw [if_neg hi]
          obtain ⟨i, hi2⟩ : ∃ i : Nat, index l [c] = i := ⟨(index l [c]).toNat, by omega⟩
          rw [hi2]
          have e1 : (((i : Int) + 1) == -1) = false := by simp; omega
          have e2 : (((i : Int)) == -1) = false := by simp
          rw [e1, e2, show ((i : Int) + 1).toNat = i + 1 by omega, Int.toNat_natCast]
          simp
theorem splitB_splitL (c : UInt8) (s : ByteArray) : (splitB ⟨#[c]⟩ 0 (countB s ⟨#[c]⟩) s).map (·.data.toList) = splitL c s.data.toList := by
  rw [splitB_data]
  exact splitK_splitL c s.data.toList

theorem join_cons2 (c : UInt8) (h : List UInt8) (t : List (List UInt8)) (ht : t ≠ []) : join (h :: t) [c] = h ++ c :: join t [c] := by
  cases t with
  | nil => exact absurd rfl ht
  | cons x t => rw [join_cons, join_cons]; simp [joinTail]
theorem join_splitL (c : UInt8) : ∀ l : List UInt8, join (splitL c l) [c] = l
  | [] => rfl
  | b :: l => by
    have ih := join_splitL c l
    unfold splitL
    by_cases h : b = c
    · rw [if_pos h, join_cons2 c _ _ (splitL_ne c l), ih, h]; rfl
    · rw [if_neg h]
      cases hs : splitL c l with
      | nil => exact absurd hs (splitL_ne c l)
      | cons x t =>
        simp only
        rw [hs] at ih
        cases t with
        | nil => rw [join_one] at *; rw [ih]
        | cons y t => rw [join_cons2 c _ _ (by simp)] at *; rw [List.cons_append, ih]

theorem wraps_u32 (n : Int) (h₀ : 0 ≤ n) (h₁ : n < 2 ^ 32) : IntKind.u32.wrap n = n := by rw [IntKind.wrap_u32]; omega
theorem u32_and255 (x : Int) (h0 : 0 ≤ x) (h1 : x < 4294967296) : bits .and .u32 x 255 = x % 256 := bits_mask .u32 32 (by decide) wraps_u32 8 (by decide) x h0 (by omega)
theorem u32_join (x v : Int) (h0 : 0 ≤ x) (h1 : x < 16777216) (h2 : 0 ≤ v) (h3 : v < 256) : bits .or .u32 ((x * 256) % 4294967296) (v % 4294967296) = x * 256 + v := by
  rw [Int.emod_eq_of_lt (by omega) (by omega), Int.emod_eq_of_lt (by omega) (by omega)]
  exact bits_join .u32 32 (by decide) wraps_u32 8 (x * 256) v (by omega) (by omega) (by omega) h2 (by omega) (by omega)
end Go.Proofs.YtmegbllhidkmoaaDoor.Plain
