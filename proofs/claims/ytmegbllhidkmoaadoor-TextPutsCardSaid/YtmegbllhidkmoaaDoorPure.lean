/- Plain facts on lists of bytes: a text cut at a byte, and put together again; decimal numbers; words of bits. -/
import Derived.Lib.Split
import Derived.Lib.SplitLaws
import Derived.Lib.Join
import Derived.Lib.ItoaMem
import Derived.Lib.ItoaLen
import Derived.Lib.ParseIntB
import Derived.Laws.BitsLemmas
import Derived.Test.YtmegbllhidkmoaaDoorGivenH
import Derived.Test.YtmegbllhidkmoaaDoorGivenI
import Derived.Test.YtmegbllhidkmoaaDoorE
namespace Go.Proofs.YtmegbllhidkmoaaDoor.Plain
open Go.Lib

def splitL (c : UInt8) : List UInt8 → List (List UInt8)
  | [] => [[]]
  | b :: l => if b = c then [] :: splitL c l else match splitL c l with
    | h :: t => (b :: h) :: t
    | [] => [[b]]
theorem splitL_ne (c : UInt8) (l : List UInt8) : splitL c l ≠ [] := by
  cases l with
  | nil => simp [splitL]
  | cons b l => unfold splitL; split; · simp
                split <;> simp
theorem index_cons (b c : UInt8) (l : List UInt8) : index (b :: l) [c] = if c = b then 0 else if index l [c] = -1 then -1 else index l [c] + 1 := by
  rw [index]
  have : [c].isPrefixOf (b :: l) = (c == b) := by simp [List.isPrefixOf]
  rw [this]
  by_cases h : c = b
  · simp [h]
  · have : (c == b) = false := by simpa using h
    rw [this, if_neg (by decide), if_neg h]
    simp
theorem splitK_splitL (c : UInt8) : ∀ l : List UInt8, splitK [c] 0 (count l [c]) l = splitL c l
  | [] => by rw [count_one]; rfl
  | b :: l => by
    have ih := splitK_splitL c l
    unfold splitL
    by_cases h : b = c
    · subst h
      rw [if_pos rfl, count_cons_eq, Nat.add_comm, splitK, index_cons, if_pos rfl, if_neg (by decide)]
      simp only [Int.toNat_zero, Nat.zero_add, List.take_zero, List.length_singleton, List.drop_one, List.tail_cons]
      rw [ih]
    · rw [if_neg h, count_cons_ne b c l h, ← ih]
      cases hk : count l [c] with
      | zero => rfl
      | succ k =>
        have hcb : ¬ c = b := fun e => h e.symm
        have hidx : index (b :: l) [c] = if index l [c] = -1 then -1 else index l [c] + 1 := by rw [index_cons, if_neg hcb]
        rw [splitK, splitK, hidx]
        by_cases hi : index l [c] = -1
        · rw [hi]; simp
        · have hge := index_ge l [c]
          rw [if_neg hi]
          obtain ⟨i, hi2⟩ : ∃ i : Nat, index l [c] = i := ⟨(index l [c]).toNat, by omega⟩
          rw [hi2]
          have e1 : (((i : Int) + 1) == -1) = false := by simp; omega
          have e2 : (((i : Int)) == -1) = false := by simp
          rw [e1, e2, show ((i : Int) + 1).toNat = i + 1 by omega, Int.toNat_natCast]
          simp
theorem splitB_splitL (c : UInt8) (s : ByteArray) : (splitB ⟨#[c]⟩ 0 (countB s ⟨#[c]⟩) s).map (·.data.toList) = splitL c s.data.toList := by
  rw [splitB_data]
  exact splitK_splitL c s.data.toList

theorem join_cons2 (c : UInt8) (h : List UInt8) (t : List (List UInt8)) (ht : t ≠ []) : join (h :: t) [c] = h ++ c :: join t [c] := by
  cases t with
  | nil => exact absurd rfl ht
  | cons x t => rw [join_cons, join_cons]; simp [joinTail]
theorem join_splitL (c : UInt8) : ∀ l : List UInt8, join (splitL c l) [c] = l
  | [] => rfl
  | b :: l => by
    have ih := join_splitL c l
    unfold splitL
    by_cases h : b = c
    · rw [if_pos h, join_cons2 c _ _ (splitL_ne c l), ih, h]; rfl
    · rw [if_neg h]
      cases hs : splitL c l with
      | nil => exact absurd hs (splitL_ne c l)
      | cons x t =>
        simp only
        rw [hs] at ih
        cases t with
        | nil => rw [join_one] at *; rw [ih]
        | cons y t => rw [join_cons2 c _ _ (by simp)] at *; rw [List.cons_append, ih]

theorem wraps_u32 (n : Int) (h₀ : 0 ≤ n) (h₁ : n < 2 ^ 32) : IntKind.u32.wrap n = n := by rw [IntKind.wrap_u32]; omega
theorem u32_and255 (x : Int) (h0 : 0 ≤ x) (h1 : x < 4294967296) : bits .and .u32 x 255 = x % 256 := bits_mask .u32 32 (by decide) wraps_u32 8 (by decide) x h0 (by omega)
theorem u32_join (x v : Int) (h0 : 0 ≤ x) (h1 : x < 16777216) (h2 : 0 ≤ v) (h3 : v < 256) : bits .or .u32 ((x * 256) % 4294967296) (v % 4294967296) = x * 256 + v := by
  rw [Int.emod_eq_of_lt (by omega) (by omega), Int.emod_eq_of_lt (by omega) (by omega)]
  exact bits_join .u32 32 (by decide) wraps_u32 8 (x * 256) v (by omega) (by omega) (by omega) h2 (by omega) (by omega)
end Go.Proofs.YtmegbllhidkmoaaDoor.Plain

/- Lists of bytes: parts joined and split again; where a pair of colons stands; hexadecimal digits read again. -/
namespace Go.Proofs.YtmegbllhidkmoaaDoor.Tx
open Go.RowKit Go.Lib Go.Proofs.YtmegbllhidkmoaaDoor.Plain
set_option linter.unusedVariables false

theorem splitL_none (c : UInt8) : ∀ x : List UInt8, c ∉ x → splitL c x = [x]
  | [], _ => rfl
  | a :: x, h => by
    have ha : ¬ a = c := fun e => h (by simp [e])
    have hx : c ∉ x := fun m => h (by simp [m])
    rw [splitL, splitL_none c x hx]
    simp [ha]
theorem splitL_app (c : UInt8) (t : List UInt8) : ∀ x : List UInt8, c ∉ x → splitL c (x ++ c :: t) = x :: splitL c t
  | [], _ => by
    rw [List.nil_append, splitL]
    simp
  | a :: x, h => by
    have ha : ¬ a = c := fun e => h (by simp [e])
    have hx : c ∉ x := fun m => h (by simp [m])
    rw [List.cons_append, splitL, splitL_app c t x hx]
    simp [ha]
theorem splitL_join (c : UInt8) : ∀ ls : List (List UInt8), ls ≠ [] → (∀ x ∈ ls, c ∉ x) → splitL c (join ls [c]) = ls
  | [], h, _ => absurd rfl h
  | [x], _, h => by rw [join_one]; exact splitL_none c x (h x (by simp))
  | x :: y :: t, _, h => by
    rw [join_cons2 c x _ (by simp), splitL_app c _ x (h x (by simp)), splitL_join c (y :: t) (by simp) (fun z hz => h z (by simp [hz]))]

/-- No two colons side by side, none at the end. -/
def Clean : List UInt8 → Prop
  | [] => True
  | [a] => a ≠ 58
  | a :: b :: r => (a = 58 → b ≠ 58) ∧ Clean (b :: r)
theorem cc_pre (a b : UInt8) (r : List UInt8) : ([58, 58] : List UInt8).isPrefixOf (a :: b :: r) = true ↔ a = 58 ∧ b = 58 := by
  simp [List.isPrefixOf]
  constructor
  · rintro ⟨h1, h2⟩; exact ⟨h1.symm, h2.symm⟩
  · rintro ⟨h1, h2⟩; exact ⟨h1.symm, h2.symm⟩
theorem index_clean : ∀ l : List UInt8, Clean l → index l [58, 58] = -1
  | [], _ => by simp [index]
  | [a], h => by simp [index, List.isPrefixOf]
  | a :: b :: r, h => by
    have hn : ¬ ([58, 58] : List UInt8).isPrefixOf (a :: b :: r) = true := fun e => by
      obtain ⟨e1, e2⟩ := (cc_pre a b r).1 e
      exact h.1 e1 e2
    rw [index, if_neg hn, index_clean (b :: r) h.2]
    rfl
theorem index_pair (t : List UInt8) : ∀ l : List UInt8, Clean l → index (l ++ 58 :: 58 :: t) [58, 58] = (l.length : Int)
  | [], _ => by
    rw [List.nil_append, index, if_pos (by simp [List.isPrefixOf])]; rfl
  | [a], h => by
    have hn : ¬ ([58, 58] : List UInt8).isPrefixOf (a :: 58 :: 58 :: t) = true := fun e => h ((cc_pre _ _ _).1 e).1
    have h0 : index (58 :: 58 :: t) [58, 58] = 0 := by rw [index, if_pos (by simp [List.isPrefixOf])]
    show index (a :: 58 :: 58 :: t) [58, 58] = _
    rw [index, if_neg hn, h0]
    rfl
  | a :: b :: r, h => by
    have hn : ¬ ([58, 58] : List UInt8).isPrefixOf (a :: b :: (r ++ 58 :: 58 :: t)) = true := fun e => by
      obtain ⟨e1, e2⟩ := (cc_pre a b _).1 e
      exact h.1 e1 e2
    have ih := index_pair t (b :: r) h.2
    show index (a :: b :: (r ++ 58 :: 58 :: t)) [58, 58] = _
    have ih' : index (b :: (r ++ 58 :: 58 :: t)) [58, 58] = ((b :: r).length : Int) := ih
    rw [index, if_neg hn, ih']
    have hne : (((b :: r).length : Int) == -1) = false := by simp; omega
    rw [hne]
    simp
theorem clean_nocolon : ∀ x : List UInt8, (58 : UInt8) ∉ x → Clean x
  | [], _ => trivial
  | [a], h => fun e => h (by simp [e])
  | a :: b :: r, h => ⟨fun e => absurd e (fun e => h (by simp [e])), clean_nocolon (b :: r) (fun m => h (List.mem_cons_of_mem _ m))⟩
theorem clean_app (c : UInt8) (t : List UInt8) (hc : c ≠ 58) (ht : Clean (c :: t)) : ∀ x : List UInt8, x ≠ [] → (58 : UInt8) ∉ x → Clean (x ++ 58 :: c :: t)
  | [], h, _ => absurd rfl h
  | [a], _, h => ⟨fun e => absurd e (fun e => h (by simp [e])), ⟨fun _ => hc, ht⟩⟩
  | a :: b :: r, _, h => ⟨fun e => absurd e (fun e => h (by simp [e])), clean_app c t hc ht (b :: r) (by simp) (fun m => h (List.mem_cons_of_mem _ m))⟩
theorem clean_join : ∀ ls : List (List UInt8), (∀ x ∈ ls, x ≠ [] ∧ (58 : UInt8) ∉ x) → Clean (join ls [58]) ∧ (ls ≠ [] → ∃ c t, join ls [58] = c :: t ∧ c ≠ 58)
  | [], _ => ⟨trivial, fun h => absurd rfl h⟩
  | [x], h => by
    rw [join_one]
    obtain ⟨h1, h2⟩ := h x (by simp)
    refine ⟨clean_nocolon x h2, fun _ => ?_⟩
    cases x with
    | nil => exact absurd rfl h1
    | cons a r => exact ⟨a, r, rfl, fun e => h2 (by simp [e])⟩
  | x :: y :: t, h => by
    obtain ⟨h1, h2⟩ := h x (by simp)
    obtain ⟨ih1, ih2⟩ := clean_join (y :: t) (fun z hz => h z (List.mem_cons_of_mem _ hz))
    obtain ⟨c, r, e, hc⟩ := ih2 (by simp)
    rw [join_cons2 58 x _ (by simp), e]
    rw [e] at ih1
    refine ⟨clean_app c r hc ih1 x h1 h2, fun _ => ?_⟩
    cases x with
    | nil => exact absurd rfl h1
    | cons a z => exact ⟨a, z ++ 58 :: c :: r, rfl, fun e => h2 (by simp [e])⟩

theorem hexval_digit (d : Nat) (h : d < 16) : hexval (hexdigit d) = some d := by
  have : ∀ d : Fin 16, hexval (hexdigit d.val) = some d.val := by decide
  exact this ⟨d, h⟩
theorem hexdigit_chars (d : Nat) (h : d < 16) : (48 ≤ (hexdigit d).toNat ∧ (hexdigit d).toNat ≤ 57) ∨ (97 ≤ (hexdigit d).toNat ∧ (hexdigit d).toNat ≤ 102) := by
  have : ∀ d : Fin 16, (48 ≤ (hexdigit d.val).toNat ∧ (hexdigit d.val).toNat ≤ 57) ∨ (97 ≤ (hexdigit d.val).toNat ∧ (hexdigit d.val).toNat ≤ 102) := by decide
  exact this ⟨d, h⟩
theorem parse16_app : ∀ (l m : List UInt8) (a : Nat), parse16 a (l ++ m) = (parse16 a l).bind fun b => parse16 b m
  | [], m, a => rfl
  | c :: l, m, a => by
    rw [List.cons_append, parse16, parse16]
    cases hexval c with
    | none => rfl
    | some d =>
      simp only
      split
      · rfl
      · exact parse16_app l m _
theorem parse16_hex (u : Nat) (h : u ≤ 65535) : parse16 0 (hexDigits u) = some u := by
  induction u using Nat.strongRecOn with
  | ind u ih =>
    rw [hexDigits]
    split
    · rename_i hu
      rw [parse16, hexval_digit u hu]
      simp only
      rw [if_neg (by omega), parse16]; congr 1; omega
    · rename_i hu
      rw [parse16_app, ih (u / 16) (by omega) (by omega), Option.bind_some, parse16, hexval_digit (u % 16) (by omega)]
      simp only
      rw [if_neg (by omega), parse16]; congr 1; omega
theorem hexDigits_len (u : Nat) (h : u ≤ 65535) : 1 ≤ (hexDigits u).length ∧ (hexDigits u).length ≤ 4 := by
  have a1 : ∀ u, u < 16 → (hexDigits u).length = 1 := fun u h => by rw [hexDigits, dif_pos h]; rfl
  have a2 : ∀ u, u < 256 → 1 ≤ (hexDigits u).length ∧ (hexDigits u).length ≤ 2 := fun u h => by
    rw [hexDigits]; split
    · exact ⟨by simp, by simp⟩
    · have := a1 (u / 16) (by omega); simp [this]
  have a3 : ∀ u, u < 4096 → 1 ≤ (hexDigits u).length ∧ (hexDigits u).length ≤ 3 := fun u h => by
    rw [hexDigits]; split
    · exact ⟨by simp, by simp⟩
    · have := a2 (u / 16) (by omega); simp; omega
  rw [hexDigits]; split
  · exact ⟨by simp, by simp⟩
  · have := a3 (u / 16) (by omega); simp; omega
theorem hexDigits_chars (u : Nat) : ∀ c ∈ hexDigits u, (48 ≤ c.toNat ∧ c.toNat ≤ 57) ∨ (97 ≤ c.toNat ∧ c.toNat ≤ 102) := by
  induction u using Nat.strongRecOn with
  | ind u ih =>
    intro c hc
    rw [hexDigits] at hc
    split at hc
    · rename_i hu
      simp at hc; subst hc; exact hexdigit_chars u hu
    · rename_i hu
      rw [List.mem_append] at hc
      rcases hc with hc | hc
      · exact ih (u / 16) (by omega) c hc
      · simp at hc; subst hc; exact hexdigit_chars _ (by omega)
theorem hexDigits_word (u : Nat) (h : u ≤ 65535) : hexDigits u ≠ [] ∧ (58 : UInt8) ∉ hexDigits u := by
  refine ⟨fun e => ?_, fun m => ?_⟩
  · have := (hexDigits_len u h).1; rw [e] at this; simp at this
  · have := hexDigits_chars u 58 m
    simp at this
end Go.Proofs.YtmegbllhidkmoaaDoor.Tx

/- The plain law of TextDots: an address of 32 bits, a number and bytes are read from their own text alone. -/
namespace Go.Proofs.YtmegbllhidkmoaaDoor.Tx
open Go.RowKit Go.Lib Go.Proofs.YtmegbllhidkmoaaDoorW.PrintWords Go.Proofs.YtmegbllhidkmoaaDoorW.PrintLast Go.Proofs.YtmegbllhidkmoaaDoorW.PrintMore Go.Proofs.YtmegbllhidkmoaaDoor.Plain
set_option linter.unusedVariables false

theorem gn (p : ByteArray) (h : p.size ≤ 281474976710656) : ∃ (v : Int) (ok : Bool), text_GetNum.f p = some (v, ok) ∧ (ok = true → ∃ u : Nat, v = u ∧ u ≤ 4611686018427387904 ∧ decDigits u = p.data.toList) ∧ (ok = false → v = 0) := by
  unfold text_GetNum.f
  rw [if_pos h]
  cases hp : parseUintB 64 p.data.toList with
  | ok u =>
    by_cases hc : u ≤ 4611686018427387904 ∧ decDigits u = p.data.toList
    · exact ⟨u, true, by simp only [if_pos hc], fun _ => ⟨u, rfl, hc.1, hc.2⟩, fun h => by cases h⟩
    · exact ⟨0, false, by simp only [if_neg hc], fun h => by (cases h), fun _ => rfl⟩
  | range => exact ⟨0, false, rfl, fun h => by (cases h), fun _ => rfl⟩
  | _ => exact ⟨0, false, rfl, fun h => by (cases h), fun _ => rfl⟩

theorem get4_step (k : Nat) (x i : Int) (ps : List ByteArray) (p : ByteArray) (v : Int) (ok : Bool) (h0 : 0 ≤ i) (h1 : i < (ps.length : Int)) (hp : rdOf ByteArray.empty ps i = p) (hg : text_GetNum.f p = some (v, ok)) :
    text_Get4.l0 (k + 1) x ps (ps.length : Int) i = if ok = true then (if v > 255 then some (0, false) else text_Get4.l0 k (Go.bits .or .u32 ((x * 256) % 4294967296) (v % 4294967296)) ps (ps.length : Int) (wrap64 (i + 1))) else some (0, false) := by
  rw [text_Get4.l0, if_pos h1, if_pos h0, if_pos h1, hp, hg, Option.bind_some]

theorem dotted (s : ByteArray) (h : s.size ≤ 65536) : ∃ (n : Int) (ok : Bool), text_Get4.f 8 s = some (n, ok) ∧ (ok = false → n = 0) ∧
    (ok = true → ∃ a b c d : Nat, a ≤ 255 ∧ b ≤ 255 ∧ c ≤ 255 ∧ d ≤ 255 ∧ n = (((a : Int) * 256 + b) * 256 + c) * 256 + d ∧ s.data.toList = join [decDigits a, decDigits b, decDigits c, decDigits d] [46]) := by
  have hsp : strings_Split.f s ⟨#[46]⟩ = some (splitB ⟨#[46]⟩ 0 (countB s ⟨#[46]⟩) s) := by
    unfold strings_Split.f; rw [if_pos ⟨by omega, by decide⟩]
  have hj : join ((splitB ⟨#[46]⟩ 0 (countB s ⟨#[46]⟩) s).map (·.data.toList)) [46] = s.data.toList := by
    rw [splitB_splitL]; exact join_splitL 46 _
  have hsz : ∀ p ∈ splitB ⟨#[46]⟩ 0 (countB s ⟨#[46]⟩) s, p.size ≤ 281474976710656 := fun p hp => by
    have := split_sizes _ _ _ _ hp; omega
  unfold text_Get4.f
  rw [hsp, Option.bind_some]
  generalize splitB ⟨#[46]⟩ 0 (countB s ⟨#[46]⟩) s = ps at *
  by_cases hl : (ps.length : Int) = 4
  · rw [if_pos hl]
    match ps, hl, hj, hsz with
    | [p0, p1, p2, p3], _, hj, hsz =>
      obtain ⟨v0, o0, g0, t0, f0⟩ := gn p0 (hsz _ (by simp))
      obtain ⟨v1, o1, g1, t1, f1⟩ := gn p1 (hsz _ (by simp))
      obtain ⟨v2, o2, g2, t2, f2⟩ := gn p2 (hsz _ (by simp))
      obtain ⟨v3, o3, g3, t3, f3⟩ := gn p3 (hsz _ (by simp))
      have bad : ∃ (n : Int) (ok : Bool), (some ((0 : Int), false)) = some (n, ok) ∧ (ok = false → n = 0) ∧
          (ok = true → ∃ a b c d : Nat, a ≤ 255 ∧ b ≤ 255 ∧ c ≤ 255 ∧ d ≤ 255 ∧ n = (((a : Int) * 256 + b) * 256 + c) * 256 + d ∧ s.data.toList = join [decDigits a, decDigits b, decDigits c, decDigits d] [46]) := ⟨0, false, rfl, fun _ => rfl, fun h => by cases h⟩
      rw [get4_step 7 0 0 [p0, p1, p2, p3] p0 v0 o0 (by decide) (by simp) rfl g0]
      cases o0 with
      | false => exact bad
      | true =>
      obtain ⟨a, rfl, ha, da⟩ := t0 rfl
      rw [if_pos rfl]
      by_cases ha2 : (a : Int) > 255
      · rw [if_pos ha2]; exact bad
      rw [if_neg ha2, u32_join 0 a (by decide) (by decide) (by omega) (by omega), show wrap64 (0 + 1) = 1 by unfold wrap64; omega]
      rw [get4_step 6 _ 1 [p0, p1, p2, p3] p1 v1 o1 (by decide) (by simp) rfl g1]
      cases o1 with
      | false => exact bad
      | true =>
      obtain ⟨b, rfl, hb, db⟩ := t1 rfl
      rw [if_pos rfl]
      by_cases hb2 : (b : Int) > 255
      · rw [if_pos hb2]; exact bad
      rw [if_neg hb2, u32_join _ b (by omega) (by omega) (by omega) (by omega), show wrap64 (1 + 1) = 2 by unfold wrap64; omega]
      rw [get4_step 5 _ 2 [p0, p1, p2, p3] p2 v2 o2 (by decide) (by simp) rfl g2]
      cases o2 with
      | false => exact bad
      | true =>
      obtain ⟨c, rfl, hc, dc⟩ := t2 rfl
      rw [if_pos rfl]
      by_cases hc2 : (c : Int) > 255
      · rw [if_pos hc2]; exact bad
      rw [if_neg hc2, u32_join _ c (by omega) (by omega) (by omega) (by omega), show wrap64 (2 + 1) = 3 by unfold wrap64; omega]
      rw [get4_step 4 _ 3 [p0, p1, p2, p3] p3 v3 o3 (by decide) (by simp) rfl g3]
      cases o3 with
      | false => exact bad
      | true =>
      obtain ⟨d, rfl, hd, dd⟩ := t3 rfl
      rw [if_pos rfl]
      by_cases hd2 : (d : Int) > 255
      · rw [if_pos hd2]; exact bad
      rw [if_neg hd2, u32_join _ d (by omega) (by omega) (by omega) (by omega), show wrap64 (3 + 1) = 4 by unfold wrap64; omega]
      rw [text_Get4.l0, if_neg (by simp)]
      refine ⟨_, true, rfl, fun h => by (cases h), fun _ => ⟨a, b, c, d, by omega, by omega, by omega, by omega, by omega, ?_⟩⟩
      rw [← hj]
      simp only [List.map_cons, List.map_nil, ← da, ← db, ← dc, ← dd]
  · rw [if_neg hl]
    exact ⟨0, false, rfl, fun _ => rfl, fun h => by cases h⟩

theorem itoa_small (a : Nat) (h : a ≤ 4611686018427387904) : strconv_Itoa.f (a : Int) = some ⟨(decDigits a).toArray⟩ := by
  unfold strconv_Itoa.f
  rw [if_pos ⟨by omega, by omega⟩, itoa_nonneg]
theorem put4_step (k : Nat) (n i : Int) (xs : List ByteArray) (sh : Int) (a : Nat) (h0 : 0 ≤ i) (h1 : i < 4) (hl : xs.length = 4) (hs : wrap64 (24 - (wrap64 (8 * i))) = sh) (hsh : 0 ≤ sh) (ha : a ≤ 255) (hb : bits .and .u32 (shr .u32 n sh) 255 = (a : Int)) :
    text_Put4.l0 (k + 1) n xs 4 i = text_Put4.l0 k n (xs.set i.toNat ⟨(decDigits a).toArray⟩) 4 (wrap64 (i + 1)) := by
  rw [text_Put4.l0, if_pos h1, hs, if_pos hsh, hb]
  rw [show wrap64 (a : Int) = (a : Int) by unfold wrap64; omega, itoa_small a (by omega), Option.bind_some, if_pos h0, if_pos (by rw [hl]; exact h1)]
theorem shr_at (n : Int) (j : Nat) (hj : j ≤ 32) (sh : Int) (e : sh = (j : Int)) : shr .u32 n sh = n / 2 ^ j := by
  subst e
  unfold shr
  rw [Int.toNat_natCast, Nat.min_eq_left (by simpa [IntKind.bits] using hj)]
theorem put4 (a b c d : Nat) (ha : a ≤ 255) (hb : b ≤ 255) (hc : c ≤ 255) (hd : d ≤ 255) (n : Int) (hn : n = (((a : Int) * 256 + b) * 256 + c) * 256 + d) :
    text_Put4.f 8 n = some ⟨(join [decDigits a, decDigits b, decDigits c, decDigits d] [46]).toArray⟩ := by
  unfold text_Put4.f
  rw [if_pos (by decide), Option.bind_some]
  have w0 : wrap64 (24 - (wrap64 (8 * 0))) = 24 := by unfold wrap64; omega
  have w1 : wrap64 (24 - (wrap64 (8 * 1))) = 16 := by unfold wrap64; omega
  have w2 : wrap64 (24 - (wrap64 (8 * 2))) = 8 := by unfold wrap64; omega
  have w3 : wrap64 (24 - (wrap64 (8 * 3))) = 0 := by unfold wrap64; omega
  have e0 : bits .and .u32 (shr .u32 n 24) 255 = (a : Int) := by rw [shr_at n 24 (by decide) 24 rfl, u32_and255 _ (by omega) (by omega)]; omega
  have e1 : bits .and .u32 (shr .u32 n 16) 255 = (b : Int) := by rw [shr_at n 16 (by decide) 16 rfl, u32_and255 _ (by omega) (by omega)]; omega
  have e2 : bits .and .u32 (shr .u32 n 8) 255 = (c : Int) := by rw [shr_at n 8 (by decide) 8 rfl, u32_and255 _ (by omega) (by omega)]; omega
  have e3 : bits .and .u32 (shr .u32 n 0) 255 = (d : Int) := by rw [shr_at n 0 (by decide) 0 rfl, u32_and255 _ (by omega) (by omega)]; omega
  show text_Put4.l0 8 n [⟨#[]⟩, ⟨#[]⟩, ⟨#[]⟩, ⟨#[]⟩] 4 0 = _
  rw [put4_step 7 n 0 _ 24 a (by decide) (by decide) rfl w0 (by decide) ha e0]
  rw [show wrap64 (0 + 1) = 1 by unfold wrap64; omega]
  rw [put4_step 6 n 1 _ 16 b (by decide) (by decide) rfl w1 (by decide) hb e1]
  rw [show wrap64 (1 + 1) = 2 by unfold wrap64; omega]
  rw [put4_step 5 n 2 _ 8 c (by decide) (by decide) rfl w2 (by decide) hc e2]
  rw [show wrap64 (2 + 1) = 3 by unfold wrap64; omega]
  rw [put4_step 4 n 3 _ 0 d (by decide) (by decide) rfl w3 (by decide) hd e3]
  rw [show wrap64 (3 + 1) = 4 by unfold wrap64; omega]
  show text_Put4.l0 4 n [⟨(decDigits a).toArray⟩, ⟨(decDigits b).toArray⟩, ⟨(decDigits c).toArray⟩, ⟨(decDigits d).toArray⟩] 4 4 = _
  rw [text_Put4.l0, if_neg (by decide)]
  have hlen : ∀ x, x ≤ 255 → (decDigits x).length ≤ 21 := fun x hx => by
    have := itoa_length_le (x : Int) (by omega) (by omega)
    rwa [itoa_nonneg] at this
  have hj : strings_Join.f [⟨(decDigits a).toArray⟩, ⟨(decDigits b).toArray⟩, ⟨(decDigits c).toArray⟩, ⟨(decDigits d).toArray⟩] ⟨#[46]⟩ = some ⟨(join [decDigits a, decDigits b, decDigits c, decDigits d] [46]).toArray⟩ := by
    unfold strings_Join.f
    have e : ([⟨(decDigits a).toArray⟩, ⟨(decDigits b).toArray⟩, ⟨(decDigits c).toArray⟩, ⟨(decDigits d).toArray⟩] : List ByteArray).map (·.data.toList) = [decDigits a, decDigits b, decDigits c, decDigits d] := by simp
    rw [e, show (⟨#[46]⟩ : ByteArray).data.toList = [46] from rfl, if_pos]
    refine ⟨by simp, ?_⟩
    rw [join_cons2 _ _ _ (by simp), join_cons2 _ _ _ (by simp), join_cons2 _ _ _ (by simp), join_one]
    have := hlen a ha; have := hlen b hb; have := hlen c hc; have := hlen d hd
    simp only [List.length_append, List.length_cons]
    omega
  rw [hj]; rfl

theorem lowval_hex (c : UInt8) (d : Nat) (h : lowval c = some d) : hexdigit d = c := by
  unfold lowval at h
  unfold hexdigit
  split at h
  · injection h with h
    subst h
    rw [if_pos (by omega)]
    rw [show 48 + (c.toNat - 48) = c.toNat by omega]
    simp
  · split at h
    · injection h with h
      subst h
      rw [if_neg (by omega)]
      rw [show 87 + (c.toNat - 87) = c.toNat by omega]
      simp
    · cases h
theorem hex_back (s : ByteArray) (he : s.size % 2 = 0) (h : unhexOk s = true) : hexOf (unhexBytes s) = s.data.toList := by
  have hl : s.data.toList.length = s.size := by rw [Array.length_toList]; rfl
  have hall : ∀ i, i < s.size → ∃ d, lowval (s.data.toList.getD i 0) = some d := by
    intro i hi
    unfold unhexOk at h
    rw [List.all_eq_true] at h
    have hi2 : i < s.data.toList.length := by omega
    have := h _ (List.getElem_mem hi2)
    rw [List.getD, List.getElem?_eq_getElem hi2]
    exact Option.isSome_iff_exists.1 this
  have hnib : ∀ i, i < s.size → hexdigit (nib s i) = s.data.toList.getD i 0 := by
    intro i hi
    obtain ⟨d, hd⟩ := hall i hi
    have : nib s i = d := by unfold nib hv; rw [hd]; rfl
    rw [this]
    exact lowval_hex _ _ hd
  have pairs : ∀ n, 2 * n ≤ s.data.toList.length → ((List.range n).flatMap fun k => [s.data.toList.getD (2 * k) 0, s.data.toList.getD (2 * k + 1) 0]) = s.data.toList.take (2 * n) := by
    intro n
    induction n with
    | zero => intro _; simp
    | succ n ih =>
      intro hn
      rw [List.range_succ, List.flatMap_append, ih (by omega)]
      have e1 : 2 * (n + 1) = 2 * n + 1 + 1 := by omega
      rw [e1, List.take_succ_eq_append_getElem (by omega), List.take_succ_eq_append_getElem (by omega)]
      have g1 : s.data.toList.getD (2 * n) 0 = s.data.toList[2 * n]'(by omega) := by rw [List.getD, List.getElem?_eq_getElem (show 2 * n < s.data.toList.length by omega)]; rfl
      have g2 : s.data.toList.getD (2 * n + 1) 0 = s.data.toList[2 * n + 1]'(by omega) := by rw [List.getD, List.getElem?_eq_getElem (show 2 * n + 1 < s.data.toList.length by omega)]; rfl
      rw [List.append_assoc]
      simp only [List.flatMap_cons, List.flatMap_nil, List.append_nil, g1, g2, List.cons_append, List.nil_append]
  have hp := pairs (s.size / 2) (by omega)
  rw [show 2 * (s.size / 2) = s.size by omega, ← hl, List.take_length] at hp
  rw [← hp]
  unfold hexOf unhexBytes
  rw [List.flatMap_map, hl]
  have congr : ∀ (l : List Nat) (f g : Nat → List UInt8), (∀ k ∈ l, f k = g k) → l.flatMap f = l.flatMap g := by
    intro l f g h
    induction l with
    | nil => rfl
    | cons x l ih => rw [List.flatMap_cons, List.flatMap_cons, h x (by simp), ih fun k hk => h k (by simp [hk])]
  apply congr
  intro k hk
  have hk2 : k < s.size / 2 := List.mem_range.1 hk
  have h1 := nib_lt s (2 * k)
  have h2 := nib_lt s (2 * k + 1)
  have e : ((nib s (2 * k) * 16 + nib s (2 * k + 1)).toUInt8).toNat = nib s (2 * k) * 16 + nib s (2 * k + 1) := by
    simp [Nat.toUInt8, UInt8.toNat_ofNat']
    omega
  rw [e, show (nib s (2 * k) * 16 + nib s (2 * k + 1)) / 16 = nib s (2 * k) by omega, show (nib s (2 * k) * 16 + nib s (2 * k + 1)) % 16 = nib s (2 * k + 1) by omega, hnib _ (by omega), hnib _ (by omega)]

end Go.Proofs.YtmegbllhidkmoaaDoor.Tx

/- The plain laws of Put6 and Get6: what is written is read again. -/
namespace Go.Proofs.YtmegbllhidkmoaaDoor.Tx
open Go.RowKit Go.Lib Go.Proofs.YtmegbllhidkmoaaDoorW.PrintWords Go.Proofs.YtmegbllhidkmoaaDoorW.PrintLast Go.Proofs.YtmegbllhidkmoaaDoorW.PrintMore Go.Proofs.YtmegbllhidkmoaaDoor.Plain
set_option linter.unusedVariables false

theorem wraps_u64 (n : Int) (h₀ : 0 ≤ n) (h₁ : n < 2 ^ 64) : IntKind.u64.wrap n = n := by
  simp [IntKind.wrap, IntKind.bits, IntKind.signed]; omega
theorem wrap_u64 (n : Int) : IntKind.u64.wrap n = n % 18446744073709551616 := by simp [IntKind.wrap, IntKind.bits, IntKind.signed]
theorem u64_or (i : Nat) (x y : Int) (hx₀ : 0 ≤ x) (hx : x % 2 ^ i = 0) (hx₁ : x < 18446744073709551616) (hy₀ : 0 ≤ y) (hy : y < 2 ^ i) (hi : i ≤ 64) : Go.bits .or .u64 x y = x + y :=
  bits_join .u64 64 (by decide) wraps_u64 i x y hx₀ hx (by omega) hy₀ hy (by
    have : (2 : Int) ^ i ≤ 2 ^ 64 := by exact_mod_cast Nat.pow_le_pow_right (by decide) hi
    omega)
theorem u64_or_comm (x y : Int) (hx₀ : 0 ≤ x) (hx₁ : x < 18446744073709551616) (hy₀ : 0 ≤ y) (hy : y < 18446744073709551616) : Go.bits .or .u64 x y = Go.bits .or .u64 y x := by
  obtain ⟨a, rfl⟩ := Int.eq_ofNat_of_zero_le hx₀
  obtain ⟨b, rfl⟩ := Int.eq_ofNat_of_zero_le hy₀
  rw [(bits_nat .u64 64 (by decide) wraps_u64 a b (by omega) (by omega)).2, (bits_nat .u64 64 (by decide) wraps_u64 b a (by omega) (by omega)).2, Nat.or_comm]
theorem u64_and16 (x : Int) (h0 : 0 ≤ x) (h1 : x < 18446744073709551616) : Go.bits .and .u64 x 65535 = x % 65536 :=
  bits_mask .u64 64 (by decide) wraps_u64 16 (by decide) x h0 (by omega)
theorem shr64 (n : Int) (j : Nat) (hj : j ≤ 64) (sh : Int) (e : sh = (j : Int)) : shr .u64 n sh = n / 2 ^ j := by
  subst e
  unfold shr
  rw [Int.toNat_natCast, Nat.min_eq_left (by simpa [IntKind.bits] using hj)]
theorem shl64 (n : Int) (j : Nat) (hj : j ≤ 64) (sh : Int) (e : sh = (j : Int)) : shl .u64 n sh = (n * 2 ^ j) % 18446744073709551616 := by
  subst e
  unfold shl
  rw [Int.toNat_natCast, Nat.min_eq_left (by simpa [IntKind.bits] using hj), wrap_u64]

/-- The group i of an address. -/
def grp (hi lo : Int) : Nat → Nat
  | 0 => (hi / 281474976710656 % 65536).toNat
  | 1 => (hi / 4294967296 % 65536).toNat
  | 2 => (hi / 65536 % 65536).toNat
  | 3 => (hi % 65536).toNat
  | 4 => (lo / 281474976710656 % 65536).toNat
  | 5 => (lo / 4294967296 % 65536).toNat
  | 6 => (lo / 65536 % 65536).toNat
  | _ => (lo % 65536).toNat
theorem grp_le (hi lo : Int) (i : Nat) : grp hi lo i ≤ 65535 := by
  unfold grp
  split <;> omega

theorem down_far (hi lo s : Int) (j : Nat) (hs : 64 ≤ s) (hj : s = 64 + (j : Int)) (h64 : j ≤ 64) : addr_Down.f hi lo s = some (0, hi / 2 ^ j) := by
  have e : wrap64 (s - 64) = (j : Int) := by unfold wrap64; omega
  unfold addr_Down.f
  rw [if_neg (by omega), if_pos hs, e, if_pos (by omega), shr64 hi j h64 _ rfl]
theorem down_near (hi lo s : Int) (j : Nat) (hj : s = (j : Int)) (h0 : 0 < j) (h64 : j < 64) :
    addr_Down.f hi lo s = some (hi / 2 ^ j, Go.bits .or .u64 (lo / 2 ^ j) ((hi * 2 ^ (64 - j)) % 18446744073709551616)) := by
  have e : wrap64 (64 - s) = ((64 - j : Nat) : Int) := by unfold wrap64; omega
  unfold addr_Down.f
  rw [if_neg (by omega), if_neg (by omega), if_pos (by omega), e, if_pos (by omega), shr64 hi j (by omega) s hj, shr64 lo j (by omega) s hj, shl64 hi (64 - j) (by omega) _ rfl]
theorem group_at (hi lo : Int) (h0 : 0 ≤ hi) (h1 : hi < 18446744073709551616) (h2 : 0 ≤ lo) (h3 : lo < 18446744073709551616) :
    ∀ i : Nat, i < 8 → text_group.f hi lo (i : Int) = some (grp hi lo i : Int)
  | 0, _ => by
    unfold text_group.f
    rw [show wrap64 (112 - wrap64 (16 * ((0 : Nat) : Int))) = 112 from by unfold wrap64; omega, down_far hi lo 112 48 (by omega) (by omega) (by omega), Option.bind_some]
    simp only [grp]
    rw [u64_and16 _ (by omega) (by omega)]; congr 1; omega
  | 1, _ => by
    unfold text_group.f
    rw [show wrap64 (112 - wrap64 (16 * ((1 : Nat) : Int))) = 96 from by unfold wrap64; omega, down_far hi lo 96 32 (by omega) (by omega) (by omega), Option.bind_some]
    simp only [grp]
    rw [u64_and16 _ (by omega) (by omega)]; congr 1; omega
  | 2, _ => by
    unfold text_group.f
    rw [show wrap64 (112 - wrap64 (16 * ((2 : Nat) : Int))) = 80 from by unfold wrap64; omega, down_far hi lo 80 16 (by omega) (by omega) (by omega), Option.bind_some]
    simp only [grp]
    rw [u64_and16 _ (by omega) (by omega)]; congr 1; omega
  | 3, _ => by
    unfold text_group.f
    rw [show wrap64 (112 - wrap64 (16 * ((3 : Nat) : Int))) = 64 from by unfold wrap64; omega, down_far hi lo 64 0 (by omega) (by omega) (by omega), Option.bind_some]
    simp only [grp]
    rw [u64_and16 _ (by omega) (by omega)]; congr 1; omega
  | 4, _ => by
    unfold text_group.f
    rw [show wrap64 (112 - wrap64 (16 * ((4 : Nat) : Int))) = 48 from by unfold wrap64; omega, down_near hi lo 48 48 (by omega) (by omega) (by omega), Option.bind_some]
    simp only [grp]
    rw [u64_or_comm _ _ (by omega) (by omega) (by omega) (by omega), u64_or 16 _ _ (by omega) (by omega) (by omega) (by omega) (by omega) (by omega), u64_and16 _ (by omega) (by omega)]; congr 1; omega
  | 5, _ => by
    unfold text_group.f
    rw [show wrap64 (112 - wrap64 (16 * ((5 : Nat) : Int))) = 32 from by unfold wrap64; omega, down_near hi lo 32 32 (by omega) (by omega) (by omega), Option.bind_some]
    simp only [grp]
    rw [u64_or_comm _ _ (by omega) (by omega) (by omega) (by omega), u64_or 32 _ _ (by omega) (by omega) (by omega) (by omega) (by omega) (by omega), u64_and16 _ (by omega) (by omega)]; congr 1; omega
  | 6, _ => by
    unfold text_group.f
    rw [show wrap64 (112 - wrap64 (16 * ((6 : Nat) : Int))) = 16 from by unfold wrap64; omega, down_near hi lo 16 16 (by omega) (by omega) (by omega), Option.bind_some]
    simp only [grp]
    rw [u64_or_comm _ _ (by omega) (by omega) (by omega) (by omega), u64_or 48 _ _ (by omega) (by omega) (by omega) (by omega) (by omega) (by omega), u64_and16 _ (by omega) (by omega)]; congr 1; omega
  | 7, _ => by
    unfold text_group.f
    rw [show wrap64 (112 - wrap64 (16 * ((7 : Nat) : Int))) = 0 from by unfold wrap64; omega]
    unfold addr_Down.f
    rw [if_pos (by omega), Option.bind_some]
    simp only [grp]
    rw [u64_and16 _ (by omega) (by omega)]; congr 1; omega
  | n + 8, h => by omega

theorem wrap64_id (n : Int) (h0 : -9223372036854775808 ≤ n) (h1 : n ≤ 9223372036854775807) : wrap64 n = n := by unfold wrap64; omega

/-- What zeros tells: no row, or a row of at least two groups, all of them 0. -/
def ZInv (hi lo : Int) (i : Nat) (from_ best : Int) : Prop :=
  (from_ = -1 ∧ best = 1) ∨ ∃ a n : Nat, from_ = a ∧ best = n ∧ 2 ≤ n ∧ a + n ≤ i ∧ ∀ j, a ≤ j → j < a + n → grp hi lo j = 0
theorem zeros_go (hi lo : Int) (h0 : 0 ≤ hi) (h1 : hi < 18446744073709551616) (h2 : 0 ≤ lo) (h3 : lo < 18446744073709551616) :
    ∀ (k i : Nat) (from_ best : Int) (run : Nat), i ≤ 8 → 9 - i ≤ k → run ≤ i → (∀ j, i - run ≤ j → j < i → grp hi lo j = 0) → ZInv hi lo i from_ best →
      ∃ f b, text_zeros.l0 k from_ best (run : Int) (i : Int) hi lo = some (f, b) ∧ ZInv hi lo 8 f b
  | 0, i, _, _, _, h, hk, _, _, _ => by omega
  | k + 1, i, from_, best, run, hi8, hk, hr, hz, hI => by
    rw [text_zeros.l0]
    by_cases hlt : i < 8
    · rw [if_pos (by omega), group_at hi lo h0 h1 h2 h3 i hlt, Option.bind_some]
      have hbest : 1 ≤ best := by rcases hI with ⟨_, h⟩ | ⟨a, n, _, h, h', _⟩ <;> omega
      rw [wrap64_id ((i : Int) + 1) (by omega) (by omega), show ((i : Int) + 1) = ((i + 1 : Nat) : Int) by omega]
      by_cases hg : grp hi lo i = 0
      · rw [if_pos (by exact_mod_cast hg), wrap64_id ((run : Int) + 1) (by omega) (by omega), show ((run : Int) + 1) = ((run + 1 : Nat) : Int) by omega]
        have hz' : ∀ j, (i + 1) - (run + 1) ≤ j → j < i + 1 → grp hi lo j = 0 := fun j hj1 hj2 => by
          by_cases e : j = i
          · rw [e]; exact hg
          · exact hz j (by omega) (by omega)
        by_cases hb : ((run + 1 : Nat) : Int) > best
        · rw [if_pos hb]
          have e : wrap64 (wrap64 ((i : Int) - ((run + 1 : Nat) : Int)) + 1) = ((i - run : Nat) : Int) := by rw [wrap64_id ((i : Int) - ((run + 1 : Nat) : Int)) (by omega) (by omega), wrap64_id _ (by omega) (by omega)]; omega
          rw [e]
          refine zeros_go hi lo h0 h1 h2 h3 k (i + 1) _ _ (run + 1) (by omega) (by omega) (by omega) hz' ?_
          exact .inr ⟨i - run, run + 1, rfl, rfl, by omega, by omega, fun j hj1 hj2 => hz' j (by omega) (by omega)⟩
        · rw [if_neg hb]
          refine zeros_go hi lo h0 h1 h2 h3 k (i + 1) _ _ (run + 1) (by omega) (by omega) (by omega) hz' ?_
          rcases hI with h | ⟨a, n, h, h', h'', h3', h4⟩
          · exact .inl h
          · exact .inr ⟨a, n, h, h', h'', by omega, h4⟩
      · rw [if_neg (by exact_mod_cast hg), if_neg (by omega)]
        refine zeros_go hi lo h0 h1 h2 h3 k (i + 1) _ _ 0 (by omega) (by omega) (by omega) (fun j hj1 hj2 => by omega) ?_
        rcases hI with h | ⟨a, n, h, h', h'', h3', h4⟩
        · exact .inl h
        · exact .inr ⟨a, n, h, h', h'', by omega, h4⟩
    · rw [if_neg (by omega)]
      obtain rfl : i = 8 := by omega
      exact ⟨_, _, rfl, hI⟩
theorem zeros_at (hi lo : Int) (h0 : 0 ≤ hi) (h1 : hi < 18446744073709551616) (h2 : 0 ≤ lo) (h3 : lo < 18446744073709551616) (k : Nat) (hk : 9 ≤ k) :
    ∃ f b, text_zeros.f k hi lo = some (f, b) ∧ ZInv hi lo 8 f b :=
  zeros_go hi lo h0 h1 h2 h3 k 0 (-1) 1 0 (by omega) (by omega) (by omega) (fun j h h' => by omega) (.inl ⟨rfl, rfl⟩)

/-- The words of groups from one on up to ahead of another one. -/
def wds (hi lo : Int) (i n : Nat) : List (List UInt8) := (List.range' i n).map fun j => hexDigits (grp hi lo j)
def mkB (l : List UInt8) : ByteArray := ⟨l.toArray⟩
theorem mkB_list (l : List UInt8) : (mkB l).data.toList = l := by simp [mkB]
theorem mkB_size (l : List UInt8) : (mkB l).size = l.length := by simp [mkB, ByteArray.size]
theorem join_len_le (c : UInt8) : ∀ (ls : List (List UInt8)) (m : Nat), (∀ x ∈ ls, x.length ≤ m) → (join ls [c]).length ≤ ls.length * (m + 1)
  | [], _, _ => by simp [join_nil]
  | [x], m, h => by rw [join_one]; have := h x (by simp); simp; omega
  | x :: y :: t, m, h => by
    have h1 := h x (by simp)
    have h2 := join_len_le c (y :: t) m (fun z hz => h z (List.mem_cons_of_mem _ hz))
    rw [join_cons2 c x _ (by simp)]
    simp only [List.length_append, List.length_cons] at h2 ⊢
    have e : (t.length + 1 + 1) * (m + 1) = (t.length + 1) * (m + 1) + (m + 1) := by rw [Nat.add_mul (t.length + 1) 1, Nat.one_mul]
    rw [e]
    omega
theorem wds_len (hi lo : Int) (i n : Nat) : (wds hi lo i n).length = n := by simp [wds]
theorem wds_mem (hi lo : Int) (i n : Nat) : ∀ x ∈ wds hi lo i n, ∃ j, i ≤ j ∧ j < i + n ∧ x = hexDigits (grp hi lo j) := fun x hx => by
  simp only [wds, List.mem_map, List.mem_range'_1] at hx
  obtain ⟨j, ⟨h1, h2⟩, rfl⟩ := hx
  exact ⟨j, h1, h2, rfl⟩
theorem wds_short (hi lo : Int) (i n : Nat) : ∀ x ∈ wds hi lo i n, x.length ≤ 4 := fun x hx => by
  obtain ⟨j, _, _, rfl⟩ := wds_mem hi lo i n x hx
  exact (hexDigits_len _ (grp_le hi lo j)).2
theorem wds_word (hi lo : Int) (i n : Nat) : ∀ x ∈ wds hi lo i n, x ≠ [] ∧ (58 : UInt8) ∉ x := fun x hx => by
  obtain ⟨j, _, _, rfl⟩ := wds_mem hi lo i n x hx
  exact hexDigits_word _ (grp_le hi lo j)
theorem words_go (hi lo : Int) (h0 : 0 ≤ hi) (h1 : hi < 18446744073709551616) (h2 : 0 ≤ lo) (h3 : lo < 18446744073709551616) :
    ∀ (k i n : Nat) (acc : List (List UInt8)), i + n ≤ 8 → n + 1 ≤ k → acc.length + n ≤ 8 → (∀ x ∈ acc, x.length ≤ 4) →
      text_words.l0 k ((i + n : Nat) : Int) (acc.map mkB) (i : Int) hi lo = some (mkB (join (acc ++ wds hi lo i n) [58]))
  | 0, i, n, acc, _, hk, _, _ => by omega
  | k + 1, i, 0, acc, h8, hk, hl, ha => by
    rw [text_words.l0, if_neg (by omega)]
    have e : (acc.map mkB).map (·.data.toList) = acc := by
      rw [List.map_map]
      conv => rhs; rw [← List.map_id acc]
      exact List.map_congr_left fun x _ => mkB_list x
    unfold strings_Join.f
    have hlen := join_len_le 58 acc 4 ha
    rw [show (⟨#[58]⟩ : ByteArray).data.toList = [58] from rfl, e, if_pos ⟨by simp; omega, by omega⟩, Option.bind_some]
    simp [wds, mkB]
  | k + 1, i, n + 1, acc, h8, hk, hl, ha => by
    rw [text_words.l0, if_pos (by omega), group_at hi lo h0 h1 h2 h3 i (by omega), Option.bind_some]
    have hf : strconv_FormatUint.f (grp hi lo i : Int) 16 = some (mkB (hexDigits (grp hi lo i))) := by
      have := grp_le hi lo i
      unfold strconv_FormatUint.f
      rw [if_pos ⟨by omega, by omega⟩, if_neg (by decide), if_pos rfl, Int.toNat_natCast]
      rfl
    rw [hf, Option.bind_some, if_pos (by simp; omega), wrap64_id _ (by omega) (by omega)]
    have hm : acc.map mkB ++ [mkB (hexDigits (grp hi lo i))] = (acc ++ [hexDigits (grp hi lo i)]).map mkB := by simp
    have ih := words_go hi lo h0 h1 h2 h3 k (i + 1) n (acc ++ [hexDigits (grp hi lo i)]) (by omega) (by omega) (by simp; omega) (fun x hx => by
      rw [List.mem_append] at hx
      rcases hx with hx | hx
      · exact ha x hx
      · simp at hx; subst hx; exact (hexDigits_len _ (grp_le hi lo i)).2)
    rw [hm, show ((i : Int) + 1) = ((i + 1 : Nat) : Int) by omega, show ((i + (n + 1) : Nat) : Int) = ((i + 1 + n : Nat) : Int) by omega, ih]
    congr 3
    simp [wds, List.range'_succ]
theorem words_at (hi lo : Int) (h0 : 0 ≤ hi) (h1 : hi < 18446744073709551616) (h2 : 0 ≤ lo) (h3 : lo < 18446744073709551616) (k i n : Nat) (h8 : i + n ≤ 8) (hk : 9 ≤ k) (x y : Int) (hx : x = i) (hy : y = ((i + n : Nat) : Int)) :
    text_words.f k hi lo x y = some (mkB (join (wds hi lo i n) [58])) := by
  subst hx hy
  exact words_go hi lo h0 h1 h2 h3 k i n [] h8 (by omega) (by simp; omega) (fun x hx => by cases hx)

/-- The two forms that Put6 writes. -/
def Form (hi lo : Int) (l : List UInt8) : Prop :=
  l = join (wds hi lo 0 8) [58] ∨ ∃ a n : Nat, 2 ≤ n ∧ a + n ≤ 8 ∧ (∀ j, a ≤ j → j < a + n → grp hi lo j = 0) ∧ l = join (wds hi lo 0 a) [58] ++ 58 :: 58 :: join (wds hi lo (a + n) (8 - a - n)) [58]
theorem put6_at (hi lo : Int) (h0 : 0 ≤ hi) (h1 : hi < 18446744073709551616) (h2 : 0 ≤ lo) (h3 : lo < 18446744073709551616) (k : Nat) (hk : 9 ≤ k) :
    ∃ l, text_Put6.f k hi lo = some (mkB l) ∧ Form hi lo l := by
  obtain ⟨f, b, e, hz⟩ := zeros_at hi lo h0 h1 h2 h3 k hk
  unfold text_Put6.f
  rw [e, Option.bind_some]
  rcases hz with ⟨rfl, rfl⟩ | ⟨a, n, rfl, rfl, hn, han, hg⟩
  · rw [if_pos (by decide), words_at hi lo h0 h1 h2 h3 k 0 8 (by omega) hk 0 8 rfl rfl, Option.bind_some]
    exact ⟨_, rfl, .inl rfl⟩
  · simp only
    rw [if_neg (by omega), words_at hi lo h0 h1 h2 h3 k 0 a (by omega) hk 0 (a : Int) rfl (by omega), Option.bind_some, mkB_size]
    have l1 := join_len_le 58 (wds hi lo 0 a) 4 (wds_short hi lo 0 a)
    have l2 := join_len_le 58 (wds hi lo (a + n) (8 - a - n)) 4 (wds_short hi lo (a + n) (8 - a - n))
    rw [wds_len] at l1 l2
    rw [if_pos (by omega), wrap64_id _ (by omega) (by omega), words_at hi lo h0 h1 h2 h3 k (a + n) (8 - a - n) (by omega) hk _ 8 (by omega) (by omega), Option.bind_some]
    rw [if_pos (by rw [ByteArray.size_append, mkB_size, mkB_size]; have : (⟨#[58, 58]⟩ : ByteArray).size = 2 := rfl; omega)]
    refine ⟨_, ?_, .inr ⟨a, n, hn, han, hg, rfl⟩⟩
    congr 1
    apply ByteArray.ext
    apply Array.ext'
    simp [mkB]
end Go.Proofs.YtmegbllhidkmoaaDoor.Tx

/- The plain law of Get6 at what Put6 writes. -/
namespace Go.Proofs.YtmegbllhidkmoaaDoor.Tx
open Go.RowKit Go.Lib Go.Proofs.YtmegbllhidkmoaaDoorW.PrintWords Go.Proofs.YtmegbllhidkmoaaDoorW.PrintLast Go.Proofs.YtmegbllhidkmoaaDoorW.PrintMore Go.Proofs.YtmegbllhidkmoaaDoor.Plain
set_option linter.unusedVariables false

/-- The groups as numbers. -/
def gint (hi lo : Int) (i n : Nat) : List Int := (List.range' i n).map fun j => (grp hi lo j : Int)
theorem partVal_hex (p : ByteArray) (g : Nat) (hg : g ≤ 65535) (hp : p.data.toList = hexDigits g) : partVal p = some g := by
  have hl := hexDigits_len g hg
  have hs : p.size = (hexDigits g).length := by rw [← hp, Array.length_toList]; rfl
  unfold partVal hex16
  rw [if_pos (by omega), hp, if_neg (hexDigits_word g hg).1, parse16_hex g hg]
theorem rowGo_words (hi lo : Int) : ∀ (n i : Nat) (ps : List ByteArray) (acc : List Int), ps.map (·.data.toList) = wds hi lo i n → rowGo ps acc = some (acc ++ gint hi lo i n)
  | 0, i, ps, acc, h => by
    have : ps = [] := by simpa [wds] using h
    subst this
    simp [rowGo, gint]
  | n + 1, i, ps, acc, h => by
    cases ps with
    | nil => simp [wds, List.range'_succ] at h
    | cons p ps =>
      simp only [wds, List.range'_succ, List.map_cons, List.cons.injEq] at h
      rw [rowGo, partVal_hex p (grp hi lo i) (grp_le hi lo i) h.1]
      simp only
      rw [rowGo_words hi lo n (i + 1) ps _ h.2]
      simp [gint, List.range'_succ]
theorem wds_join_len (hi lo : Int) (i n : Nat) : (join (wds hi lo i n) [58]).length ≤ n * 5 := by
  have := join_len_le 58 (wds hi lo i n) 4 (wds_short hi lo i n)
  rwa [wds_len] at this
theorem wds_join_ne (hi lo : Int) (i n : Nat) (hn : n ≠ 0) : join (wds hi lo i n) [58] ≠ [] := by
  obtain ⟨c, t, e, _⟩ := (clean_join (wds hi lo i n) (wds_word hi lo i n)).2 (fun e => hn (by have := wds_len hi lo i n; rw [e] at this; exact this.symm))
  rw [e]; simp
theorem row_words (hi lo : Int) (i n : Nat) (hn : n ≤ 8) : text_row.f (mkB (join (wds hi lo i n) [58])) = some (gint hi lo i n, true) := by
  have hl := wds_join_len hi lo i n
  unfold text_row.f
  rw [if_pos (by rw [mkB_size]; omega), ByteArray.toList_eq, mkB_list]
  by_cases h0 : n = 0
  · subst h0
    rw [if_pos (by simp [wds, join_nil])]
    simp [gint]
  · rw [if_neg (wds_join_ne hi lo i n h0)]
    have hp : (rowParts (mkB (join (wds hi lo i n) [58]))).map (·.data.toList) = wds hi lo i n := by
      unfold rowParts
      rw [splitB_splitL, mkB_list]
      exact splitL_join 58 _ (fun e => h0 (by have := wds_len hi lo i n; rw [e] at this; exact this.symm)) (fun x hx => (wds_word hi lo i n x hx).2)
    rw [rowGo_words hi lo n i _ [] hp]
    simp

theorem up16 (A B : Int) (h0 : 0 ≤ A) (h1 : A < 18446744073709551616) (h2 : 0 ≤ B) (h3 : B < 18446744073709551616) :
    addr_Up.f A B 16 = some ((A * 65536) % 18446744073709551616 + B / 281474976710656, (B * 65536) % 18446744073709551616) := by
  unfold addr_Up.f
  rw [if_neg (by decide), if_neg (by decide), if_pos (by decide), show wrap64 (64 - 16) = 48 from by unfold wrap64; omega, if_pos (by decide)]
  rw [shl64 A 16 (by decide) 16 rfl, shl64 B 16 (by decide) 16 rfl, shr64 B 48 (by decide) 48 rfl]
  rw [u64_or 16 _ _ (by omega) (by omega) (by omega) (by omega) (by omega) (by omega)]
  have e1 : (2 : Int) ^ 16 = 65536 := by decide
  have e2 : (2 : Int) ^ 48 = 281474976710656 := by decide
  rw [e1, e2]
theorem fold_step (k : Nat) (G : List Int) (i : Nat) (A B A' B' g : Int) (h0 : 0 ≤ A) (h1 : A < 18446744073709551616) (h2 : 0 ≤ B) (h3 : B < 18446744073709551616) (hl : G.length = 8) (hi : i < 8)
    (hg : G.getD i 0 = g) (hg0 : 0 ≤ g) (hg1 : g ≤ 65535) (hA : A' = (A * 65536) % 18446744073709551616 + B / 281474976710656) (hB : B' = (B * 65536) % 18446744073709551616 + g) :
    text_Get6.l0 (k + 1) G 8 (i : Int) A B = text_Get6.l0 k G 8 ((i + 1 : Nat) : Int) A' B' := by
  rw [text_Get6.l0, if_pos (by omega), if_pos (by omega), if_pos (by rw [hl]; omega), up16 A B h0 h1 h2 h3, Option.bind_some]
  simp only
  have e : rd G (i : Int) = g := by unfold rd; rw [Int.toNat_natCast]; exact hg
  rw [e, u64_or 16 _ _ (by omega) (by omega) (by omega) hg0 (by omega) (by omega), wrap64_id _ (by omega) (by omega), hA, hB]
  rfl
theorem fold_all (hi lo : Int) (h0 : 0 ≤ hi) (h1 : hi < 18446744073709551616) (h2 : 0 ≤ lo) (h3 : lo < 18446744073709551616) (k : Nat) (hk : 9 ≤ k) :
    text_Get6.l0 k (gint hi lo 0 8) 8 0 0 0 = some (hi, lo, true) := by
  obtain ⟨m, rfl⟩ : ∃ m, k = m + 9 := ⟨k - 9, by omega⟩
  have hl : (gint hi lo 0 8).length = 8 := by simp [gint]
  have e0 : ((0 : Int)) = ((0 : Nat) : Int) := rfl
  have hgr : ∀ i, i < 8 → (gint hi lo 0 8).getD i 0 = (grp hi lo i : Int) := fun i hi' => by
    simp only [gint, List.getD_eq_getElem?_getD, List.getElem?_map]
    rw [List.getElem?_range' hi']
    simp
  rw [show text_Get6.l0 (m + 9) (gint hi lo 0 8) 8 0 0 0 = text_Get6.l0 (m + 9) (gint hi lo 0 8) 8 ((0 : Nat) : Int) 0 0 from rfl]
  rw [fold_step (m + 8) _ 0 0 0 0 (hi / 281474976710656) (grp hi lo 0 : Int) (by omega) (by omega) (by omega) (by omega) hl (by omega) (hgr 0 (by omega)) (by omega) (by have := grp_le hi lo 0; omega) (by omega) (by simp only [grp]; omega)]
  rw [fold_step (m + 7) _ 1 0 (hi / 281474976710656) 0 (hi / 4294967296) (grp hi lo 1 : Int) (by omega) (by omega) (by omega) (by omega) hl (by omega) (hgr 1 (by omega)) (by omega) (by have := grp_le hi lo 1; omega) (by omega) (by simp only [grp]; omega)]
  rw [fold_step (m + 6) _ 2 0 (hi / 4294967296) 0 (hi / 65536) (grp hi lo 2 : Int) (by omega) (by omega) (by omega) (by omega) hl (by omega) (hgr 2 (by omega)) (by omega) (by have := grp_le hi lo 2; omega) (by omega) (by simp only [grp]; omega)]
  rw [fold_step (m + 5) _ 3 0 (hi / 65536) 0 hi (grp hi lo 3 : Int) (by omega) (by omega) (by omega) (by omega) hl (by omega) (hgr 3 (by omega)) (by omega) (by have := grp_le hi lo 3; omega) (by omega) (by simp only [grp]; omega)]
  rw [fold_step (m + 4) _ 4 0 hi (hi / 281474976710656) ((hi * 65536) % 18446744073709551616 + lo / 281474976710656) (grp hi lo 4 : Int) (by omega) (by omega) (by omega) (by omega) hl (by omega) (hgr 4 (by omega)) (by omega) (by have := grp_le hi lo 4; omega) (by omega) (by simp only [grp]; omega)]
  rw [fold_step (m + 3) _ 5 (hi / 281474976710656) ((hi * 65536) % 18446744073709551616 + lo / 281474976710656) (hi / 4294967296) ((hi * 4294967296) % 18446744073709551616 + lo / 4294967296) (grp hi lo 5 : Int) (by omega) (by omega) (by omega) (by omega) hl (by omega) (hgr 5 (by omega)) (by omega) (by have := grp_le hi lo 5; omega) (by omega) (by simp only [grp]; omega)]
  rw [fold_step (m + 2) _ 6 (hi / 4294967296) ((hi * 4294967296) % 18446744073709551616 + lo / 4294967296) (hi / 65536) ((hi * 281474976710656) % 18446744073709551616 + lo / 65536) (grp hi lo 6 : Int) (by omega) (by omega) (by omega) (by omega) hl (by omega) (hgr 6 (by omega)) (by omega) (by have := grp_le hi lo 6; omega) (by omega) (by simp only [grp]; omega)]
  rw [fold_step (m + 1) _ 7 (hi / 65536) ((hi * 281474976710656) % 18446744073709551616 + lo / 65536) hi lo (grp hi lo 7 : Int) (by omega) (by omega) (by omega) (by omega) hl (by omega) (hgr 7 (by omega)) (by omega) (by have := grp_le hi lo 7; omega) (by omega) (by simp only [grp]; omega)]
  rw [text_Get6.l0, if_neg (by omega)]

theorem gint_zeros (hi lo : Int) (a n : Nat) (han : a + n ≤ 8) (hg : ∀ j, a ≤ j → j < a + n → grp hi lo j = 0) :
    gint hi lo 0 a ++ List.replicate n 0 ++ gint hi lo (a + n) (8 - a - n) = gint hi lo 0 8 := by
  have e1 : List.range' 0 8 = List.range' 0 a ++ (List.range' a n ++ List.range' (a + n) (8 - a - n)) := by
    have x1 : List.range' a n ++ List.range' (a + n) (8 - a - n) = List.range' a (n + (8 - a - n)) := by rw [← List.range'_append_1]
    have x2 : List.range' 0 a ++ List.range' (0 + a) (n + (8 - a - n)) = List.range' 0 (a + (n + (8 - a - n))) := by rw [List.range'_append_1]
    rw [x1]
    rw [Nat.zero_add] at x2
    rw [x2]
    congr 1; omega
  have e2 : (List.range' a n).map (fun j => (grp hi lo j : Int)) = List.replicate n 0 := by
    rw [List.eq_replicate_iff]
    refine ⟨by simp, fun b hb => ?_⟩
    simp only [List.mem_map, List.mem_range'_1] at hb
    obtain ⟨j, ⟨h1, h2⟩, rfl⟩ := hb
    rw [hg j h1 h2]; rfl
  simp only [gint]
  rw [e1, List.map_append, List.map_append, e2, List.append_assoc]
theorem cut_pair (h t : List UInt8) (hc : Clean h) : cut (h ++ 58 :: 58 :: t) [58, 58] = (h, t, true) := by
  unfold cut
  rw [index_pair t h hc, if_pos (by omega)]
  simp
theorem cut_clean (l : List UInt8) (hc : Clean l) : cut l [58, 58] = (l, [], false) := by
  unfold cut
  rw [index_clean l hc, if_neg (by decide)]
theorem join_len_lt (c : UInt8) : ∀ (ls : List (List UInt8)) (m : Nat), ls ≠ [] → (∀ x ∈ ls, x.length ≤ m) → (join ls [c]).length + 1 ≤ ls.length * (m + 1)
  | [], _, h, _ => absurd rfl h
  | [x], m, _, h => by rw [join_one]; have := h x (by simp); simp; omega
  | x :: y :: t, m, _, h => by
    have h1 := h x (by simp)
    have h2 := join_len_lt c (y :: t) m (by simp) (fun z hz => h z (List.mem_cons_of_mem _ hz))
    rw [join_cons2 c x _ (by simp)]
    simp only [List.length_append, List.length_cons] at h2 ⊢
    have e : (t.length + 1 + 1) * (m + 1) = (t.length + 1) * (m + 1) + (m + 1) := by rw [Nat.add_mul (t.length + 1) 1, Nat.one_mul]
    rw [e]
    omega
theorem form_len (hi lo : Int) (l : List UInt8) (hf : Form hi lo l) : l.length ≤ 39 := by
  rcases hf with rfl | ⟨a, n, hn, han, _, rfl⟩
  · have := join_len_lt 58 (wds hi lo 0 8) 4 (fun e => by have h := wds_len hi lo 0 8; rw [e] at h; cases h) (wds_short hi lo 0 8)
    rw [wds_len] at this
    omega
  · have l1 := wds_join_len hi lo 0 a
    have l2 := wds_join_len hi lo (a + n) (8 - a - n)
    simp only [List.length_append, List.length_cons]
    omega
theorem get6_form (hi lo : Int) (h0 : 0 ≤ hi) (h1 : hi < 18446744073709551616) (h2 : 0 ≤ lo) (h3 : lo < 18446744073709551616) (l : List UInt8) (hf : Form hi lo l) (k : Nat) (hk : 10 ≤ k) :
    text_Get6.f k (mkB l) = some (hi, lo, true) := by
  obtain ⟨m, rfl⟩ : ∃ m, k = m + 1 := ⟨k - 1, by omega⟩
  have hl := form_len hi lo l hf
  unfold text_Get6.f strings_Cut.f
  rw [if_pos (by rw [mkB_size]; omega), Option.bind_some, mkB_list, show (⟨#[58, 58]⟩ : ByteArray).data.toList = [58, 58] from rfl]
  rcases hf with rfl | ⟨a, n, hn, han, hg, rfl⟩
  · rw [cut_clean _ (clean_join _ (wds_word hi lo 0 8)).1]
    simp only
    have r1 := row_words hi lo 0 8 (by omega)
    have r2 := row_words hi lo 0 0 (by omega)
    have hg0 : gint hi lo 0 0 = [] := rfl
    rw [show (⟨(join (wds hi lo 0 8) [58]).toArray⟩ : ByteArray) = mkB (join (wds hi lo 0 8) [58]) from rfl, r1, Option.bind_some,
      show (⟨([] : List UInt8).toArray⟩ : ByteArray) = mkB (join (wds hi lo 0 0) [58]) from rfl, r2, Option.bind_some, hg0]
    have hl8 : (gint hi lo 0 8).length = 8 := by simp [gint]
    simp only [if_true, hl8, List.length_nil]
    rw [if_neg (by decide), show wrap64 (((8 : Nat) : Int) + ((0 : Nat) : Int)) = 8 from by unfold wrap64; omega]
    rw [text_Get6.j0, if_neg (by decide), show wrap64 (8 - 8) = 0 from by unfold wrap64; omega, if_pos (by decide), if_pos (by rw [hl8]; decide), Option.bind_some]
    simp only [Int.toNat_zero, List.replicate_zero, List.append_nil]
    rw [if_pos (by rw [hl8]; decide), Option.bind_some, hl8]
    exact fold_all hi lo h0 h1 h2 h3 m (by omega)
  · rw [cut_pair _ _ (clean_join _ (wds_word hi lo 0 a)).1]
    simp only
    rw [show (⟨(join (wds hi lo 0 a) [58]).toArray⟩ : ByteArray) = mkB (join (wds hi lo 0 a) [58]) from rfl, row_words hi lo 0 a (by omega), Option.bind_some,
      show (⟨(join (wds hi lo (a + n) (8 - a - n)) [58]).toArray⟩ : ByteArray) = mkB (join (wds hi lo (a + n) (8 - a - n)) [58]) from rfl, row_words hi lo (a + n) (8 - a - n) (by omega), Option.bind_some]
    have l1 : (gint hi lo 0 a).length = a := by simp [gint]
    have l2 : (gint hi lo (a + n) (8 - a - n)).length = 8 - a - n := by simp [gint]
    simp only [if_true, l1, l2]
    rw [wrap64_id _ (by omega) (by omega), if_neg (by omega)]
    rw [text_Get6.j0, if_neg (by decide), wrap64_id _ (by omega) (by omega), if_pos (by omega), if_pos (by rw [l1]; omega), Option.bind_some]
    have en : (8 - ((a : Int) + ((8 - a - n : Nat) : Int))).toNat = n := by omega
    rw [en, if_pos (by simp only [List.length_append, List.length_replicate, l1, l2]; omega), Option.bind_some, gint_zeros hi lo a n han hg]
    have hl8 : (gint hi lo 0 8).length = 8 := by simp [gint]
    rw [hl8]
    exact fold_all hi lo h0 h1 h2 h3 m (by omega)
end Go.Proofs.YtmegbllhidkmoaaDoor.Tx

/- Plain laws: dotted addresses, numbers, bytes and prefixes that are written are read again. -/
namespace Go.Proofs.YtmegbllhidkmoaaDoor.Tx
open Go.RowKit Go.Lib Go.Proofs.YtmegbllhidkmoaaDoorW.PrintWords Go.Proofs.YtmegbllhidkmoaaDoorW.PrintLast Go.Proofs.YtmegbllhidkmoaaDoorW.PrintMore Go.Proofs.YtmegbllhidkmoaaDoor.Plain
set_option linter.unusedVariables false

theorem up_of {α : Type} {f : Nat → Option α} (hm : ∀ k, LeO (f k) (f (k + 1))) {r : α} {k : Nat} (h : f k = some r) : ∀ k', k ≤ k' → f k' = some r := by
  intro k' hk
  induction k' with
  | zero =>
    obtain rfl : k = 0 := by omega
    exact h
  | succ n ih =>
    by_cases e : k = n + 1
    · subst e; exact h
    · exact hm n _ (ih (by omega))

theorem decD_chars (u : Nat) : ∀ c ∈ decDigits u, 48 ≤ c.toNat ∧ c.toNat ≤ 57 := by
  induction u using Nat.strongRecOn with
  | ind u ih =>
    intro c hc
    rw [decDigits] at hc
    split at hc
    · rename_i hu
      rw [List.mem_singleton] at hc; subst hc
      rw [UInt8.toNat_ofNat']; omega
    · rename_i hu
      rw [List.mem_append] at hc
      rcases hc with hc | hc
      · exact ih (u / 10) (by omega) c hc
      · rw [List.mem_singleton] at hc; subst hc
        rw [UInt8.toNat_ofNat']; omega
theorem decD_ne (u : Nat) : decDigits u ≠ [] := by
  rw [decDigits]; split <;> simp
theorem decD_no (u : Nat) (c : UInt8) (h : c.toNat < 48 ∨ 57 < c.toNat) : c ∉ decDigits u := fun m => by
  have := decD_chars u c m; omega
theorem parseM_app (M : Nat) (m : List UInt8) : ∀ (l : List UInt8) (a b : Nat), parseUintM M a l = .ok b → parseUintM M a (l ++ m) = parseUintM M b m
  | [], a, b, h => by
    simp only [parseUintM] at h
    injection h with h
    rw [h]; rfl
  | c :: l, a, b, h => by
    simp only [parseUintM] at h
    rw [List.cons_append, parseUintM]
    split at h
    · rename_i h1
      rw [if_pos h1]
      split at h
      · cases h
      · rename_i h2
        rw [if_neg h2]
        split at h
        · cases h
        · rename_i h3
          rw [if_neg h3]
          exact parseM_app M m l _ b h
    · cases h
theorem parse_dec (u : Nat) (h : u ≤ 18446744073709551615) : parseUintM 18446744073709551615 0 (decDigits u) = .ok u := by
  induction u using Nat.strongRecOn with
  | ind u ih =>
    rw [decDigits]
    split
    · rename_i hu
      have e : (UInt8.ofNat (48 + u)).toNat = 48 + u := by rw [UInt8.toNat_ofNat']; omega
      rw [parseUintM, if_pos (by omega), if_neg (by omega), if_neg (by omega), parseUintM, e]
      congr 1; omega
    · rename_i hu
      rw [parseM_app _ _ _ 0 (u / 10) (ih (u / 10) (by omega) (by omega))]
      have e : (UInt8.ofNat (48 + u % 10)).toNat = 48 + u % 10 := by rw [UInt8.toNat_ofNat']; omega
      rw [parseUintM, if_pos (by omega), if_neg (by omega), if_neg (by omega), parseUintM, e]
      congr 1; omega
theorem decD_len (u : Nat) (h : u ≤ 18446744073709551615) : (decDigits u).length ≤ 20 := by
  have step : ∀ (m : Nat) (u : Nat), u < 10 ^ (m + 1) → (decDigits u).length ≤ m + 1 := by
    intro m
    induction m with
    | zero => intro u hu; rw [decDigits, dif_pos (by simpa using hu)]; simp
    | succ m ih =>
      intro u hu
      rw [decDigits]; split
      · simp
      · have h10 : 10 ^ (m + 1 + 1) = 10 ^ (m + 1) * 10 := Nat.pow_succ _ _
        have := ih (u / 10) (by omega)
        simp; omega
  exact step 19 u (by omega)
theorem getNum_dec (u : Nat) (h : u ≤ 4611686018427387904) : text_GetNum.f (mkB (decDigits u)) = some ((u : Int), true) := by
  have hl := decD_len u (by omega)
  unfold text_GetNum.f
  rw [if_pos (by rw [mkB_size]; omega), mkB_list]
  have e : parseUintB 64 (decDigits u) = .ok u := by
    unfold parseUintB
    rw [if_neg (decD_ne u), show (2 : Nat) ^ 64 - 1 = 18446744073709551615 from by decide]
    exact parse_dec u (by omega)
  rw [e]
  simp only [h, and_self, if_true]

theorem get4_dec (a b c d : Nat) (ha : a ≤ 255) (hb : b ≤ 255) (hc : c ≤ 255) (hd : d ≤ 255) (k : Nat) (hk : 8 ≤ k) :
    text_Get4.f k (mkB (join [decDigits a, decDigits b, decDigits c, decDigits d] [46])) = some ((((a : Int) * 256 + b) * 256 + c) * 256 + d, true) := by
  refine up_of (f := fun k => text_Get4.f k _) (fun k => text_Get4.mono _ k) (k := 8) ?_ k hk
  show text_Get4.f 8 _ = _
  have hlen : (join [decDigits a, decDigits b, decDigits c, decDigits d] [46]).length ≤ 4 * 21 :=
    join_len_le 46 [decDigits a, decDigits b, decDigits c, decDigits d] 20 (fun x hx => by
      simp only [List.mem_cons, List.mem_nil_iff, or_false] at hx
      rcases hx with rfl | rfl | rfl | rfl <;> exact decD_len _ (by omega))
  have hsp : ∃ ps, strings_Split.f (mkB (join [decDigits a, decDigits b, decDigits c, decDigits d] [46])) ⟨#[46]⟩ = some ps ∧ ps = [mkB (decDigits a), mkB (decDigits b), mkB (decDigits c), mkB (decDigits d)] := by
    refine ⟨_, by unfold strings_Split.f; rw [if_pos ⟨by rw [mkB_size]; omega, by decide⟩], ?_⟩
    have e := splitB_splitL 46 (mkB (join [decDigits a, decDigits b, decDigits c, decDigits d] [46]))
    rw [mkB_list, splitL_join 46 _ (by simp) (fun x hx => by
      simp only [List.mem_cons, List.mem_nil_iff, or_false] at hx
      rcases hx with rfl | rfl | rfl | rfl <;> exact decD_no _ 46 (by decide))] at e
    have inj : ∀ (xs : List ByteArray) (ls : List (List UInt8)), xs.map (·.data.toList) = ls → xs = ls.map mkB := fun xs ls h => by
      rw [← h, List.map_map]
      conv => lhs; rw [← List.map_id xs]
      exact List.map_congr_left fun x _ => by
        apply Go.WideShapes.bytes_inj
        simp [mkB]
    have := inj _ _ e
    rw [this]; rfl
  obtain ⟨ps, h1, rfl⟩ := hsp
  unfold text_Get4.f
  rw [h1, Option.bind_some, if_pos (by simp)]
  rw [show (([mkB (decDigits a), mkB (decDigits b), mkB (decDigits c), mkB (decDigits d)] : List ByteArray).length : Int) = 4 from rfl]
  rw [show (4 : Int) = (([mkB (decDigits a), mkB (decDigits b), mkB (decDigits c), mkB (decDigits d)] : List ByteArray).length : Int) from rfl]
  rw [get4_step 7 0 0 _ (mkB (decDigits a)) a true (by decide) (by simp) rfl (getNum_dec a (by omega)), if_pos rfl, if_neg (by omega), show wrap64 (0 + 1) = 1 from by unfold wrap64; omega, u32_join 0 a (by omega) (by omega) (by omega) (by omega)]
  rw [get4_step 6 _ 1 _ (mkB (decDigits b)) b true (by decide) (by simp) rfl (getNum_dec b (by omega)), if_pos rfl, if_neg (by omega), show wrap64 (1 + 1) = 2 from by unfold wrap64; omega, u32_join _ b (by omega) (by omega) (by omega) (by omega)]
  rw [get4_step 5 _ 2 _ (mkB (decDigits c)) c true (by decide) (by simp) rfl (getNum_dec c (by omega)), if_pos rfl, if_neg (by omega), show wrap64 (2 + 1) = 3 from by unfold wrap64; omega, u32_join _ c (by omega) (by omega) (by omega) (by omega)]
  rw [get4_step 4 _ 3 _ (mkB (decDigits d)) d true (by decide) (by simp) rfl (getNum_dec d (by omega)), if_pos rfl, if_neg (by omega), show wrap64 (3 + 1) = 4 from by unfold wrap64; omega, u32_join _ d (by omega) (by omega) (by omega) (by omega)]
  rw [text_Get4.l0, if_neg (by simp)]
  have e : ∀ x y : Int, x = y → (some (x, true) : Option (Int × Bool)) = some (y, true) := fun x y h => by rw [h]
  exact e _ _ (by omega)

/-- The dotted form of a number of 32 bits. -/
def dots (n : Int) : List UInt8 := join [decDigits (n / 16777216 % 256).toNat, decDigits (n / 65536 % 256).toNat, decDigits (n / 256 % 256).toNat, decDigits (n % 256).toNat] [46]
theorem put4_at (n : Int) (h0 : 0 ≤ n) (h1 : n < 4294967296) (k : Nat) (hk : 8 ≤ k) : text_Put4.f k n = some (mkB (dots n)) :=
  up_of (f := fun k => text_Put4.f k n) (fun k => text_Put4.mono _ k) (k := 8) (put4 _ _ _ _ (by omega) (by omega) (by omega) (by omega) n (by omega)) k hk
theorem get4_dots (n : Int) (h0 : 0 ≤ n) (h1 : n < 4294967296) (k : Nat) (hk : 8 ≤ k) : text_Get4.f k (mkB (dots n)) = some (n, true) := by
  have := get4_dec (n / 16777216 % 256).toNat (n / 65536 % 256).toNat (n / 256 % 256).toNat (n % 256).toNat (by omega) (by omega) (by omega) (by omega) k hk
  unfold dots
  rw [this]
  have e : ∀ x y : Int, x = y → (some (x, true) : Option (Int × Bool)) = some (y, true) := fun x y h => by rw [h]
  exact e _ _ (by omega)

theorem lowval_digit (d : Nat) (h : d < 16) : lowval (hexdigit d) = some d := by
  have : ∀ d : Fin 16, lowval (hexdigit d.val) = some d.val := by decide
  exact this ⟨d, h⟩
theorem hexOf_len : ∀ l : List UInt8, (hexOf l).length = 2 * l.length
  | [] => rfl
  | c :: l => by
    have := hexOf_len l
    simp only [hexOf, List.flatMap_cons, List.length_append, List.length_cons, List.length_nil] at this ⊢
    omega
theorem hexOf_at : ∀ (l : List UInt8) (k : Nat) (c : UInt8), l[k]? = some c → (hexOf l)[2 * k]? = some (hexdigit (c.toNat / 16)) ∧ (hexOf l)[2 * k + 1]? = some (hexdigit (c.toNat % 16))
  | [], k, c, h => by simp at h
  | x :: l, 0, c, h => by
    simp at h; subst h
    exact ⟨rfl, rfl⟩
  | x :: l, k + 1, c, h => by
    have ih := hexOf_at l k c (by simpa using h)
    have e : hexOf (x :: l) = hexdigit (x.toNat / 16) :: hexdigit (x.toNat % 16) :: hexOf l := rfl
    rw [e, show 2 * (k + 1) = 2 * k + 1 + 1 by omega]
    simpa using ih
theorem hexOf_ok : ∀ l : List UInt8, (hexOf l).all (fun c => (lowval c).isSome) = true
  | [] => rfl
  | x :: l => by
    have e : hexOf (x :: l) = hexdigit (x.toNat / 16) :: hexdigit (x.toNat % 16) :: hexOf l := rfl
    have hx := x.toNat_lt
    rw [e, List.all_cons, List.all_cons, hexOf_ok l, lowval_digit _ (by omega), lowval_digit _ (by omega)]
    rfl
theorem unhex_hex (s : ByteArray) (h : s.size ≤ 65536) : text_Unhex.f (mkB (hexOf s.data.toList)) = some (s, true) := by
  have hl : s.data.toList.length = s.size := by rw [Array.length_toList]; rfl
  have hs : (mkB (hexOf s.data.toList)).size = 2 * s.size := by rw [mkB_size, hexOf_len, hl]
  unfold text_Unhex.f
  rw [if_pos (by omega), if_pos (by omega), if_pos (by unfold unhexOk; rw [mkB_list]; exact hexOf_ok _)]
  congr 2
  apply Go.WideShapes.bytes_inj
  show unhexBytes (mkB (hexOf s.data.toList)) = s.data.toList
  unfold unhexBytes
  rw [hs]
  apply List.ext_getElem?
  intro k
  by_cases hk : k < s.size
  · rw [List.getElem?_map, List.getElem?_range (by omega)]
    have hk2 : k < s.data.toList.length := by omega
    rw [List.getElem?_eq_getElem hk2]
    obtain ⟨h1, h2⟩ := hexOf_at s.data.toList k s.data.toList[k] (List.getElem?_eq_getElem hk2)
    have hx := (s.data.toList[k]).toNat_lt
    have n1 : nib (mkB (hexOf s.data.toList)) (2 * k) = s.data.toList[k].toNat / 16 := by
      unfold nib hv
      rw [mkB_list, List.getD_eq_getElem?_getD, h1, Option.getD_some, lowval_digit _ (by omega)]; rfl
    have n2 : nib (mkB (hexOf s.data.toList)) (2 * k + 1) = s.data.toList[k].toNat % 16 := by
      unfold nib hv
      rw [mkB_list, List.getD_eq_getElem?_getD, h2, Option.getD_some, lowval_digit _ (by omega)]; rfl
    simp only [Option.map_some]
    rw [n1, n2]
    congr 1
    rw [show s.data.toList[k].toNat / 16 * 16 + s.data.toList[k].toNat % 16 = s.data.toList[k].toNat by omega]
    simp
  · rw [List.getElem?_eq_none (by simp; omega), List.getElem?_eq_none (by omega)]
end Go.Proofs.YtmegbllhidkmoaaDoor.Tx

/- Plain laws: prefixes that are written are read again. -/
namespace Go.Proofs.YtmegbllhidkmoaaDoor.Tx
open Go.RowKit Go.Lib Go.Proofs.YtmegbllhidkmoaaDoorW.PrintWords Go.Proofs.YtmegbllhidkmoaaDoorW.PrintLast Go.Proofs.YtmegbllhidkmoaaDoorW.PrintMore Go.Proofs.YtmegbllhidkmoaaDoor.Plain
set_option linter.unusedVariables false

theorem down_total (hi lo s : Int) (h0 : 0 ≤ s) (h1 : s ≤ 128) : ∃ x y, addr_Down.f hi lo s = some (x, y) := by
  by_cases a : s ≤ 0
  · exact ⟨hi, lo, by unfold addr_Down.f; rw [if_pos a]⟩
  · by_cases b : 64 ≤ s
    · exact ⟨_, _, down_far hi lo s (s - 64).toNat b (by omega) (by omega)⟩
    · exact ⟨_, _, down_near hi lo s s.toNat (by omega) (by omega) (by omega)⟩
theorem up_total (hi lo s : Int) (h0 : 0 ≤ s) (h1 : s ≤ 128) : ∃ x y, addr_Up.f hi lo s = some (x, y) := by
  unfold addr_Up.f
  by_cases a : s ≤ 0
  · exact ⟨hi, lo, by rw [if_pos a]⟩
  · rw [if_neg a]
    by_cases b : s ≥ 64
    · rw [if_pos b, if_pos (by unfold wrap64; omega)]; exact ⟨_, _, rfl⟩
    · rw [if_neg b, if_pos (by omega), if_pos (by unfold wrap64; omega)]; exact ⟨_, _, rfl⟩
theorem sound_at (hi lo n : Int) (hn0 : -9223372036854775808 ≤ n) (hn1 : n ≤ 9223372036854775807) : ∃ b : Bool, (∀ k, 1 ≤ k → addr_Sound.f k hi lo n = some b) ∧ (b = true → 0 ≤ n ∧ n ≤ 128) := by
  by_cases h0 : n < 0
  · refine ⟨false, fun k hk => ?_, fun h => by cases h⟩
    obtain ⟨m, rfl⟩ : ∃ m, k = m + 1 := ⟨k - 1, by omega⟩
    unfold addr_Sound.f addr_Clip.f
    rw [if_pos h0, addr_Clip.j0, if_pos rfl, Option.bind_some]
    rfl
  · by_cases h1 : n > 128
    · refine ⟨false, fun k hk => ?_, fun h => by cases h⟩
      obtain ⟨m, rfl⟩ : ∃ m, k = m + 1 := ⟨k - 1, by omega⟩
      unfold addr_Sound.f addr_Clip.f
      rw [if_neg h0, decide_eq_true h1, addr_Clip.j0, if_pos rfl, Option.bind_some]
      rfl
    · obtain ⟨x, y, e1⟩ := down_total hi lo (128 - n) (by omega) (by omega)
      obtain ⟨x', y', e2⟩ := up_total x y (128 - n) (by omega) (by omega)
      refine ⟨(x' == hi && (y' == lo)) && (n == n), fun k hk => ?_, fun _ => ⟨by omega, by omega⟩⟩
      obtain ⟨m, rfl⟩ : ∃ m, k = m + 1 := ⟨k - 1, by omega⟩
      unfold addr_Sound.f addr_Clip.f
      rw [if_neg h0, decide_eq_false h1, addr_Clip.j0, if_neg (by decide), wrap64_id _ (by omega) (by omega), e1, Option.bind_some]
      simp only
      rw [e2, Option.bind_some, Option.bind_some]
      rfl

theorem index_one (c : UInt8) (t : List UInt8) : ∀ h : List UInt8, c ∉ h → index (h ++ c :: t) [c] = (h.length : Int)
  | [], _ => by rw [List.nil_append, index_cons, if_pos rfl]; rfl
  | a :: h, hc => by
    have ih := index_one c t h (fun m => hc (List.mem_cons_of_mem _ m))
    rw [List.cons_append, index_cons, if_neg (fun e => hc (by rw [e]; exact List.mem_cons_self ..)), ih, if_neg (by omega)]
    simp
theorem cut_one (c : UInt8) (h t : List UInt8) (hc : c ∉ h) : cut (h ++ c :: t) [c] = (h, t, true) := by
  unfold cut
  rw [index_one c t h hc, if_pos (by omega)]
  simp

theorem join_no (c d : UInt8) (hd : c ≠ d) : ∀ ls : List (List UInt8), (∀ x ∈ ls, c ∉ x) → c ∉ join ls [d]
  | [], _ => by simp [join_nil]
  | [x], h => by rw [join_one]; exact h x (by simp)
  | x :: y :: t, h => by
    rw [join_cons2 d x _ (by simp)]
    intro m
    rw [List.mem_append, List.mem_cons] at m
    rcases m with m | m | m
    · exact h x (by simp) m
    · exact hd m
    · exact join_no c d hd (y :: t) (fun z hz => h z (List.mem_cons_of_mem _ hz)) m
theorem dots_no (n : Int) : (47 : UInt8) ∉ dots n :=
  join_no 47 46 (by decide) _ (fun x hx => by
    simp only [List.mem_cons, List.mem_nil_iff, or_false] at hx
    rcases hx with rfl | rfl | rfl | rfl <;> exact decD_no _ 47 (by decide))
theorem dots_len (n : Int) : (dots n).length ≤ 84 := by
  unfold dots
  exact join_len_le 46 _ 20 (fun x hx => by
      simp only [List.mem_cons, List.mem_nil_iff, or_false] at hx
      rcases hx with rfl | rfl | rfl | rfl <;> exact decD_len _ (by omega))
theorem dots_ne (n : Int) : dots n ≠ [] := by
  unfold dots
  rw [join_cons2 46 _ _ (by simp)]
  intro e
  have := List.append_eq_nil_iff.1 e
  exact absurd this.2 (by simp)
theorem wds_no (hi lo : Int) (i n : Nat) (c : UInt8) (hc : c.toNat < 48) (h58 : c ≠ 58) : c ∉ join (wds hi lo i n) [58] :=
  join_no c 58 h58 _ (fun x hx m => by
    obtain ⟨j, _, _, rfl⟩ := wds_mem hi lo i n x hx
    have := hexDigits_chars _ c m
    omega)
theorem form_no (hi lo : Int) (l : List UInt8) (hf : Form hi lo l) : (47 : UInt8) ∉ l := by
  rcases hf with rfl | ⟨a, n, hn, han, _, rfl⟩
  · exact wds_no hi lo 0 8 47 (by decide) (by decide)
  · intro m
    rw [List.mem_append, List.mem_cons, List.mem_cons] at m
    rcases m with m | m | m | m
    · exact wds_no hi lo 0 a 47 (by decide) (by decide) m
    · exact absurd m (by decide)
    · exact absurd m (by decide)
    · exact wds_no hi lo _ _ 47 (by decide) (by decide) m
theorem form_ne (hi lo : Int) (l : List UInt8) (hf : Form hi lo l) : l ≠ [] := by
  rcases hf with rfl | ⟨a, n, hn, han, _, rfl⟩
  · exact wds_join_ne hi lo 0 8 (by decide)
  · intro e
    have := List.append_eq_nil_iff.1 e
    exact absurd this.2 (by simp)
theorem mkB_cat (a b c : List UInt8) : mkB a ++ mkB b ++ mkB c = mkB (a ++ b ++ c) := by
  apply ByteArray.ext
  apply Array.ext'
  simp [mkB]

/-- What GetPrefix tells of a text with a slash. -/
theorem getPrefix_slash (fam : Int) (h : List UInt8) (m : Nat) (hc : (47 : UInt8) ∉ h) (hl : h.length ≤ 1000) (hm : m ≤ 128) (k : Nat) (a0 a1 base : Int) (ok b : Bool)
    (hget : text_Get.f k fam (mkB h) = some (a0, a1, ok)) (hb : text_base.f fam = some base) (hbase : 0 ≤ base ∧ base ≤ 96) (hs : addr_Sound.f k a0 a1 (base + m) = some b) :
    text_GetPrefix.f k fam (mkB (h ++ 47 :: decDigits m)) = some (if ok = true ∧ b = true then (a0, a1, base + m, true) else (0, 0, 0, false)) := by
  have hdl := decD_len m (by omega)
  unfold text_GetPrefix.f strings_Cut.f
  rw [if_pos (by rw [mkB_size]; simp; omega), Option.bind_some, mkB_list, show (⟨#[47]⟩ : ByteArray).data.toList = [47] from rfl, cut_one 47 h _ hc]
  simp only
  rw [show (⟨h.toArray⟩ : ByteArray) = mkB h from rfl, hget, Option.bind_some, show (⟨(decDigits m).toArray⟩ : ByteArray) = mkB (decDigits m) from rfl, getNum_dec m (by omega), Option.bind_some, hb, Option.bind_some]
  simp only
  rw [wrap64_id _ (by omega) (by omega), hs, Option.bind_some]
  cases ok <;> cases b <;> simp

theorem itoa_at (m : Nat) (h : m ≤ 128) : strconv_Itoa.f (m : Int) = some (mkB (decDigits m)) := itoa_small m (by omega)
theorem base4 : text_base.f 4 = some 96 := rfl
theorem base6 : text_base.f 6 = some 0 := rfl
theorem get_four (k : Nat) (s : ByteArray) (n : Int) (ok : Bool) (h : text_Get4.f k s = some (n, ok)) (h0 : 0 ≤ n) (h1 : n < 18446744073709551616) : text_Get.f k 4 s = some (0, n, ok) := by
  unfold text_Get.f addr_Of4.f
  rw [if_pos rfl, h, Option.bind_some, Option.bind_some, wraps_u64 n h0 (by omega)]
theorem get_six (k : Nat) (s : ByteArray) (a b : Int) (ok : Bool) (h : text_Get6.f k s = some (a, b, ok)) : text_Get.f k 6 s = some (a, b, ok) := by
  unfold text_Get.f
  rw [if_neg (by decide), if_pos rfl, h, Option.bind_some]

theorem putPrefix_put (k : Nat) (fam hi lo n base : Int) (t : List UInt8) (m : Nat) (b : Bool) (hn0 : -9223372036854775808 ≤ n) (hn1 : n ≤ 9223372036854775807)
    (hput : text_Put.f k fam hi lo = some (mkB t)) (hb : text_base.f fam = some base) (hbase : 0 ≤ base ∧ base ≤ 96) (hl : t.length ≤ 1000) (hs : addr_Sound.f k hi lo n = some b) (hs' : b = true → 0 ≤ n ∧ n ≤ 128) :
    text_PutPrefix.f k fam hi lo n = some (if t ≠ [] ∧ b = true ∧ base ≤ n then mkB (t ++ 47 :: decDigits (n - base).toNat) else mkB []) := by
  unfold text_PutPrefix.f
  rw [hput, Option.bind_some, hb, Option.bind_some, ByteArray.toList_eq, mkB_list]
  by_cases ht : t = []
  · rw [if_pos ht, if_neg (fun h => h.1 ht)]; rfl
  · rw [if_neg ht]
    by_cases hw : wrap64 (n - base) < 0
    · rw [if_pos hw, if_neg (fun h => by have := hs' h.2.1; unfold wrap64 at hw; omega)]; rfl
    · rw [if_neg hw, hs, Option.bind_some]
      cases b with
      | false => rw [if_neg (by decide), if_neg (fun h => by cases h.2.1)]; rfl
      | true =>
        obtain ⟨g0, g1⟩ := hs' rfl
        have hge : base ≤ n := by unfold wrap64 at hw; omega
        have hdl := decD_len (n - base).toNat (by omega)
        rw [if_pos rfl, if_pos (show (mkB t).size + 1 ≤ 9223372036854775807 by rw [mkB_size]; omega), if_pos (show t ≠ [] ∧ true = true ∧ base ≤ n from ⟨ht, rfl, hge⟩), wrap64_id _ (by omega) (by omega), show n - base = ((n - base).toNat : Int) by omega, itoa_at _ (by omega), Option.bind_some]
        rw [Int.toNat_natCast, if_pos (by rw [ByteArray.size_append, mkB_size, mkB_size]; have : (⟨#[47]⟩ : ByteArray).size = 1 := rfl; omega)]
        rw [show (⟨#[47]⟩ : ByteArray) = mkB [47] from rfl, mkB_cat]
        simp

/-- Family 4: what PutPrefix writes, GetPrefix reads. -/
theorem prefix_four (hi lo n : Int) (h0 : 0 ≤ hi) (h1 : hi < 18446744073709551616) (h2 : 0 ≤ lo) (h3 : lo < 18446744073709551616) (hn0 : -9223372036854775808 ≤ n) (hn1 : n ≤ 9223372036854775807) (b : Bool)
    (hs : ∀ k, 1 ≤ k → addr_Sound.f k hi lo n = some b) (hs' : b = true → 0 ≤ n ∧ n ≤ 128) (k : Nat) (hk : 10 ≤ k) :
    (hi = 0 ∧ lo < 4294967296 ∧ b = true ∧ 96 ≤ n ∧ ∃ t, t ≠ [] ∧ text_PutPrefix.f k 4 hi lo n = some (mkB t) ∧ text_GetPrefix.f k 4 (mkB t) = some (hi, lo, n, true)) ∨
    (¬ (hi = 0 ∧ lo < 4294967296 ∧ b = true ∧ 96 ≤ n) ∧ text_PutPrefix.f k 4 hi lo n = some (mkB [])) := by
  by_cases h4 : hi = 0 ∧ lo < 4294967296
  · obtain ⟨rfl, hlo⟩ := h4
    have hput : text_Put.f k 4 0 lo = some (mkB (dots lo)) := by
      unfold text_Put.f addr_To4.f
      rw [if_pos rfl, if_pos rfl, if_neg (by omega), Option.bind_some]
      simp only [if_true]
      rw [Int.emod_eq_of_lt h2 hlo, put4_at lo h2 hlo k (by omega)]; rfl
    have hp := putPrefix_put k 4 0 lo n 96 (dots lo) 0 b hn0 hn1 hput base4 ⟨by decide, by decide⟩ (by have := dots_len lo; omega) (hs k (by omega)) hs'
    by_cases hc : b = true ∧ 96 ≤ n
    · obtain ⟨rfl, h96⟩ := hc
      obtain ⟨g0, g1⟩ := hs' rfl
      left
      rw [if_pos ⟨dots_ne lo, rfl, h96⟩] at hp
      refine ⟨rfl, hlo, rfl, h96, _, by simp, hp, ?_⟩
      have := getPrefix_slash 4 (dots lo) (n - 96).toNat (dots_no lo) (by have := dots_len lo; omega) (by omega) k 0 lo 96 true true (get_four k _ lo true (get4_dots lo h2 hlo k (by omega)) h2 (by omega)) base4 ⟨by decide, by decide⟩
        (by rw [show (96 : Int) + ((n - 96).toNat : Int) = n by omega]; exact hs k (by omega))
      rw [this, show (96 : Int) + ((n - 96).toNat : Int) = n by omega]
      rfl
    · right
      rw [if_neg (fun h => hc ⟨h.2.1, h.2.2⟩)] at hp
      exact ⟨fun h => hc ⟨h.2.2.1, h.2.2.2⟩, hp⟩
  · right
    refine ⟨fun h => h4 ⟨h.1, h.2.1⟩, ?_⟩
    have hput : text_Put.f k 4 hi lo = some (mkB []) := by
      unfold text_Put.f addr_To4.f
      rw [if_pos rfl]
      by_cases hz : hi = 0
      · rw [if_pos hz, if_pos (by omega), Option.bind_some]; rfl
      · rw [if_neg hz, Option.bind_some]; rfl
    have hp := putPrefix_put k 4 hi lo n 96 [] 0 b hn0 hn1 hput base4 ⟨by decide, by decide⟩ (by simp) (hs k (by omega)) hs'
    rw [if_neg (fun h => h.1 rfl)] at hp
    exact hp
/-- Family 6. -/
theorem prefix_six (hi lo n : Int) (h0 : 0 ≤ hi) (h1 : hi < 18446744073709551616) (h2 : 0 ≤ lo) (h3 : lo < 18446744073709551616) (hn0 : -9223372036854775808 ≤ n) (hn1 : n ≤ 9223372036854775807) (b : Bool)
    (hs : ∀ k, 1 ≤ k → addr_Sound.f k hi lo n = some b) (hs' : b = true → 0 ≤ n ∧ n ≤ 128) (k : Nat) (hk : 10 ≤ k) :
    (b = true ∧ ∃ t, t ≠ [] ∧ text_PutPrefix.f k 6 hi lo n = some (mkB t) ∧ text_GetPrefix.f k 6 (mkB t) = some (hi, lo, n, true)) ∨
    (b = false ∧ text_PutPrefix.f k 6 hi lo n = some (mkB [])) := by
  obtain ⟨l, e, hf⟩ := put6_at hi lo h0 h1 h2 h3 k (by omega)
  have hl := form_len hi lo l hf
  have hput : text_Put.f k 6 hi lo = some (mkB l) := by
    unfold text_Put.f
    rw [if_neg (by decide), if_pos rfl, e, Option.bind_some]
  have hp := putPrefix_put k 6 hi lo n 0 l 0 b hn0 hn1 hput base6 ⟨by decide, by decide⟩ (by omega) (hs k (by omega)) hs'
  cases b with
  | false =>
    right
    rw [if_neg (fun h => by cases h.2.1)] at hp
    exact ⟨rfl, hp⟩
  | true =>
    obtain ⟨g0, g1⟩ := hs' rfl
    left
    rw [if_pos ⟨form_ne hi lo l hf, rfl, g0⟩] at hp
    refine ⟨rfl, _, by simp, hp, ?_⟩
    have := getPrefix_slash 6 l (n - 0).toNat (form_no hi lo l hf) (by omega) (by omega) k hi lo 0 true true (get_six k _ hi lo true (get6_form hi lo h0 h1 h2 h3 l hf k (by omega))) base6 ⟨by decide, by decide⟩
      (by rw [show (0 : Int) + ((n - 0).toNat : Int) = n by omega]; exact hs k (by omega))
    rw [this, show (0 : Int) + ((n - 0).toNat : Int) = n by omega]
    rfl
theorem getPrefix_none4 (k : Nat) (hk : 10 ≤ k) : text_GetPrefix.f k 4 (mkB []) = some (0, 0, 0, false) :=
  up_of (f := fun k => text_GetPrefix.f k 4 (mkB [])) (fun k => text_GetPrefix.mono _ _ k) (k := 10) (by decide +kernel) k hk
theorem getPrefix_none6 (k : Nat) (hk : 10 ≤ k) : text_GetPrefix.f k 6 (mkB []) = some (0, 0, 0, false) :=
  up_of (f := fun k => text_GetPrefix.f k 6 (mkB [])) (fun k => text_GetPrefix.mono _ _ k) (k := 10) (by decide +kernel) k hk
end Go.Proofs.YtmegbllhidkmoaaDoor.Tx

/- Plain laws: Get6 and GetPrefix at every text; what stands in a text that Put6 writes. -/
namespace Go.Proofs.YtmegbllhidkmoaaDoor.Tx
open Go.RowKit Go.Lib Go.Proofs.YtmegbllhidkmoaaDoorW.PrintWords Go.Proofs.YtmegbllhidkmoaaDoorW.PrintLast Go.Proofs.YtmegbllhidkmoaaDoorW.PrintMore Go.Proofs.YtmegbllhidkmoaaDoor.Plain
set_option linter.unusedVariables false

theorem parse16_le : ∀ (l : List UInt8) (a n : Nat), a ≤ 65535 → parse16 a l = some n → n ≤ 65535
  | [], a, n, ha, h => by simp [parse16] at h; omega
  | c :: l, a, n, ha, h => by
    rw [parse16] at h
    cases hc : hexval c with
    | none => rw [hc] at h; simp at h
    | some d =>
      rw [hc] at h
      simp only at h
      split at h
      · simp at h
      · exact parse16_le l _ n (by omega) h
theorem partVal_le (p : ByteArray) (n : Nat) (h : partVal p = some n) : n ≤ 65535 := by
  unfold partVal hex16 at h
  split at h
  · split at h
    · simp at h
    · exact parse16_le _ 0 n (by omega) h
  · simp at h
theorem rowGo_all : ∀ (ps : List ByteArray) (acc l : List Int), (∀ x ∈ acc, 0 ≤ x ∧ x ≤ 65535) → rowGo ps acc = some l → l.length = acc.length + ps.length ∧ ∀ x ∈ l, 0 ≤ x ∧ x ≤ 65535
  | [], acc, l, ha, h => by
    simp only [rowGo, Option.some.injEq] at h
    subst h; exact ⟨rfl, ha⟩
  | p :: ps, acc, l, ha, h => by
    rw [rowGo] at h
    cases hp : partVal p with
    | none => rw [hp] at h; simp at h
    | some n =>
      rw [hp] at h
      simp only at h
      have hn := partVal_le p n hp
      have ih := rowGo_all ps _ l (fun x hx => by
        rw [List.mem_append, List.mem_singleton] at hx
        rcases hx with hx | rfl
        · exact ha x hx
        · omega) h
      refine ⟨?_, ih.2⟩
      rw [ih.1]; simp; omega
theorem splitL_len (c : UInt8) : ∀ l : List UInt8, (splitL c l).length ≤ l.length + 1
  | [] => by simp [splitL]
  | a :: l => by
    have ih := splitL_len c l
    rw [splitL]
    split
    · simp; omega
    · split
      · rename_i e; rw [e] at ih; simp at ih ⊢; omega
      · rename_i e; exact absurd e (splitL_ne c l)
theorem row_all (s : ByteArray) (h : s.size ≤ 65536) : ∃ (l : List Int) (ok : Bool), text_row.f s = some (l, ok) ∧ l.length ≤ 65537 ∧ ∀ x ∈ l, 0 ≤ x ∧ x ≤ 65535 := by
  unfold text_row.f
  rw [if_pos (by omega)]
  by_cases he : s.toList = []
  · rw [if_pos he]; exact ⟨[], true, rfl, by simp, fun x hx => by cases hx⟩
  · rw [if_neg he]
    cases hr : rowGo (rowParts s) [] with
    | none => exact ⟨[], false, rfl, by simp, fun x hx => by cases hx⟩
    | some l =>
      obtain ⟨h1, h2⟩ := rowGo_all _ _ _ (fun x hx => by cases hx) hr
      refine ⟨l, true, rfl, ?_, h2⟩
      have e := splitB_splitL 58 s
      have e2 : (rowParts s).length = (splitL 58 s.data.toList).length := by rw [← e, List.length_map]; rfl
      have e3 := splitL_len 58 s.data.toList
      have e4 : s.data.toList.length = s.size := by rw [Array.length_toList]; rfl
      rw [h1, e2]; simp; omega
theorem fold_any (G : List Int) (hl : G.length = 8) (hg : ∀ x ∈ G, 0 ≤ x ∧ x ≤ 65535) : ∀ (k i : Nat) (A B : Int), i ≤ 8 → 9 - i ≤ k → 0 ≤ A → A < 18446744073709551616 → 0 ≤ B → B < 18446744073709551616 →
    ∃ A' B', text_Get6.l0 k G 8 (i : Int) A B = some (A', B', true) ∧ 0 ≤ A' ∧ A' < 18446744073709551616 ∧ 0 ≤ B' ∧ B' < 18446744073709551616
  | 0, i, _, _, h, hk, _, _, _, _ => by omega
  | k + 1, i, A, B, hi, hk, a0, a1, b0, b1 => by
    by_cases hlt : i < 8
    · have hlt' : i < G.length := by omega
      have hm := hg G[i] (List.getElem_mem hlt')
      rw [fold_step k G i A B _ _ G[i] a0 a1 b0 b1 hl hlt (by rw [List.getD_eq_getElem?_getD, List.getElem?_eq_getElem hlt']; rfl) hm.1 hm.2 rfl rfl]
      exact fold_any G hl hg k (i + 1) _ _ (by omega) (by omega) (by omega) (by omega) (by omega) (by omega)
    · obtain rfl : i = 8 := by omega
      rw [text_Get6.l0, if_neg (by omega)]
      exact ⟨A, B, rfl, a0, a1, b0, b1⟩
theorem cut_sizes (l sep : List UInt8) : (cut l sep).1.length ≤ l.length ∧ (cut l sep).2.1.length ≤ l.length := by
  unfold cut
  split
  · simp; omega
  · simp
/-- Get6 at every text. -/
theorem get6_all (s : ByteArray) (h : s.size ≤ 65536) (k : Nat) (hk : 10 ≤ k) : ∃ a b ok, text_Get6.f k s = some (a, b, ok) ∧ 0 ≤ a ∧ a < 18446744073709551616 ∧ 0 ≤ b ∧ b < 18446744073709551616 ∧ (ok = false → a = 0 ∧ b = 0) := by
  obtain ⟨m, rfl⟩ : ∃ m, k = m + 1 := ⟨k - 1, by omega⟩
  have hl : s.data.toList.length = s.size := by rw [Array.length_toList]; rfl
  have hcs := cut_sizes s.data.toList [58, 58]
  unfold text_Get6.f strings_Cut.f
  rw [if_pos (by omega), Option.bind_some, show (⟨#[58, 58]⟩ : ByteArray).data.toList = [58, 58] from rfl]
  obtain ⟨x, o1, e1, l1, g1⟩ := row_all (mkB (cut s.data.toList [58, 58]).1) (by rw [mkB_size]; omega)
  obtain ⟨y, o2, e2, l2, g2⟩ := row_all (mkB (cut s.data.toList [58, 58]).2.1) (by rw [mkB_size]; omega)
  simp only
  rw [show (⟨(cut s.data.toList [58, 58]).1.toArray⟩ : ByteArray) = mkB (cut s.data.toList [58, 58]).1 from rfl, e1, Option.bind_some,
    show (⟨(cut s.data.toList [58, 58]).2.1.toArray⟩ : ByteArray) = mkB (cut s.data.toList [58, 58]).2.1 from rfl, e2, Option.bind_some]
  simp only
  rw [wrap64_id _ (by omega) (by omega)]
  have bad : ∃ a b ok, text_Get6.j0 (m + 1) x y ((x.length : Int) + (y.length : Int)) true = some (a, b, ok) ∧ 0 ≤ a ∧ a < 18446744073709551616 ∧ 0 ≤ b ∧ b < 18446744073709551616 ∧ (ok = false → a = 0 ∧ b = 0) := by
    rw [text_Get6.j0, if_pos rfl]
    exact ⟨0, 0, false, rfl, by decide, by decide, by decide, by decide, fun _ => ⟨rfl, rfl⟩⟩
  have good : x.length + y.length ≤ 8 → ∃ a b ok, text_Get6.j0 (m + 1) x y ((x.length : Int) + (y.length : Int)) false = some (a, b, ok) ∧ 0 ≤ a ∧ a < 18446744073709551616 ∧ 0 ≤ b ∧ b < 18446744073709551616 ∧ (ok = false → a = 0 ∧ b = 0) := by
    intro hle
    rw [text_Get6.j0, if_neg (by decide), wrap64_id _ (by omega) (by omega), if_pos (by omega), if_pos (by omega), Option.bind_some]
    rw [if_pos (by simp only [List.length_append, List.length_replicate]; omega), Option.bind_some]
    have h8 : (x ++ List.replicate (8 - ((x.length : Int) + (y.length : Int))).toNat 0 ++ y).length = 8 := by
      simp only [List.length_append, List.length_replicate]; omega
    obtain ⟨A, B, e, a0, a1, b0, b1⟩ := fold_any _ h8 (fun z hz => by
      rw [List.mem_append, List.mem_append] at hz
      rcases hz with (hz | hz) | hz
      · exact g1 z hz
      · have := List.eq_of_mem_replicate hz; omega
      · exact g2 z hz) m 0 0 0 (by omega) (by omega) (by omega) (by omega) (by omega) (by omega)
    rw [h8]
    exact ⟨A, B, true, e, a0, a1, b0, b1, fun h => by cases h⟩
  cases o1 with
  | false => rw [if_neg (by decide)]; exact bad
  | true =>
    rw [if_pos rfl]
    cases o2 with
    | false => rw [if_neg (by decide)]; exact bad
    | true =>
      rw [if_pos rfl]
      cases hsh : (cut s.data.toList [58, 58]).2.2 with
      | true =>
        rw [if_pos rfl]
        by_cases h7 : (x.length : Int) + (y.length : Int) > 7
        · rw [if_pos h7]; exact bad
        · rw [if_neg h7]; exact good (by omega)
      | false =>
        rw [if_neg (by decide)]
        by_cases h8 : (x.length : Int) + (y.length : Int) = 8
        · rw [h8, show ((8 : Int) != 8) = false from by decide, ← h8]; exact good (by omega)
        · rw [bne_iff_ne.2 h8]; exact bad

/-- GetPrefix at every text, of family 4 or 6. -/
def Told (fam q0 q1 q2 : Int) (ok : Bool) (k : Nat) : Prop :=
  (ok = false ∧ q0 = 0 ∧ q1 = 0 ∧ q2 = 0) ∨ (ok = true ∧ 0 ≤ q0 ∧ q0 < 18446744073709551616 ∧ 0 ≤ q1 ∧ q1 < 18446744073709551616 ∧ 0 ≤ q2 ∧ q2 ≤ 4611686018427388000 ∧ addr_Sound.f k q0 q1 q2 = some true ∧ (fam = 4 → q0 = 0 ∧ q1 < 4294967296 ∧ 96 ≤ q2))
theorem get4_all (s : ByteArray) (h : s.size ≤ 65536) (k : Nat) (hk : 8 ≤ k) : ∃ n ok, text_Get4.f k s = some (n, ok) ∧ 0 ≤ n ∧ n < 4294967296 := by
  obtain ⟨n, ok, e, e0, e1⟩ := dotted s h
  refine ⟨n, ok, up_of (f := fun k => text_Get4.f k s) (fun k => text_Get4.mono _ k) (k := 8) e k hk, ?_⟩
  cases ok with
  | false => have := e0 rfl; omega
  | true => obtain ⟨a, b, c, d, h1, h2, h3, h4, h5, _⟩ := e1 rfl; omega
theorem getPrefix_all (fam base : Int) (hfam : (fam = 4 ∧ base = 96) ∨ (fam = 6 ∧ base = 0)) (s : ByteArray) (h : s.size ≤ 65536) (k : Nat) (hk : 10 ≤ k) :
    ∃ q0 q1 q2 ok, text_GetPrefix.f k fam s = some (q0, q1, q2, ok) ∧ Told fam q0 q1 q2 ok k := by
  have hl : s.data.toList.length = s.size := by rw [Array.length_toList]; rfl
  have hcs := cut_sizes s.data.toList [47]
  have hb : text_base.f fam = some base := by rcases hfam with ⟨rfl, rfl⟩ | ⟨rfl, rfl⟩ <;> rfl
  have hget : ∃ a0 a1 ok, text_Get.f k fam (mkB (cut s.data.toList [47]).1) = some (a0, a1, ok) ∧ 0 ≤ a0 ∧ a0 < 18446744073709551616 ∧ 0 ≤ a1 ∧ a1 < 18446744073709551616 ∧ (fam = 4 → a0 = 0 ∧ a1 < 4294967296) := by
    rcases hfam with ⟨rfl, rfl⟩ | ⟨rfl, rfl⟩
    · obtain ⟨n, ok, e, n0, n1⟩ := get4_all (mkB (cut s.data.toList [47]).1) (by rw [mkB_size]; omega) k (by omega)
      exact ⟨0, n, ok, get_four k _ n ok e n0 (by omega), by omega, by omega, n0, by omega, fun _ => ⟨rfl, n1⟩⟩
    · obtain ⟨a, b, ok, e, a0, a1, b0, b1, _⟩ := get6_all (mkB (cut s.data.toList [47]).1) (by rw [mkB_size]; omega) k hk
      exact ⟨a, b, ok, get_six k _ a b ok e, a0, a1, b0, b1, fun h => by cases h⟩
  obtain ⟨a0, a1, ok, eg, x0, x1, y0, y1, h4⟩ := hget
  obtain ⟨v, ok2, en, t2, f2⟩ := gn (mkB (cut s.data.toList [47]).2.1) (by rw [mkB_size]; omega)
  unfold text_GetPrefix.f strings_Cut.f
  rw [if_pos (by omega), Option.bind_some, show (⟨#[47]⟩ : ByteArray).data.toList = [47] from rfl]
  simp only
  rw [show (⟨(cut s.data.toList [47]).1.toArray⟩ : ByteArray) = mkB (cut s.data.toList [47]).1 from rfl, eg, Option.bind_some,
    show (⟨(cut s.data.toList [47]).2.1.toArray⟩ : ByteArray) = mkB (cut s.data.toList [47]).2.1 from rfl, en, Option.bind_some, hb, Option.bind_some]
  simp only
  cases ok with
  | false => rw [if_neg (by decide)]; exact ⟨_, _, _, _, rfl, .inl ⟨rfl, rfl, rfl, rfl⟩⟩
  | true =>
    rw [if_pos rfl]
    cases ok2 with
    | false => rw [if_neg (by decide)]; exact ⟨_, _, _, _, rfl, .inl ⟨rfl, rfl, rfl, rfl⟩⟩
    | true =>
      obtain ⟨u, rfl, hu, _⟩ := t2 rfl
      have hbb : 0 ≤ base ∧ base ≤ 96 := by rcases hfam with ⟨_, rfl⟩ | ⟨_, rfl⟩ <;> omega
      rw [if_pos rfl, wrap64_id _ (by omega) (by omega)]
      obtain ⟨b, hs, hs'⟩ := sound_at a0 a1 (base + u) (by omega) (by omega)
      rw [hs k (by omega), Option.bind_some]
      cases b with
      | false => rw [if_neg (by decide)]; exact ⟨_, _, _, _, rfl, .inl ⟨rfl, rfl, rfl, rfl⟩⟩
      | true =>
        rw [if_pos rfl]
        refine ⟨_, _, _, _, rfl, .inr ⟨rfl, x0, x1, y0, y1, by omega, by omega, hs k (by omega), fun hf => ?_⟩⟩
        obtain ⟨z0, z1⟩ := h4 hf
        rcases hfam with ⟨_, rfl⟩ | ⟨h6, _⟩
        · exact ⟨z0, z1, by omega⟩
        · rw [h6] at hf; cases hf

theorem clean_next : ∀ (l : List UInt8) (i : Nat), Clean l → l[i]? = some 58 → ∃ c, l[i + 1]? = some c ∧ c ≠ 58
  | [], i, _, h => by simp at h
  | [a], 0, hc, h => by simp at h; exact absurd h hc
  | [a], i + 1, hc, h => by simp at h
  | a :: b :: r, 0, hc, h => by
    simp at h
    exact ⟨b, by simp, hc.1 h⟩
  | a :: b :: r, i + 1, hc, h => by
    have := clean_next (b :: r) i hc.2 (by simpa using h)
    simpa using this
/-- At most one pair of colons: behind the first place. -/
theorem form_pairs (hi lo : Int) (l : List UInt8) (hf : Form hi lo l) : ∃ p : Nat, ∀ i, l[i]? = some 58 → l[i + 1]? = some 58 → i = p := by
  rcases hf with rfl | ⟨a, n, hn, han, _, rfl⟩
  · refine ⟨0, fun i h1 h2 => ?_⟩
    obtain ⟨c, e, hc⟩ := clean_next _ i (clean_join _ (wds_word hi lo 0 8)).1 h1
    rw [e] at h2; exact absurd (Option.some.inj h2) hc
  · have c1 := (clean_join _ (wds_word hi lo 0 a)).1
    have c2 := clean_join _ (wds_word hi lo (a + n) (8 - a - n))
    generalize join (wds hi lo 0 a) [58] = h at *
    have c3 : ∀ d, (join (wds hi lo (a + n) (8 - a - n)) [58])[0]? = some d → d ≠ 58 := fun d hd => by
      by_cases h0 : wds hi lo (a + n) (8 - a - n) = []
      · rw [h0] at hd; simp [join_nil] at hd
      · obtain ⟨c, t, e, hc⟩ := c2.2 h0
        rw [e] at hd; simp at hd; rw [← hd]; exact hc
    have c4 := c2.1
    generalize join (wds hi lo (a + n) (8 - a - n)) [58] = t at *
    refine ⟨h.length, fun i h1 h2 => ?_⟩
    by_cases hlt : i < h.length
    · exfalso
      rw [List.getElem?_append_left hlt] at h1
      obtain ⟨c, e, hc⟩ := clean_next h i c1 h1
      have hlt2 : i + 1 < h.length := by
        rcases Nat.lt_or_ge (i + 1) h.length with x | x
        · exact x
        · rw [List.getElem?_eq_none x] at e; cases e
      rw [List.getElem?_append_left hlt2, e] at h2
      exact hc (Option.some.inj h2)
    · by_cases he : i = h.length
      · exact he
      · exfalso
        rw [List.getElem?_append_right (by omega)] at h1 h2
        obtain ⟨j, hj⟩ : ∃ j, i - h.length = j + 1 := ⟨i - h.length - 1, by omega⟩
        rw [hj] at h1
        rw [show i + 1 - h.length = j + 2 by omega] at h2
        cases j with
        | zero =>
          simp at h2
          exact c3 58 (by simpa using h2) rfl
        | succ j =>
          simp at h1 h2
          obtain ⟨c, e, hc⟩ := clean_next t j c4 h1
          rw [e] at h2; exact hc (Option.some.inj h2)
theorem wds_chars (hi lo : Int) (i n : Nat) : ∀ c ∈ join (wds hi lo i n) [58], ¬ (65 ≤ c.toNat ∧ c.toNat ≤ 70) := fun c hm hc => by
  refine join_no c 58 (fun e => by rw [e] at hc; exact absurd hc (by decide)) (wds hi lo i n) (fun x hx m => ?_) hm
  obtain ⟨j, _, _, rfl⟩ := wds_mem hi lo i n x hx
  have := hexDigits_chars _ c m
  omega
theorem form_chars (hi lo : Int) (l : List UInt8) (hf : Form hi lo l) : ∀ c ∈ l, ¬ (65 ≤ c.toNat ∧ c.toNat ≤ 70) := by
  rcases hf with rfl | ⟨a, n, hn, han, _, rfl⟩
  · exact wds_chars hi lo 0 8
  · intro c m
    rw [List.mem_append, List.mem_cons, List.mem_cons] at m
    rcases m with m | rfl | rfl | m
    · exact wds_chars hi lo 0 a c m
    · decide
    · decide
    · exact wds_chars hi lo _ _ c m
theorem bt_mkB (l : List UInt8) (i : Nat) (c : UInt8) (h : l[i]? = some c) : bt (mkB l) (i : Int) = (c.toNat : Int) := by
  have hlt : i < l.length := by
    rcases Nat.lt_or_ge i l.length with x | x
    · exact x
    · rw [List.getElem?_eq_none x] at h; cases h
  unfold bt
  rw [dif_pos (by rw [mkB_size]; omega)]
  rw [List.getElem?_eq_getElem hlt] at h
  have := Option.some.inj h
  rw [← this]
  simp [mkB, ByteArray.getElem_eq_getElem_data]
end Go.Proofs.YtmegbllhidkmoaaDoor.Tx
