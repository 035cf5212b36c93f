/- Plain facts on lists of bytes: a text cut at a byte, and put together again; decimal numbers; words of bits. -/
import Derived.Lib.Split
import Derived.Lib.SplitLaws
import Derived.Lib.Join
import Derived.Lib.ItoaMem
import Derived.Lib.ItoaLen
import Derived.Lib.ParseIntB
import Derived.Laws.BitsLemmas
import Derived.Test.YtmegbllhidkmoaaDoorGivenH
import Derived.Test.YtmegbllhidkmoaaDoorGivenI
import Derived.Test.YtmegbllhidkmoaaDoorE
namespace Go.Proofs.YtmegbllhidkmoaaDoor.Plain
open Go.Lib

def splitL (c : UInt8) : List UInt8 → List (List UInt8)
  | [] => [[]]
  | b :: l => if b = c then [] :: splitL c l else match splitL c l with
    | h :: t => (b :: h) :: t
    | [] => [[b]]
theorem splitL_ne (c : UInt8) (l : List UInt8) : splitL c l ≠ [] := by
  cases l with
  | nil => simp [splitL]
  | cons b l => unfold splitL; split; · simp
                split <;> simp
theorem index_cons (b c : UInt8) (l : List UInt8) : index (b :: l) [c] = if c = b then 0 else if index l [c] = -1 then -1 else index l [c] + 1 := by
  rw [index]
  have : [c].isPrefixOf (b :: l) = (c == b) := by simp [List.isPrefixOf]
  rw [this]
  by_cases h : c = b
  · simp [h]
  · have : (c == b) = false := by simpa using h
    rw [this, if_neg (by decide), if_neg h]
    simp
theorem splitK_splitL (c : UInt8) : ∀ l : List UInt8, splitK [c] 0 (count l [c]) l = splitL c l
  | [] => by rw [count_one]; rfl
  | b :: l => by
    have ih := splitK_splitL c l
    unfold splitL
    by_cases h : b = c
    · subst h
      rw [if_pos rfl, count_cons_eq, Nat.add_comm, splitK, index_cons, if_pos rfl, if_neg (by decide)]
      simp only [Int.toNat_zero, Nat.zero_add, List.take_zero, List.length_singleton, List.drop_one, List.tail_cons]
      rw [ih]
    · rw [if_neg h, count_cons_ne b c l h, ← ih]
      cases hk : count l [c] with
      | zero => rfl
      | succ k =>
        have hcb : ¬ c = b := fun e => h e.symm
        have hidx : index (b :: l) [c] = if index l [c] = -1 then -1 else index l [c] + 1 := by rw [index_cons, if_neg hcb]
        rw [splitK, splitK, hidx]
        by_cases hi : index l [c] = -1
        · rw [hi]; simp
        · have hge := index_ge l [c]
          rw [if_neg hi]
          obtain ⟨i, hi2⟩ : ∃ i : Nat, index l [c] = i := ⟨(index l [c]).toNat, by omega⟩
          rw [hi2]
          have e1 : (((i : Int) + 1) == -1) = false := by simp; omega
          have e2 : (((i : Int)) == -1) = false := by simp
          rw [e1, e2, show ((i : Int) + 1).toNat = i + 1 by omega, Int.toNat_natCast]
          simp
theorem splitB_splitL (c : UInt8) (s : ByteArray) : (splitB ⟨#[c]⟩ 0 (countB s ⟨#[c]⟩) s).map (·.data.toList) = splitL c s.data.toList := by
  rw [splitB_data]
  exact splitK_splitL c s.data.toList

theorem join_cons2 (c : UInt8) (h : List UInt8) (t : List (List UInt8)) (ht : t ≠ []) : join (h :: t) [c] = h ++ c :: join t [c] := by
  cases t with
  | nil => exact absurd rfl ht
  | cons x t => rw [join_cons, join_cons]; simp [joinTail]
theorem join_splitL (c : UInt8) : ∀ l : List UInt8, join (splitL c l) [c] = l
  | [] => rfl
  | b :: l => by
    have ih := join_splitL c l
    unfold splitL
    by_cases h : b = c
    · rw [if_pos h, join_cons2 c _ _ (splitL_ne c l), ih, h]; rfl
    · rw [if_neg h]
      cases hs : splitL c l with
      | nil => exact absurd hs (splitL_ne c l)
      | cons x t =>
        simp only
        rw [hs] at ih
        cases t with
        | nil => rw [join_one] at *; rw [ih]
        | cons y t => rw [join_cons2 c _ _ (by simp)] at *; rw [List.cons_append, ih]

theorem wraps_u32 (n : Int) (h₀ : 0 ≤ n) (h₁ : n < 2 ^ 32) : IntKind.u32.wrap n = n := by rw [IntKind.wrap_u32]; omega
theorem u32_join (x v : Int) (h0 : 0 ≤ x) (h1 : x < 16777216) (h2 : 0 ≤ v) (h3 : v < 256) : bits .or .u32 ((x * 256) % 4294967296) (v % 4294967296) = x * 256 + v := by
  rw [Int.emod_eq_of_lt (by omega) (by omega), Int.emod_eq_of_lt (by omega) (by omega)]
  exact bits_join .u32 32 (by decide) wraps_u32 8 (x * 256) v (by omega) (by omega) (by omega) h2 (by omega) (by omega)
end Go.Proofs.YtmegbllhidkmoaaDoor.Plain

/- Lists of bytes: parts joined and split again; where a pair of colons stands; hexadecimal digits read again. -/
namespace Go.Proofs.YtmegbllhidkmoaaDoor.Tx
open Go.RowKit Go.Lib Go.Proofs.YtmegbllhidkmoaaDoor.Plain
set_option linter.unusedVariables false

theorem splitL_none (c : UInt8) : ∀ x : List UInt8, c ∉ x → splitL c x = [x]
  | [], _ => rfl
  | a :: x, h => by
    have ha : ¬ a = c := fun e => h (by simp [e])
    have hx : c ∉ x := fun m => h (by simp [m])
    rw [splitL, splitL_none c x hx]
    simp [ha]
theorem splitL_app (c : UInt8) (t : List UInt8) : ∀ x : List UInt8, c ∉ x → splitL c (x ++ c :: t) = x :: splitL c t
  | [], _ => by
    rw [List.nil_append, splitL]
    simp
  | a :: x, h => by
    have ha : ¬ a = c := fun e => h (by simp [e])
    have hx : c ∉ x := fun m => h (by simp [m])
    rw [List.cons_append, splitL, splitL_app c t x hx]
    simp [ha]
theorem splitL_join (c : UInt8) : ∀ ls : List (List UInt8), ls ≠ [] → (∀ x ∈ ls, c ∉ x) → splitL c (join ls [c]) = ls
  | [], h, _ => absurd rfl h
  | [x], _, h => by rw [join_one]; exact splitL_none c x (h x (by simp))
  | x :: y :: t, _, h => by
    rw [join_cons2 c x _ (by simp), splitL_app c _ x (h x (by simp)), splitL_join c (y :: t) (by simp) (fun z hz => h z (by simp [hz]))]

/-- No two colons side by side, none at the end. -/
def Clean : List UInt8 → Prop
  | [] => True
  | [a] => a ≠ 58
  | a :: b :: r => (a = 58 → b ≠ 58) ∧ Clean (b :: r)
theorem cc_pre (a b : UInt8) (r : List UInt8) : ([58, 58] : List UInt8).isPrefixOf (a :: b :: r) = true ↔ a = 58 ∧ b = 58 := by
  simp [List.isPrefixOf]
  constructor
  · rintro ⟨h1, h2⟩; exact ⟨h1.symm, h2.symm⟩
  · rintro ⟨h1, h2⟩; exact ⟨h1.symm, h2.symm⟩
theorem clean_nocolon : ∀ x : List UInt8, (58 : UInt8) ∉ x → Clean x
  | [], _ => trivial
  | [a], h => fun e => h (by simp [e])
  | a :: b :: r, h => ⟨fun e => absurd e (fun e => h (by simp [e])), clean_nocolon (b :: r) (fun m => h (List.mem_cons_of_mem _ m))⟩
theorem clean_app (c : UInt8) (t : List UInt8) (hc : c ≠ 58) (ht : Clean (c :: t)) : ∀ x : List UInt8, x ≠ [] → (58 : UInt8) ∉ x → Clean (x ++ 58 :: c :: t)
  | [], h, _ => absurd rfl h
  | [a], _, h => ⟨fun e => absurd e (fun e => h (by simp [e])), ⟨fun _ => hc, ht⟩⟩
  | a :: b :: r, _, h => ⟨fun e => absurd e (fun e => h (by simp [e])), clean_app c t hc ht (b :: r) (by simp) (fun m => h (List.mem_cons_of_mem _ m))⟩
theorem clean_join : ∀ ls : List (List UInt8), (∀ x ∈ ls, x ≠ [] ∧ (58 : UInt8) ∉ x) → Clean (join ls [58]) ∧ (ls ≠ [] → ∃ c t, join ls [58] = c :: t ∧ c ≠ 58)
  | [], _ => ⟨trivial, fun h => absurd rfl h⟩
  | [x], h => by
    rw [join_one]
    obtain ⟨h1, h2⟩ := h x (by simp)
    refine ⟨clean_nocolon x h2, fun _ => ?_⟩
    cases x with
    | nil => exact absurd rfl h1
    | cons a r => exact ⟨a, r, rfl, fun e => h2 (by simp [e])⟩
  | x :: y :: t, h => by
    obtain ⟨h1, h2⟩ := h x (by simp)
    obtain ⟨ih1, ih2⟩ := clean_join (y :: t) (fun z hz => h z (List.mem_cons_of_mem _ hz))
    obtain ⟨c, r, e, hc⟩ := ih2 (by simp)
    rw [join_cons2 58 x _ (by simp), e]
    rw [e] at ih1
    refine ⟨clean_app c r hc ih1 x h1 h2, fun _ => ?_⟩
    cases x with
    | nil => exact absurd rfl h1
    | cons a z => exact ⟨a, z ++ 58 :: c :: r, rfl, fun e => h2 (by simp [e])⟩

theorem hexval_digit (d : Nat) (h : d < 16) : hexval (hexdigit d) = some d := by
  have : ∀ d : Fin 16, hexval (hexdigit d.val) = some d.val := by decide
  exact this ⟨d, h⟩
theorem hexdigit_chars (d : Nat) (h : d < 16) : (48 ≤ (hexdigit d).toNat ∧ (hexdigit d).toNat ≤ 57) ∨ (97 ≤ (hexdigit d).toNat ∧ (hexdigit d).toNat ≤ 102) := by
  have : ∀ d : Fin 16, (48 ≤ (hexdigit d.val).toNat ∧ (hexdigit d.val).toNat ≤ 57) ∨ (97 ≤ (hexdigit d.val).toNat ∧ (hexdigit d.val).toNat ≤ 102) := by decide
  exact this ⟨d, h⟩
theorem parse16_app : ∀ (l m : List UInt8) (a : Nat), parse16 a (l ++ m) = (parse16 a l).bind fun b => parse16 b m
  | [], m, a => rfl
  | c :: l, m, a => by
    rw [List.cons_append, parse16, parse16]
    cases hexval c with
    | none => rfl
    | some d =>
      simp only
      split
      · rfl
      · exact parse16_app l m _
theorem parse16_hex (u : Nat) (h : u ≤ 65535) : parse16 0 (hexDigits u) = some u := by
  induction u using Nat.strongRecOn with
  | ind u ih =>
    rw [hexDigits]
    split
    · rename_i hu
      rw [parse16, hexval_digit u hu]
      simp only
      rw [if_neg (by omega), parse16]; congr 1; omega
    · rename_i hu
      rw [parse16_app, ih (u / 16) (by omega) (by omega), Option.bind_some, parse16, hexval_digit (u % 16) (by omega)]
      simp only
      rw [if_neg (by omega), parse16]; congr 1; omega
theorem hexDigits_len (u : Nat) (h : u ≤ 65535) : 1 ≤ (hexDigits u).length ∧ (hexDigits u).length ≤ 4 := by
  have a1 : ∀ u, u < 16 → (hexDigits u).length = 1 := fun u h => by rw [hexDigits, dif_pos h]; rfl
  have a2 : ∀ u, u < 256 → 1 ≤ (hexDigits u).length ∧ (hexDigits u).length ≤ 2 := fun u h => by
    rw [hexDigits]; split
    · exact ⟨by simp, by simp⟩
    · have := a1 (u / 16) (by omega); simp [this]
  have a3 : ∀ u, u < 4096 → 1 ≤ (hexDigits u).length ∧ (hexDigits u).length ≤ 3 := fun u h => by
    rw [hexDigits]; split
    · exact ⟨by simp, by simp⟩
    · have := a2 (u / 16) (by omega); simp; omega
  rw [hexDigits]; split
  · exact ⟨by simp, by simp⟩
  · have := a3 (u / 16) (by omega); simp; omega
theorem hexDigits_chars (u : Nat) : ∀ c ∈ hexDigits u, (48 ≤ c.toNat ∧ c.toNat ≤ 57) ∨ (97 ≤ c.toNat ∧ c.toNat ≤ 102) := by
  induction u using Nat.strongRecOn with
  | ind u ih =>
    intro c hc
    rw [hexDigits] at hc
    split at hc
    · rename_i hu
      simp at hc; subst hc; exact hexdigit_chars u hu
    · rename_i hu
      rw [List.mem_append] at hc
      rcases hc with hc | hc
      · exact ih (u / 16) (by omega) c hc
      · simp at hc; subst hc; exact hexdigit_chars _ (by omega)
theorem hexDigits_word (u : Nat) (h : u ≤ 65535) : hexDigits u ≠ [] ∧ (58 : UInt8) ∉ hexDigits u := by
  refine ⟨fun e => ?_, fun m => ?_⟩
  · have := (hexDigits_len u h).1; rw [e] at this; simp at this
  · have := hexDigits_chars u 58 m
    simp at this
end Go.Proofs.YtmegbllhidkmoaaDoor.Tx

/- The plain law of TextDots: an address of 32 bits, a number and bytes are read from their own text alone. -/
namespace Go.Proofs.YtmegbllhidkmoaaDoor.Tx
open Go.RowKit Go.Lib Go.Proofs.YtmegbllhidkmoaaDoorW.PrintWords Go.Proofs.YtmegbllhidkmoaaDoorW.PrintLast Go.Proofs.YtmegbllhidkmoaaDoorW.PrintMore Go.Proofs.YtmegbllhidkmoaaDoor.Plain
set_option linter.unusedVariables false

theorem gn (p : ByteArray) (h : p.size ≤ 281474976710656) : ∃ (v : Int) (ok : Bool), text_GetNum.f p = some (v, ok) ∧ (ok = true → ∃ u : Nat, v = u ∧ u ≤ 4611686018427387904 ∧ decDigits u = p.data.toList) ∧ (ok = false → v = 0) := by
  unfold text_GetNum.f
  rw [if_pos h]
  cases hp : parseUintB 64 p.data.toList with
  | ok u =>
    by_cases hc : u ≤ 4611686018427387904 ∧ decDigits u = p.data.toList
    · exact ⟨u, true, by simp only [if_pos hc], fun _ => ⟨u, rfl, hc.1, hc.2⟩, fun h => by cases h⟩
    · exact ⟨0, false, by simp only [if_neg hc], fun h => by (cases h), fun _ => rfl⟩
  | range => exact ⟨0, false, rfl, fun h => by (cases h), fun _ => rfl⟩
  | _ => exact ⟨0, false, rfl, fun h => by (cases h), fun _ => rfl⟩

theorem get4_step (k : Nat) (x i : Int) (ps : List ByteArray) (p : ByteArray) (v : Int) (ok : Bool) (h0 : 0 ≤ i) (h1 : i < (ps.length : Int)) (hp : rdOf ByteArray.empty ps i = p) (hg : text_GetNum.f p = some (v, ok)) :
    text_Get4.l0 (k + 1) x ps (ps.length : Int) i = if ok = true then (if v > 255 then some (0, false) else text_Get4.l0 k (Go.bits .or .u32 ((x * 256) % 4294967296) (v % 4294967296)) ps (ps.length : Int) (wrap64 (i + 1))) else some (0, false) := by
  rw [text_Get4.l0, if_pos h1, if_pos h0, if_pos h1, hp, hg, Option.bind_some]

theorem dotted (s : ByteArray) (h : s.size ≤ 65536) : ∃ (n : Int) (ok : Bool), text_Get4.f 8 s = some (n, ok) ∧ (ok = false → n = 0) ∧
    (ok = true → ∃ a b c d : Nat, a ≤ 255 ∧ b ≤ 255 ∧ c ≤ 255 ∧ d ≤ 255 ∧ n = (((a : Int) * 256 + b) * 256 + c) * 256 + d ∧ s.data.toList = join [decDigits a, decDigits b, decDigits c, decDigits d] [46]) := by
  have hsp : strings_Split.f s ⟨#[46]⟩ = some (splitB ⟨#[46]⟩ 0 (countB s ⟨#[46]⟩) s) := by
    unfold strings_Split.f; rw [if_pos ⟨by omega, by decide⟩]
  have hj : join ((splitB ⟨#[46]⟩ 0 (countB s ⟨#[46]⟩) s).map (·.data.toList)) [46] = s.data.toList := by
    rw [splitB_splitL]; exact join_splitL 46 _
  have hsz : ∀ p ∈ splitB ⟨#[46]⟩ 0 (countB s ⟨#[46]⟩) s, p.size ≤ 281474976710656 := fun p hp => by
    have := split_sizes _ _ _ _ hp; omega
  unfold text_Get4.f
  rw [hsp, Option.bind_some]
  generalize splitB ⟨#[46]⟩ 0 (countB s ⟨#[46]⟩) s = ps at *
  by_cases hl : (ps.length : Int) = 4
  · rw [if_pos hl]
    match ps, hl, hj, hsz with
    | [p0, p1, p2, p3], _, hj, hsz =>
      obtain ⟨v0, o0, g0, t0, f0⟩ := gn p0 (hsz _ (by simp))
      obtain ⟨v1, o1, g1, t1, f1⟩ := gn p1 (hsz _ (by simp))
      obtain ⟨v2, o2, g2, t2, f2⟩ := gn p2 (hsz _ (by simp))
      obtain ⟨v3, o3, g3, t3, f3⟩ := gn p3 (hsz _ (by simp))
      have bad : ∃ (n : Int) (ok : Bool), (some ((0 : Int), false)) = some (n, ok) ∧ (ok = false → n = 0) ∧
          (ok = true → ∃ a b c d : Nat, a ≤ 255 ∧ b ≤ 255 ∧ c ≤ 255 ∧ d ≤ 255 ∧ n = (((a : Int) * 256 + b) * 256 + c) * 256 + d ∧ s.data.toList = join [decDigits a, decDigits b, decDigits c, decDigits d] [46]) := ⟨0, false, rfl, fun _ => rfl, fun h => by cases h⟩
      rw [get4_step 7 0 0 [p0, p1, p2, p3] p0 v0 o0 (by decide) (by simp) rfl g0]
      cases o0 with
      | false => exact bad
      | true =>
      obtain ⟨a, rfl, ha, da⟩ := t0 rfl
      rw [if_pos rfl]
      by_cases ha2 : (a : Int) > 255
      · rw [if_pos ha2]; exact bad
      rw [if_neg ha2, u32_join 0 a (by decide) (by decide) (by omega) (by omega), show wrap64 (0 + 1) = 1 by unfold wrap64; omega]
      rw [get4_step 6 _ 1 [p0, p1, p2, p3] p1 v1 o1 (by decide) (by simp) rfl g1]
      cases o1 with
      | false => exact bad
      | true =>
      obtain ⟨b, rfl, hb, db⟩ := t1 rfl
      rw [if_pos rfl]
      by_cases hb2 : (b : Int) > 255
      · rw [if_pos hb2]; exact bad
      rw [if_neg hb2, u32_join _ b (by omega) (by omega) (by omega) (by omega), show wrap64 (1 + 1) = 2 by unfold wrap64; omega]
      rw [get4_step 5 _ 2 [p0, p1, p2, p3] p2 v2 o2 (by decide) (by simp) rfl g2]
      cases o2 with
      | false => exact bad
      | true =>
      obtain ⟨c, rfl, hc, dc⟩ := t2 rfl
      rw [if_pos rfl]
      by_cases hc2 : (c : Int) > 255
      · rw [if_pos hc2]; exact bad
      rw [if_neg hc2, u32_join _ c (by omega) (by omega) (by omega) (by omega), show wrap64 (2 + 1) = 3 by unfold wrap64; omega]
      rw [get4_step 4 _ 3 [p0, p1, p2, p3] p3 v3 o3 (by decide) (by simp) rfl g3]
      cases o3 with
      | false => exact bad
      | true =>
      obtain ⟨d, rfl, hd, dd⟩ := t3 rfl
      rw [if_pos rfl]
      by_cases hd2 : (d : Int) > 255
      · rw [if_pos hd2]; exact bad
      rw [if_neg hd2, u32_join _ d (by omega) (by omega) (by omega) (by omega), show wrap64 (3 + 1) = 4 by unfold wrap64; omega]
      rw [text_Get4.l0, if_neg (by simp)]
      refine ⟨_, true, rfl, fun h => by (cases h), fun _ => ⟨a, b, c, d, by omega, by omega, by omega, by omega, by omega, ?_⟩⟩
      rw [← hj]
      simp only [List.map_cons, List.map_nil, ← da, ← db, ← dc, ← dd]
  · rw [if_neg hl]
    exact ⟨0, false, rfl, fun _ => rfl, fun h => by cases h⟩

theorem lowval_hex (c : UInt8) (d : Nat) (h : lowval c = some d) : hexdigit d = c := by
  unfold lowval at h
  unfold hexdigit
  split at h
  · injection h with h
    subst h
    rw [if_pos (by omega)]
    rw [show 48 + (c.toNat - 48) = c.toNat by omega]
    simp
  · split at h
    · injection h with h
      subst h
      rw [if_neg (by omega)]
      rw [show 87 + (c.toNat - 87) = c.toNat by omega]
      simp
    · cases h
theorem hex_back (s : ByteArray) (he : s.size % 2 = 0) (h : unhexOk s = true) : hexOf (unhexBytes s) = s.data.toList := by
  have hl : s.data.toList.length = s.size := by rw [Array.length_toList]; rfl
  have hall : ∀ i, i < s.size → ∃ d, lowval (s.data.toList.getD i 0) = some d := by
    intro i hi
    unfold unhexOk at h
    rw [List.all_eq_true] at h
    have hi2 : i < s.data.toList.length := by omega
    have := h _ (List.getElem_mem hi2)
    rw [List.getD, List.getElem?_eq_getElem hi2]
    exact Option.isSome_iff_exists.1 this
  have hnib : ∀ i, i < s.size → hexdigit (nib s i) = s.data.toList.getD i 0 := by
    intro i hi
    obtain ⟨d, hd⟩ := hall i hi
    have : nib s i = d := by unfold nib hv; rw [hd]; rfl
    rw [this]
    exact lowval_hex _ _ hd
  have pairs : ∀ n, 2 * n ≤ s.data.toList.length → ((List.range n).flatMap fun k => [s.data.toList.getD (2 * k) 0, s.data.toList.getD (2 * k + 1) 0]) = s.data.toList.take (2 * n) := by
    intro n
    induction n with
    | zero => intro _; simp
    | succ n ih =>
      intro hn
      rw [List.range_succ, List.flatMap_append, ih (by omega)]
      have e1 : 2 * (n + 1) = 2 * n + 1 + 1 := by omega
      rw [e1, List.take_succ_eq_append_getElem (by omega), List.take_succ_eq_append_getElem (by omega)]
      have g1 : s.data.toList.getD (2 * n) 0 = s.data.toList[2 * n]'(by omega) := by rw [List.getD, List.getElem?_eq_getElem (show 2 * n < s.data.toList.length by omega)]; rfl
      have g2 : s.data.toList.getD (2 * n + 1) 0 = s.data.toList[2 * n + 1]'(by omega) := by rw [List.getD, List.getElem?_eq_getElem (show 2 * n + 1 < s.data.toList.length by omega)]; rfl
      rw [List.append_assoc]
      simp only [List.flatMap_cons, List.flatMap_nil, List.append_nil, g1, g2, List.cons_append, List.nil_append]
  have hp := pairs (s.size / 2) (by omega)
  rw [show 2 * (s.size / 2) = s.size by omega, ← hl, List.take_length] at hp
  rw [← hp]
  unfold hexOf unhexBytes
  rw [List.flatMap_map, hl]
  have congr : ∀ (l : List Nat) (f g : Nat → List UInt8), (∀ k ∈ l, f k = g k) → l.flatMap f = l.flatMap g := by
    intro l f g h
    induction l with
    | nil => rfl
    | cons x l ih => rw [List.flatMap_cons, List.flatMap_cons, h x (by simp), ih fun k hk => h k (by simp [hk])]
  apply congr
  intro k hk
  have hk2 : k < s.size / 2 := List.mem_range.1 hk
  have h1 := nib_lt s (2 * k)
  have h2 := nib_lt s (2 * k + 1)
  have e : ((nib s (2 * k) * 16 + nib s (2 * k + 1)).toUInt8).toNat = nib s (2 * k) * 16 + nib s (2 * k + 1) := by
    simp [Nat.toUInt8, UInt8.toNat_ofNat']
    omega
  rw [e, show (nib s (2 * k) * 16 + nib s (2 * k + 1)) / 16 = nib s (2 * k) by omega, show (nib s (2 * k) * 16 + nib s (2 * k + 1)) % 16 = nib s (2 * k + 1) by omega, hnib _ (by omega), hnib _ (by omega)]

end Go.Proofs.YtmegbllhidkmoaaDoor.Tx

/- The plain laws of Put6 and Get6: what is written is read again. -/
namespace Go.Proofs.YtmegbllhidkmoaaDoor.Tx
open Go.RowKit Go.Lib Go.Proofs.YtmegbllhidkmoaaDoorW.PrintWords Go.Proofs.YtmegbllhidkmoaaDoorW.PrintLast Go.Proofs.YtmegbllhidkmoaaDoorW.PrintMore Go.Proofs.YtmegbllhidkmoaaDoor.Plain
set_option linter.unusedVariables false

theorem wraps_u64 (n : Int) (h₀ : 0 ≤ n) (h₁ : n < 2 ^ 64) : IntKind.u64.wrap n = n := by
  simp [IntKind.wrap, IntKind.bits, IntKind.signed]; omega
theorem wrap_u64 (n : Int) : IntKind.u64.wrap n = n % 18446744073709551616 := by simp [IntKind.wrap, IntKind.bits, IntKind.signed]
theorem u64_or (i : Nat) (x y : Int) (hx₀ : 0 ≤ x) (hx : x % 2 ^ i = 0) (hx₁ : x < 18446744073709551616) (hy₀ : 0 ≤ y) (hy : y < 2 ^ i) (hi : i ≤ 64) : Go.bits .or .u64 x y = x + y :=
  bits_join .u64 64 (by decide) wraps_u64 i x y hx₀ hx (by omega) hy₀ hy (by
    have : (2 : Int) ^ i ≤ 2 ^ 64 := by exact_mod_cast Nat.pow_le_pow_right (by decide) hi
    omega)
theorem u64_or_comm (x y : Int) (hx₀ : 0 ≤ x) (hx₁ : x < 18446744073709551616) (hy₀ : 0 ≤ y) (hy : y < 18446744073709551616) : Go.bits .or .u64 x y = Go.bits .or .u64 y x := by
  obtain ⟨a, rfl⟩ := Int.eq_ofNat_of_zero_le hx₀
  obtain ⟨b, rfl⟩ := Int.eq_ofNat_of_zero_le hy₀
  rw [(bits_nat .u64 64 (by decide) wraps_u64 a b (by omega) (by omega)).2, (bits_nat .u64 64 (by decide) wraps_u64 b a (by omega) (by omega)).2, Nat.or_comm]
theorem shr64 (n : Int) (j : Nat) (hj : j ≤ 64) (sh : Int) (e : sh = (j : Int)) : shr .u64 n sh = n / 2 ^ j := by
  subst e
  unfold shr
  rw [Int.toNat_natCast, Nat.min_eq_left (by simpa [IntKind.bits] using hj)]
theorem shl64 (n : Int) (j : Nat) (hj : j ≤ 64) (sh : Int) (e : sh = (j : Int)) : shl .u64 n sh = (n * 2 ^ j) % 18446744073709551616 := by
  subst e
  unfold shl
  rw [Int.toNat_natCast, Nat.min_eq_left (by simpa [IntKind.bits] using hj), wrap_u64]

/-- The group i of an address. -/
def grp (hi lo : Int) : Nat → Nat
  | 0 => (hi / 281474976710656 % 65536).toNat
  | 1 => (hi / 4294967296 % 65536).toNat
  | 2 => (hi / 65536 % 65536).toNat
  | 3 => (hi % 65536).toNat
  | 4 => (lo / 281474976710656 % 65536).toNat
  | 5 => (lo / 4294967296 % 65536).toNat
  | 6 => (lo / 65536 % 65536).toNat
  | _ => (lo % 65536).toNat
theorem grp_le (hi lo : Int) (i : Nat) : grp hi lo i ≤ 65535 := by
  unfold grp
  split <;> omega

theorem down_far (hi lo s : Int) (j : Nat) (hs : 64 ≤ s) (hj : s = 64 + (j : Int)) (h64 : j ≤ 64) : addr_Down.f hi lo s = some (0, hi / 2 ^ j) := by
  have e : wrap64 (s - 64) = (j : Int) := by unfold wrap64; omega
  unfold addr_Down.f
  rw [if_neg (by omega), if_pos hs, e, if_pos (by omega), shr64 hi j h64 _ rfl]
theorem down_near (hi lo s : Int) (j : Nat) (hj : s = (j : Int)) (h0 : 0 < j) (h64 : j < 64) :
    addr_Down.f hi lo s = some (hi / 2 ^ j, Go.bits .or .u64 (lo / 2 ^ j) ((hi * 2 ^ (64 - j)) % 18446744073709551616)) := by
  have e : wrap64 (64 - s) = ((64 - j : Nat) : Int) := by unfold wrap64; omega
  unfold addr_Down.f
  rw [if_neg (by omega), if_neg (by omega), if_pos (by omega), e, if_pos (by omega), shr64 hi j (by omega) s hj, shr64 lo j (by omega) s hj, shl64 hi (64 - j) (by omega) _ rfl]
theorem wrap64_id (n : Int) (h0 : -9223372036854775808 ≤ n) (h1 : n ≤ 9223372036854775807) : wrap64 n = n := by unfold wrap64; omega

/-- The words of groups from one on up to ahead of another one. -/
def wds (hi lo : Int) (i n : Nat) : List (List UInt8) := (List.range' i n).map fun j => hexDigits (grp hi lo j)
def mkB (l : List UInt8) : ByteArray := ⟨l.toArray⟩
theorem mkB_list (l : List UInt8) : (mkB l).data.toList = l := by simp [mkB]
theorem mkB_size (l : List UInt8) : (mkB l).size = l.length := by simp [mkB, ByteArray.size]
theorem join_len_le (c : UInt8) : ∀ (ls : List (List UInt8)) (m : Nat), (∀ x ∈ ls, x.length ≤ m) → (join ls [c]).length ≤ ls.length * (m + 1)
  | [], _, _ => by simp [join_nil]
  | [x], m, h => by rw [join_one]; have := h x (by simp); simp; omega
  | x :: y :: t, m, h => by
    have h1 := h x (by simp)
    have h2 := join_len_le c (y :: t) m (fun z hz => h z (List.mem_cons_of_mem _ hz))
    rw [join_cons2 c x _ (by simp)]
    simp only [List.length_append, List.length_cons] at h2 ⊢
    have e : (t.length + 1 + 1) * (m + 1) = (t.length + 1) * (m + 1) + (m + 1) := by rw [Nat.add_mul (t.length + 1) 1, Nat.one_mul]
    rw [e]
    omega
theorem wds_len (hi lo : Int) (i n : Nat) : (wds hi lo i n).length = n := by simp [wds]
theorem wds_mem (hi lo : Int) (i n : Nat) : ∀ x ∈ wds hi lo i n, ∃ j, i ≤ j ∧ j < i + n ∧ x = hexDigits (grp hi lo j) := fun x hx => by
  simp only [wds, List.mem_map, List.mem_range'_1] at hx
  obtain ⟨j, ⟨h1, h2⟩, rfl⟩ := hx
  exact ⟨j, h1, h2, rfl⟩
theorem wds_short (hi lo : Int) (i n : Nat) : ∀ x ∈ wds hi lo i n, x.length ≤ 4 := fun x hx => by
  obtain ⟨j, _, _, rfl⟩ := wds_mem hi lo i n x hx
  exact (hexDigits_len _ (grp_le hi lo j)).2
theorem wds_word (hi lo : Int) (i n : Nat) : ∀ x ∈ wds hi lo i n, x ≠ [] ∧ (58 : UInt8) ∉ x := fun x hx => by
  obtain ⟨j, _, _, rfl⟩ := wds_mem hi lo i n x hx
  exact hexDigits_word _ (grp_le hi lo j)
end Go.Proofs.YtmegbllhidkmoaaDoor.Tx

/- The plain law of Get6 at what Put6 writes. -/
namespace Go.Proofs.YtmegbllhidkmoaaDoor.Tx
open Go.RowKit Go.Lib Go.Proofs.YtmegbllhidkmoaaDoorW.PrintWords Go.Proofs.YtmegbllhidkmoaaDoorW.PrintLast Go.Proofs.YtmegbllhidkmoaaDoorW.PrintMore Go.Proofs.YtmegbllhidkmoaaDoor.Plain
set_option linter.unusedVariables false

/-- The groups as numbers. -/
def gint (hi lo : Int) (i n : Nat) : List Int := (List.range' i n).map fun j => (grp hi lo j : Int)
theorem partVal_hex (p : ByteArray) (g : Nat) (hg : g ≤ 65535) (hp : p.data.toList = hexDigits g) : partVal p = some g := by
  have hl := hexDigits_len g hg
  have hs : p.size = (hexDigits g).length := by rw [← hp, Array.length_toList]; rfl
  unfold partVal hex16
  rw [if_pos (by omega), hp, if_neg (hexDigits_word g hg).1, parse16_hex g hg]
theorem rowGo_words (hi lo : Int) : ∀ (n i : Nat) (ps : List ByteArray) (acc : List Int), ps.map (·.data.toList) = wds hi lo i n → rowGo ps acc = some (acc ++ gint hi lo i n)
  | 0, i, ps, acc, h => by
    have : ps = [] := by simpa [wds] using h
    subst this
    simp [rowGo, gint]
  | n + 1, i, ps, acc, h => by
    cases ps with
    | nil => simp [wds, List.range'_succ] at h
    | cons p ps =>
      simp only [wds, List.range'_succ, List.map_cons, List.cons.injEq] at h
      rw [rowGo, partVal_hex p (grp hi lo i) (grp_le hi lo i) h.1]
      simp only
      rw [rowGo_words hi lo n (i + 1) ps _ h.2]
      simp [gint, List.range'_succ]
theorem wds_join_len (hi lo : Int) (i n : Nat) : (join (wds hi lo i n) [58]).length ≤ n * 5 := by
  have := join_len_le 58 (wds hi lo i n) 4 (wds_short hi lo i n)
  rwa [wds_len] at this
theorem wds_join_ne (hi lo : Int) (i n : Nat) (hn : n ≠ 0) : join (wds hi lo i n) [58] ≠ [] := by
  obtain ⟨c, t, e, _⟩ := (clean_join (wds hi lo i n) (wds_word hi lo i n)).2 (fun e => hn (by have := wds_len hi lo i n; rw [e] at this; exact this.symm))
  rw [e]; simp
theorem row_words (hi lo : Int) (i n : Nat) (hn : n ≤ 8) : text_row.f (mkB (join (wds hi lo i n) [58])) = some (gint hi lo i n, true) := by
  have hl := wds_join_len hi lo i n
  unfold text_row.f
  rw [if_pos (by rw [mkB_size]; omega), ByteArray.toList_eq, mkB_list]
  by_cases h0 : n = 0
  · subst h0
    rw [if_pos (by simp [wds, join_nil])]
    simp [gint]
  · rw [if_neg (wds_join_ne hi lo i n h0)]
    have hp : (rowParts (mkB (join (wds hi lo i n) [58]))).map (·.data.toList) = wds hi lo i n := by
      unfold rowParts
      rw [splitB_splitL, mkB_list]
      exact splitL_join 58 _ (fun e => h0 (by have := wds_len hi lo i n; rw [e] at this; exact this.symm)) (fun x hx => (wds_word hi lo i n x hx).2)
    rw [rowGo_words hi lo n i _ [] hp]
    simp

theorem up16 (A B : Int) (h0 : 0 ≤ A) (h1 : A < 18446744073709551616) (h2 : 0 ≤ B) (h3 : B < 18446744073709551616) :
    addr_Up.f A B 16 = some ((A * 65536) % 18446744073709551616 + B / 281474976710656, (B * 65536) % 18446744073709551616) := by
  unfold addr_Up.f
  rw [if_neg (by decide), if_neg (by decide), if_pos (by decide), show wrap64 (64 - 16) = 48 from by unfold wrap64; omega, if_pos (by decide)]
  rw [shl64 A 16 (by decide) 16 rfl, shl64 B 16 (by decide) 16 rfl, shr64 B 48 (by decide) 48 rfl]
  rw [u64_or 16 _ _ (by omega) (by omega) (by omega) (by omega) (by omega) (by omega)]
  have e1 : (2 : Int) ^ 16 = 65536 := by decide
  have e2 : (2 : Int) ^ 48 = 281474976710656 := by decide
  rw [e1, e2]
theorem fold_step (k : Nat) (G : List Int) (i : Nat) (A B A' B' g : Int) (h0 : 0 ≤ A) (h1 : A < 18446744073709551616) (h2 : 0 ≤ B) (h3 : B < 18446744073709551616) (hl : G.length = 8) (hi : i < 8)
    (hg : G.getD i 0 = g) (hg0 : 0 ≤ g) (hg1 : g ≤ 65535) (hA : A' = (A * 65536) % 18446744073709551616 + B / 281474976710656) (hB : B' = (B * 65536) % 18446744073709551616 + g) :
    text_Get6.l0 (k + 1) G 8 (i : Int) A B = text_Get6.l0 k G 8 ((i + 1 : Nat) : Int) A' B' := by
  rw [text_Get6.l0, if_pos (by omega), if_pos (by omega), if_pos (by rw [hl]; omega), up16 A B h0 h1 h2 h3, Option.bind_some]
  simp only
  have e : rd G (i : Int) = g := by unfold rd; rw [Int.toNat_natCast]; exact hg
  rw [e, u64_or 16 _ _ (by omega) (by omega) (by omega) hg0 (by omega) (by omega), wrap64_id _ (by omega) (by omega), hA, hB]
  rfl
theorem fold_all (hi lo : Int) (h0 : 0 ≤ hi) (h1 : hi < 18446744073709551616) (h2 : 0 ≤ lo) (h3 : lo < 18446744073709551616) (k : Nat) (hk : 9 ≤ k) :
    text_Get6.l0 k (gint hi lo 0 8) 8 0 0 0 = some (hi, lo, true) := by
  obtain ⟨m, rfl⟩ : ∃ m, k = m + 9 := ⟨k - 9, by omega⟩
  have hl : (gint hi lo 0 8).length = 8 := by simp [gint]
  have e0 : ((0 : Int)) = ((0 : Nat) : Int) := rfl
  have hgr : ∀ i, i < 8 → (gint hi lo 0 8).getD i 0 = (grp hi lo i : Int) := fun i hi' => by
    simp only [gint, List.getD_eq_getElem?_getD, List.getElem?_map]
    rw [List.getElem?_range' hi']
    simp
  rw [show text_Get6.l0 (m + 9) (gint hi lo 0 8) 8 0 0 0 = text_Get6.l0 (m + 9) (gint hi lo 0 8) 8 ((0 : Nat) : Int) 0 0 from rfl]
  rw [fold_step (m + 8) _ 0 0 0 0 (hi / 281474976710656) (grp hi lo 0 : Int) (by omega) (by omega) (by omega) (by omega) hl (by omega) (hgr 0 (by omega)) (by omega) (by have := grp_le hi lo 0; omega) (by omega) (by simp only [grp]; omega)]
  rw [fold_step (m + 7) _ 1 0 (hi / 281474976710656) 0 (hi / 4294967296) (grp hi lo 1 : Int) (by omega) (by omega) (by omega) (by omega) hl (by omega) (hgr 1 (by omega)) (by omega) (by have := grp_le hi lo 1; omega) (by omega) (by simp only [grp]; omega)]
  rw [fold_step (m + 6) _ 2 0 (hi / 4294967296) 0 (hi / 65536) (grp hi lo 2 : Int) (by omega) (by omega) (by omega) (by omega) hl (by omega) (hgr 2 (by omega)) (by omega) (by have := grp_le hi lo 2; omega) (by omega) (by simp only [grp]; omega)]
  rw [fold_step (m + 5) _ 3 0 (hi / 65536) 0 hi (grp hi lo 3 : Int) (by omega) (by omega) (by omega) (by omega) hl (by omega) (hgr 3 (by omega)) (by omega) (by have := grp_le hi lo 3; omega) (by omega) (by simp only [grp]; omega)]
  rw [fold_step (m + 4) _ 4 0 hi (hi / 281474976710656) ((hi * 65536) % 18446744073709551616 + lo / 281474976710656) (grp hi lo 4 : Int) (by omega) (by omega) (by omega) (by omega) hl (by omega) (hgr 4 (by omega)) (by omega) (by have := grp_le hi lo 4; omega) (by omega) (by simp only [grp]; omega)]
  rw [fold_step (m + 3) _ 5 (hi / 281474976710656) ((hi * 65536) % 18446744073709551616 + lo / 281474976710656) (hi / 4294967296) ((hi * 4294967296) % 18446744073709551616 + lo / 4294967296) (grp hi lo 5 : Int) (by omega) (by omega) (by omega) (by omega) hl (by omega) (hgr 5 (by omega)) (by omega) (by have := grp_le hi lo 5; omega) (by omega) (by simp only [grp]; omega)]
  rw [fold_step (m + 2) _ 6 (hi / 4294967296) ((hi * 4294967296) % 18446744073709551616 + lo / 4294967296) (hi / 65536) ((hi * 281474976710656) % 18446744073709551616 + lo / 65536) (grp hi lo 6 : Int) (by omega) (by omega) (by omega) (by omega) hl (by omega) (hgr 6 (by omega)) (by omega) (by have := grp_le hi lo 6; omega) (by omega) (by simp only [grp]; omega)]
  rw [fold_step (m + 1) _ 7 (hi / 65536) ((hi * 281474976710656) % 18446744073709551616 + lo / 65536) hi lo (grp hi lo 7 : Int) (by omega) (by omega) (by omega) (by omega) hl (by omega) (hgr 7 (by omega)) (by omega) (by have := grp_le hi lo 7; omega) (by omega) (by simp only [grp]; omega)]
  rw [text_Get6.l0, if_neg (by omega)]

end Go.Proofs.YtmegbllhidkmoaaDoor.Tx

/- Plain laws: dotted addresses, numbers, bytes and prefixes that are written are read again. -/
namespace Go.Proofs.YtmegbllhidkmoaaDoor.Tx
open Go.RowKit Go.Lib Go.Proofs.YtmegbllhidkmoaaDoorW.PrintWords Go.Proofs.YtmegbllhidkmoaaDoorW.PrintLast Go.Proofs.YtmegbllhidkmoaaDoorW.PrintMore Go.Proofs.YtmegbllhidkmoaaDoor.Plain
set_option linter.unusedVariables false

theorem up_of {α : Type} {f : Nat → Option α} (hm : ∀ k, LeO (f k) (f (k + 1))) {r : α} {k : Nat} (h : f k = some r) : ∀ k', k ≤ k' → f k' = some r := by
  intro k' hk
  induction k' with
  | zero =>
    obtain rfl : k = 0 := by omega
    exact h
  | succ n ih =>
    by_cases e : k = n + 1
    · subst e; exact h
    · exact hm n _ (ih (by omega))

theorem decD_chars (u : Nat) : ∀ c ∈ decDigits u, 48 ≤ c.toNat ∧ c.toNat ≤ 57 := by
  induction u using Nat.strongRecOn with
  | ind u ih =>
    intro c hc
    rw [decDigits] at hc
    split at hc
    · rename_i hu
      rw [List.mem_singleton] at hc; subst hc
      rw [UInt8.toNat_ofNat']; omega
    · rename_i hu
      rw [List.mem_append] at hc
      rcases hc with hc | hc
      · exact ih (u / 10) (by omega) c hc
      · rw [List.mem_singleton] at hc; subst hc
        rw [UInt8.toNat_ofNat']; omega
theorem decD_ne (u : Nat) : decDigits u ≠ [] := by
  rw [decDigits]; split <;> simp
theorem decD_no (u : Nat) (c : UInt8) (h : c.toNat < 48 ∨ 57 < c.toNat) : c ∉ decDigits u := fun m => by
  have := decD_chars u c m; omega
theorem parseM_app (M : Nat) (m : List UInt8) : ∀ (l : List UInt8) (a b : Nat), parseUintM M a l = .ok b → parseUintM M a (l ++ m) = parseUintM M b m
  | [], a, b, h => by
    simp only [parseUintM] at h
    injection h with h
    rw [h]; rfl
  | c :: l, a, b, h => by
    simp only [parseUintM] at h
    rw [List.cons_append, parseUintM]
    split at h
    · rename_i h1
      rw [if_pos h1]
      split at h
      · cases h
      · rename_i h2
        rw [if_neg h2]
        split at h
        · cases h
        · rename_i h3
          rw [if_neg h3]
          exact parseM_app M m l _ b h
    · cases h
theorem parse_dec (u : Nat) (h : u ≤ 18446744073709551615) : parseUintM 18446744073709551615 0 (decDigits u) = .ok u := by
  induction u using Nat.strongRecOn with
  | ind u ih =>
    rw [decDigits]
    split
    · rename_i hu
      have e : (UInt8.ofNat (48 + u)).toNat = 48 + u := by rw [UInt8.toNat_ofNat']; omega
      rw [parseUintM, if_pos (by omega), if_neg (by omega), if_neg (by omega), parseUintM, e]
      congr 1; omega
    · rename_i hu
      rw [parseM_app _ _ _ 0 (u / 10) (ih (u / 10) (by omega) (by omega))]
      have e : (UInt8.ofNat (48 + u % 10)).toNat = 48 + u % 10 := by rw [UInt8.toNat_ofNat']; omega
      rw [parseUintM, if_pos (by omega), if_neg (by omega), if_neg (by omega), parseUintM, e]
      congr 1; omega
theorem decD_len (u : Nat) (h : u ≤ 18446744073709551615) : (decDigits u).length ≤ 20 := by
  have step : ∀ (m : Nat) (u : Nat), u < 10 ^ (m + 1) → (decDigits u).length ≤ m + 1 := by
    intro m
    induction m with
    | zero => intro u hu; rw [decDigits, dif_pos (by simpa using hu)]; simp
    | succ m ih =>
      intro u hu
      rw [decDigits]; split
      · simp
      · have h10 : 10 ^ (m + 1 + 1) = 10 ^ (m + 1) * 10 := Nat.pow_succ _ _
        have := ih (u / 10) (by omega)
        simp; omega
  exact step 19 u (by omega)
theorem getNum_dec (u : Nat) (h : u ≤ 4611686018427387904) : text_GetNum.f (mkB (decDigits u)) = some ((u : Int), true) := by
  have hl := decD_len u (by omega)
  unfold text_GetNum.f
  rw [if_pos (by rw [mkB_size]; omega), mkB_list]
  have e : parseUintB 64 (decDigits u) = .ok u := by
    unfold parseUintB
    rw [if_neg (decD_ne u), show (2 : Nat) ^ 64 - 1 = 18446744073709551615 from by decide]
    exact parse_dec u (by omega)
  rw [e]
  simp only [h, and_self, if_true]

theorem lowval_digit (d : Nat) (h : d < 16) : lowval (hexdigit d) = some d := by
  have : ∀ d : Fin 16, lowval (hexdigit d.val) = some d.val := by decide
  exact this ⟨d, h⟩
theorem hexOf_len : ∀ l : List UInt8, (hexOf l).length = 2 * l.length
  | [] => rfl
  | c :: l => by
    have := hexOf_len l
    simp only [hexOf, List.flatMap_cons, List.length_append, List.length_cons, List.length_nil] at this ⊢
    omega
theorem hexOf_at : ∀ (l : List UInt8) (k : Nat) (c : UInt8), l[k]? = some c → (hexOf l)[2 * k]? = some (hexdigit (c.toNat / 16)) ∧ (hexOf l)[2 * k + 1]? = some (hexdigit (c.toNat % 16))
  | [], k, c, h => by simp at h
  | x :: l, 0, c, h => by
    simp at h; subst h
    exact ⟨rfl, rfl⟩
  | x :: l, k + 1, c, h => by
    have ih := hexOf_at l k c (by simpa using h)
    have e : hexOf (x :: l) = hexdigit (x.toNat / 16) :: hexdigit (x.toNat % 16) :: hexOf l := rfl
    rw [e, show 2 * (k + 1) = 2 * k + 1 + 1 by omega]
    simpa using ih
end Go.Proofs.YtmegbllhidkmoaaDoor.Tx

/- Plain laws: prefixes that are written are read again. -/
namespace Go.Proofs.YtmegbllhidkmoaaDoor.Tx
open Go.RowKit Go.Lib Go.Proofs.YtmegbllhidkmoaaDoorW.PrintWords Go.Proofs.YtmegbllhidkmoaaDoorW.PrintLast Go.Proofs.YtmegbllhidkmoaaDoorW.PrintMore Go.Proofs.YtmegbllhidkmoaaDoor.Plain
set_option linter.unusedVariables false

theorem down_total (hi lo s : Int) (h0 : 0 ≤ s) (h1 : s ≤ 128) : ∃ x y, addr_Down.f hi lo s = some (x, y) := by
  by_cases a : s ≤ 0
  · exact ⟨hi, lo, by unfold addr_Down.f; rw [if_pos a]⟩
  · by_cases b : 64 ≤ s
    · exact ⟨_, _, down_far hi lo s (s - 64).toNat b (by omega) (by omega)⟩
    · exact ⟨_, _, down_near hi lo s s.toNat (by omega) (by omega) (by omega)⟩
theorem up_total (hi lo s : Int) (h0 : 0 ≤ s) (h1 : s ≤ 128) : ∃ x y, addr_Up.f hi lo s = some (x, y) := by
  unfold addr_Up.f
  by_cases a : s ≤ 0
  · exact ⟨hi, lo, by rw [if_pos a]⟩
  · rw [if_neg a]
    by_cases b : s ≥ 64
    · rw [if_pos b, if_pos (by unfold wrap64; omega)]; exact ⟨_, _, rfl⟩
    · rw [if_neg b, if_pos (by omega), if_pos (by unfold wrap64; omega)]; exact ⟨_, _, rfl⟩
theorem sound_at (hi lo n : Int) (hn0 : -9223372036854775808 ≤ n) (hn1 : n ≤ 9223372036854775807) : ∃ b : Bool, (∀ k, 1 ≤ k → addr_Sound.f k hi lo n = some b) ∧ (b = true → 0 ≤ n ∧ n ≤ 128) := by
  by_cases h0 : n < 0
  · refine ⟨false, fun k hk => ?_, fun h => by cases h⟩
    obtain ⟨m, rfl⟩ : ∃ m, k = m + 1 := ⟨k - 1, by omega⟩
    unfold addr_Sound.f addr_Clip.f
    rw [if_pos h0, addr_Clip.j0, if_pos rfl, Option.bind_some]
    rfl
  · by_cases h1 : n > 128
    · refine ⟨false, fun k hk => ?_, fun h => by cases h⟩
      obtain ⟨m, rfl⟩ : ∃ m, k = m + 1 := ⟨k - 1, by omega⟩
      unfold addr_Sound.f addr_Clip.f
      rw [if_neg h0, decide_eq_true h1, addr_Clip.j0, if_pos rfl, Option.bind_some]
      rfl
    · obtain ⟨x, y, e1⟩ := down_total hi lo (128 - n) (by omega) (by omega)
      obtain ⟨x', y', e2⟩ := up_total x y (128 - n) (by omega) (by omega)
      refine ⟨(x' == hi && (y' == lo)) && (n == n), fun k hk => ?_, fun _ => ⟨by omega, by omega⟩⟩
      obtain ⟨m, rfl⟩ : ∃ m, k = m + 1 := ⟨k - 1, by omega⟩
      unfold addr_Sound.f addr_Clip.f
      rw [if_neg h0, decide_eq_false h1, addr_Clip.j0, if_neg (by decide), wrap64_id _ (by omega) (by omega), e1, Option.bind_some]
      simp only
      rw [e2, Option.bind_some, Option.bind_some]
      rfl

theorem index_one (c : UInt8) (t : List UInt8) : ∀ h : List UInt8, c ∉ h → index (h ++ c :: t) [c] = (h.length : Int)
  | [], _ => by rw [List.nil_append, index_cons, if_pos rfl]; rfl
  | a :: h, hc => by
    have ih := index_one c t h (fun m => hc (List.mem_cons_of_mem _ m))
    rw [List.cons_append, index_cons, if_neg (fun e => hc (by rw [e]; exact List.mem_cons_self ..)), ih, if_neg (by omega)]
    simp
theorem cut_one (c : UInt8) (h t : List UInt8) (hc : c ∉ h) : cut (h ++ c :: t) [c] = (h, t, true) := by
  unfold cut
  rw [index_one c t h hc, if_pos (by omega)]
  simp

theorem get_four (k : Nat) (s : ByteArray) (n : Int) (ok : Bool) (h : text_Get4.f k s = some (n, ok)) (h0 : 0 ≤ n) (h1 : n < 18446744073709551616) : text_Get.f k 4 s = some (0, n, ok) := by
  unfold text_Get.f addr_Of4.f
  rw [if_pos rfl, h, Option.bind_some, Option.bind_some, wraps_u64 n h0 (by omega)]
theorem get_six (k : Nat) (s : ByteArray) (a b : Int) (ok : Bool) (h : text_Get6.f k s = some (a, b, ok)) : text_Get.f k 6 s = some (a, b, ok) := by
  unfold text_Get.f
  rw [if_neg (by decide), if_pos rfl, h, Option.bind_some]

end Go.Proofs.YtmegbllhidkmoaaDoor.Tx

/- Plain laws: Get6 and GetPrefix at every text; what stands in a text that Put6 writes. -/
namespace Go.Proofs.YtmegbllhidkmoaaDoor.Tx
open Go.RowKit Go.Lib Go.Proofs.YtmegbllhidkmoaaDoorW.PrintWords Go.Proofs.YtmegbllhidkmoaaDoorW.PrintLast Go.Proofs.YtmegbllhidkmoaaDoorW.PrintMore Go.Proofs.YtmegbllhidkmoaaDoor.Plain
set_option linter.unusedVariables false

theorem parse16_le : ∀ (l : List UInt8) (a n : Nat), a ≤ 65535 → parse16 a l = some n → n ≤ 65535
  | [], a, n, ha, h => by simp [parse16] at h; omega
  | c :: l, a, n, ha, h => by
    rw [parse16] at h
    cases hc : hexval c with
    | none => rw [hc] at h; simp at h
    | some d =>
      rw [hc] at h
      simp only at h
      split at h
      · simp at h
      · exact parse16_le l _ n (by omega) h
theorem partVal_le (p : ByteArray) (n : Nat) (h : partVal p = some n) : n ≤ 65535 := by
  unfold partVal hex16 at h
  split at h
  · split at h
    · simp at h
    · exact parse16_le _ 0 n (by omega) h
  · simp at h
theorem rowGo_all : ∀ (ps : List ByteArray) (acc l : List Int), (∀ x ∈ acc, 0 ≤ x ∧ x ≤ 65535) → rowGo ps acc = some l → l.length = acc.length + ps.length ∧ ∀ x ∈ l, 0 ≤ x ∧ x ≤ 65535
  | [], acc, l, ha, h => by
    simp only [rowGo, Option.some.injEq] at h
    subst h; exact ⟨rfl, ha⟩
  | p :: ps, acc, l, ha, h => by
    rw [rowGo] at h
    cases hp : partVal p with
    | none => rw [hp] at h; simp at h
    | some n =>
      rw [hp] at h
      simp only at h
      have hn := partVal_le p n hp
      have ih := rowGo_all ps _ l (fun x hx => by
        rw [List.mem_append, List.mem_singleton] at hx
        rcases hx with hx | rfl
        · exact ha x hx
        · omega) h
      refine ⟨?_, ih.2⟩
      rw [ih.1]; simp; omega
theorem splitL_len (c : UInt8) : ∀ l : List UInt8, (splitL c l).length ≤ l.length + 1
  | [] => by simp [splitL]
  | a :: l => by
    have ih := splitL_len c l
    rw [splitL]
    split
    · simp; omega
    · split
      · rename_i e; rw [e] at ih; simp at ih ⊢; omega
      · rename_i e; exact absurd e (splitL_ne c l)
theorem row_all (s : ByteArray) (h : s.size ≤ 65536) : ∃ (l : List Int) (ok : Bool), text_row.f s = some (l, ok) ∧ l.length ≤ 65537 ∧ ∀ x ∈ l, 0 ≤ x ∧ x ≤ 65535 := by
  unfold text_row.f
  rw [if_pos (by omega)]
  by_cases he : s.toList = []
  · rw [if_pos he]; exact ⟨[], true, rfl, by simp, fun x hx => by cases hx⟩
  · rw [if_neg he]
    cases hr : rowGo (rowParts s) [] with
    | none => exact ⟨[], false, rfl, by simp, fun x hx => by cases hx⟩
    | some l =>
      obtain ⟨h1, h2⟩ := rowGo_all _ _ _ (fun x hx => by cases hx) hr
      refine ⟨l, true, rfl, ?_, h2⟩
      have e := splitB_splitL 58 s
      have e2 : (rowParts s).length = (splitL 58 s.data.toList).length := by rw [← e, List.length_map]; rfl
      have e3 := splitL_len 58 s.data.toList
      have e4 : s.data.toList.length = s.size := by rw [Array.length_toList]; rfl
      rw [h1, e2]; simp; omega
theorem fold_any (G : List Int) (hl : G.length = 8) (hg : ∀ x ∈ G, 0 ≤ x ∧ x ≤ 65535) : ∀ (k i : Nat) (A B : Int), i ≤ 8 → 9 - i ≤ k → 0 ≤ A → A < 18446744073709551616 → 0 ≤ B → B < 18446744073709551616 →
    ∃ A' B', text_Get6.l0 k G 8 (i : Int) A B = some (A', B', true) ∧ 0 ≤ A' ∧ A' < 18446744073709551616 ∧ 0 ≤ B' ∧ B' < 18446744073709551616
  | 0, i, _, _, h, hk, _, _, _, _ => by omega
  | k + 1, i, A, B, hi, hk, a0, a1, b0, b1 => by
    by_cases hlt : i < 8
    · have hlt' : i < G.length := by omega
      have hm := hg G[i] (List.getElem_mem hlt')
      rw [fold_step k G i A B _ _ G[i] a0 a1 b0 b1 hl hlt (by rw [List.getD_eq_getElem?_getD, List.getElem?_eq_getElem hlt']; rfl) hm.1 hm.2 rfl rfl]
      exact fold_any G hl hg k (i + 1) _ _ (by omega) (by omega) (by omega) (by omega) (by omega) (by omega)
    · obtain rfl : i = 8 := by omega
      rw [text_Get6.l0, if_neg (by omega)]
      exact ⟨A, B, rfl, a0, a1, b0, b1⟩
theorem cut_sizes (l sep : List UInt8) : (cut l sep).1.length ≤ l.length ∧ (cut l sep).2.1.length ≤ l.length := by
  unfold cut
  split
  · simp; omega
  · simp
/-- Get6 at every text. -/
theorem get6_all (s : ByteArray) (h : s.size ≤ 65536) (k : Nat) (hk : 10 ≤ k) : ∃ a b ok, text_Get6.f k s = some (a, b, ok) ∧ 0 ≤ a ∧ a < 18446744073709551616 ∧ 0 ≤ b ∧ b < 18446744073709551616 ∧ (ok = false → a = 0 ∧ b = 0) := by
  obtain ⟨m, rfl⟩ : ∃ m, k = m + 1 := ⟨k - 1, by omega⟩
  have hl : s.data.toList.length = s.size := by rw [Array.length_toList]; rfl
  have hcs := cut_sizes s.data.toList [58, 58]
  unfold text_Get6.f strings_Cut.f
  rw [if_pos (by omega), Option.bind_some, show (⟨#[58, 58]⟩ : ByteArray).data.toList = [58, 58] from rfl]
  obtain ⟨x, o1, e1, l1, g1⟩ := row_all (mkB (cut s.data.toList [58, 58]).1) (by rw [mkB_size]; omega)
  obtain ⟨y, o2, e2, l2, g2⟩ := row_all (mkB (cut s.data.toList [58, 58]).2.1) (by rw [mkB_size]; omega)
  simp only
  rw [show (⟨(cut s.data.toList [58, 58]).1.toArray⟩ : ByteArray) = mkB (cut s.data.toList [58, 58]).1 from rfl, e1, Option.bind_some,
    show (⟨(cut s.data.toList [58, 58]).2.1.toArray⟩ : ByteArray) = mkB (cut s.data.toList [58, 58]).2.1 from rfl, e2, Option.bind_some]
  simp only
  rw [wrap64_id _ (by omega) (by omega)]
  have bad : ∃ a b ok, text_Get6.j0 (m + 1) x y ((x.length : Int) + (y.length : Int)) true = some (a, b, ok) ∧ 0 ≤ a ∧ a < 18446744073709551616 ∧ 0 ≤ b ∧ b < 18446744073709551616 ∧ (ok = false → a = 0 ∧ b = 0) := by
    rw [text_Get6.j0, if_pos rfl]
    exact ⟨0, 0, false, rfl, by decide, by decide, by decide, by decide, fun _ => ⟨rfl, rfl⟩⟩
  have good : x.length + y.length ≤ 8 → ∃ a b ok, text_Get6.j0 (m + 1) x y ((x.length : Int) + (y.length : Int)) false = some (a, b, ok) ∧ 0 ≤ a ∧ a < 18446744073709551616 ∧ 0 ≤ b ∧ b < 18446744073709551616 ∧ (ok = false → a = 0 ∧ b = 0) := by
    intro hle
    rw [text_Get6.j0, if_neg (by decide), wrap64_id _ (by omega) (by omega), if_pos (by omega), if_pos (by omega), Option.bind_some]
    rw [if_pos (by simp only [List.length_append, List.length_replicate]; omega), Option.bind_some]
    have h8 : (x ++ List.replicate (8 - ((x.length : Int) + (y.length : Int))).toNat 0 ++ y).length = 8 := by
      simp only [List.length_append, List.length_replicate]; omega
    obtain ⟨A, B, e, a0, a1, b0, b1⟩ := fold_any _ h8 (fun z hz => by
      rw [List.mem_append, List.mem_append] at hz
      rcases hz with (hz | hz) | hz
      · exact g1 z hz
      · have := List.eq_of_mem_replicate hz; omega
      · exact g2 z hz) m 0 0 0 (by omega) (by omega) (by omega) (by omega) (by omega) (by omega)
    rw [h8]
    exact ⟨A, B, true, e, a0, a1, b0, b1, fun h => by cases h⟩
  cases o1 with
  | false => rw [if_neg (by decide)]; exact bad
  | true =>
    rw [if_pos rfl]
    cases o2 with
    | false => rw [if_neg (by decide)]; exact bad
    | true =>
      rw [if_pos rfl]
      cases hsh : (cut s.data.toList [58, 58]).2.2 with
      | true =>
        rw [if_pos rfl]
        by_cases h7 : (x.length : Int) + (y.length : Int) > 7
        · rw [if_pos h7]; exact bad
        · rw [if_neg h7]; exact good (by omega)
      | false =>
        rw [if_neg (by decide)]
        by_cases h8 : (x.length : Int) + (y.length : Int) = 8
        · rw [h8, show ((8 : Int) != 8) = false from by decide, ← h8]; exact good (by omega)
        · rw [bne_iff_ne.2 h8]; exact bad

theorem get4_all (s : ByteArray) (h : s.size ≤ 65536) (k : Nat) (hk : 8 ≤ k) : ∃ n ok, text_Get4.f k s = some (n, ok) ∧ 0 ≤ n ∧ n < 4294967296 := by
  obtain ⟨n, ok, e, e0, e1⟩ := dotted s h
  refine ⟨n, ok, up_of (f := fun k => text_Get4.f k s) (fun k => text_Get4.mono _ k) (k := 8) e k hk, ?_⟩
  cases ok with
  | false => have := e0 rfl; omega
  | true => obtain ⟨a, b, c, d, h1, h2, h3, h4, h5, _⟩ := e1 rfl; omega
theorem bt_mkB (l : List UInt8) (i : Nat) (c : UInt8) (h : l[i]? = some c) : bt (mkB l) (i : Int) = (c.toNat : Int) := by
  have hlt : i < l.length := by
    rcases Nat.lt_or_ge i l.length with x | x
    · exact x
    · rw [List.getElem?_eq_none x] at h; cases h
  unfold bt
  rw [dif_pos (by rw [mkB_size]; omega)]
  rw [List.getElem?_eq_getElem hlt] at h
  have := Option.some.inj h
  rw [← this]
  simp [mkB, ByteArray.getElem_eq_getElem_data]
end Go.Proofs.YtmegbllhidkmoaaDoor.Tx
