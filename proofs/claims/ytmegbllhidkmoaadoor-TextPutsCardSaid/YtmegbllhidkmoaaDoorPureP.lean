/- The plain law of TextPuts: addresses, prefixes, numbers and bytes are written as the reference writes them. -/
import Derived.Test.YtmegbllhidkmoaaDoorU4
import Derived.Test.YtmegbllhidkmoaaDoorPure
namespace Go.Proofs.YtmegbllhidkmoaaDoor.Ty
open Go.RowKit Go.Lib Go.Proofs.YtmegbllhidkmoaaDoorW.PrintWords Go.Proofs.YtmegbllhidkmoaaDoorW.PrintLast Go.Proofs.YtmegbllhidkmoaaDoorW.PrintMore Go.Proofs.YtmegbllhidkmoaaDoor.Plain Go.Proofs.YtmegbllhidkmoaaDoor.Tx
set_option linter.unusedVariables false

/-- The first of the longest rows of at least two groups that are 0, among the rows that P lets in. -/
def ZTop (hi lo : Int) (P : Nat → Nat → Prop) (from_ best : Int) : Prop :=
  (from_ = -1 ∧ best = 1 ∧ ∀ a' n', P a' n' → ZRow (grp hi lo) a' n' → n' ≤ 1) ∨
  ∃ a n : Nat, from_ = a ∧ best = n ∧ 2 ≤ n ∧ P a n ∧ ZRow (grp hi lo) a n ∧ ∀ a' n', P a' n' → ZRow (grp hi lo) a' n' → n' ≤ n ∧ (n' = n → a ≤ a')
theorem ztop_one {hi lo : Int} {P Q : Nat → Nat → Prop} (hpq : ∀ a n, 2 ≤ n → (P a n ↔ Q a n)) {f b f' b' : Int} (h : ZTop hi lo P f b) (h' : ZTop hi lo Q f' b') : f = f' ∧ b = b' := by
  rcases h with ⟨rfl, rfl, h⟩ | ⟨a, n, rfl, rfl, hn, hp, hz, h⟩ <;> rcases h' with ⟨rfl, rfl, h'⟩ | ⟨a', n', rfl, rfl, hn', hp', hz', h'⟩
  · exact ⟨rfl, rfl⟩
  · have := h a' n' ((hpq _ _ hn').2 hp') hz'; omega
  · have := h' a n ((hpq _ _ hn).1 hp) hz; omega
  · have h1 := h a' n' ((hpq _ _ hn').2 hp') hz'
    have h2 := h' a n ((hpq _ _ hn).1 hp) hz
    have : n = n' := by omega
    have h3 := h1.2 this.symm
    have h4 := h2.2 this
    constructor <;> omega

theorem zeros_top (hi lo : Int) (h0 : 0 ≤ hi) (h1 : hi < 18446744073709551616) (h2 : 0 ≤ lo) (h3 : lo < 18446744073709551616) :
    ∀ (k i : Nat) (from_ best : Int) (run : Nat), i ≤ 8 → 9 - i ≤ k → run ≤ i → ZRow (grp hi lo) (i - run) run → (run < i → grp hi lo (i - run - 1) ≠ 0) → ZTop hi lo (fun a n => a + n ≤ i) from_ best →
      ∃ f b, text_zeros.l0 k from_ best (run : Int) (i : Int) hi lo = some (f, b) ∧ ZTop hi lo (fun a n => a + n ≤ 8) f b
  | 0, i, _, _, _, h, hk, _, _, _, _ => by omega
  | k + 1, i, from_, best, run, hi8, hk, hr, hz, hmax, hI => by
    rw [text_zeros.l0]
    by_cases hlt : i < 8
    · rw [if_pos (by omega), group_at hi lo h0 h1 h2 h3 i hlt, Option.bind_some]
      have hbest : 1 ≤ best := by rcases hI with ⟨_, h, _⟩ | ⟨a, n, _, h, h', _⟩ <;> omega
      rw [wrap64_id ((i : Int) + 1) (by omega) (by omega), show ((i : Int) + 1) = ((i + 1 : Nat) : Int) by omega]
      by_cases hg : grp hi lo i = 0
      · rw [if_pos (by exact_mod_cast hg), wrap64_id ((run : Int) + 1) (by omega) (by omega), show ((run : Int) + 1) = ((run + 1 : Nat) : Int) by omega]
        have hz' : ZRow (grp hi lo) (i + 1 - (run + 1)) (run + 1) := fun j hj1 hj2 => by
          by_cases e : j = i
          · rw [e]; exact hg
          · exact hz j (by omega) (by omega)
        have hmax' : run + 1 < i + 1 → grp hi lo (i + 1 - (run + 1) - 1) ≠ 0 := fun h => by
          rw [show i + 1 - (run + 1) - 1 = i - run - 1 by omega]; exact hmax (by omega)
        have hlong : ∀ a' n', a' + n' = i + 1 → ZRow (grp hi lo) a' n' → n' ≤ run + 1 := fun a' n' he hr' => by
          rcases Nat.lt_or_ge (run + 1) n' with h | h
          · exact absurd (hr' (i - run - 1) (by omega) (by omega)) (hmax (by omega))
          · exact h
        by_cases hb : ((run + 1 : Nat) : Int) > best
        · rw [if_pos hb]
          have e : wrap64 (wrap64 ((i : Int) - ((run + 1 : Nat) : Int)) + 1) = ((i - run : Nat) : Int) := by rw [wrap64_id ((i : Int) - ((run + 1 : Nat) : Int)) (by omega) (by omega), wrap64_id _ (by omega) (by omega)]; omega
          rw [e]
          refine zeros_top hi lo h0 h1 h2 h3 k (i + 1) _ _ (run + 1) (by omega) (by omega) (by omega) hz' hmax' ?_
          refine .inr ⟨i - run, run + 1, rfl, rfl, by omega, by omega, ?_, fun a' n' hp hr' => ?_⟩
          · rw [show i - run = i + 1 - (run + 1) by omega]; exact hz'
          · by_cases he : a' + n' = i + 1
            · have := hlong a' n' he hr'; omega
            · rcases hI with ⟨_, hb1, hI⟩ | ⟨a, n, _, hb1, hn, _, _, hI⟩
              · have := hI a' n' (by omega) hr'; omega
              · have := hI a' n' (by omega) hr'; omega
        · rw [if_neg hb]
          refine zeros_top hi lo h0 h1 h2 h3 k (i + 1) _ _ (run + 1) (by omega) (by omega) (by omega) hz' hmax' ?_
          rcases hI with ⟨hf1, hb1, hI⟩ | ⟨a, n, hf1, hb1, hn, hp1, hr1, hI⟩
          · refine .inl ⟨hf1, hb1, fun a' n' hp hr' => ?_⟩
            by_cases he : a' + n' = i + 1
            · have := hlong a' n' he hr'; omega
            · exact hI a' n' (by omega) hr'
          · refine .inr ⟨a, n, hf1, hb1, hn, by omega, hr1, fun a' n' hp hr' => ?_⟩
            by_cases he : a' + n' = i + 1
            · have := hlong a' n' he hr'; omega
            · exact hI a' n' (by omega) hr'
      · rw [if_neg (by exact_mod_cast hg), if_neg (by omega)]
        have hno : ∀ a' n', 0 < n' → a' + n' = i + 1 → ¬ ZRow (grp hi lo) a' n' := fun a' n' h0' he hr' => hg (hr' i (by omega) (by omega))
        refine zeros_top hi lo h0 h1 h2 h3 k (i + 1) _ _ 0 (by omega) (by omega) (by omega) (fun j hj1 hj2 => by omega) (fun _ => by rw [show i + 1 - 0 - 1 = i by omega]; exact hg) ?_
        rcases hI with ⟨hf1, hb1, hI⟩ | ⟨a, n, hf1, hb1, hn, hp1, hr1, hI⟩
        · refine .inl ⟨hf1, hb1, fun a' n' hp hr' => ?_⟩
          rcases Nat.eq_zero_or_pos n' with h | h
          · omega
          · by_cases he : a' + n' = i + 1
            · exact absurd hr' (hno a' n' h he)
            · exact hI a' n' (by omega) hr'
        · refine .inr ⟨a, n, hf1, hb1, hn, by omega, hr1, fun a' n' hp hr' => ?_⟩
          rcases Nat.eq_zero_or_pos n' with h | h
          · omega
          · by_cases he : a' + n' = i + 1
            · exact absurd hr' (hno a' n' h he)
            · exact hI a' n' (by omega) hr'
    · rw [if_neg (by omega)]
      obtain rfl : i = 8 := by omega
      exact ⟨_, _, rfl, hI⟩

theorem join_snoc (c : UInt8) (x : List UInt8) : ∀ ws : List (List UInt8), ws ≠ [] → join (ws ++ [x]) [c] = join ws [c] ++ c :: x
  | [], h => absurd rfl h
  | [y], _ => by
    show join (y :: [x]) [c] = _
    rw [join_cons2 c y [x] (by simp), join_one, join_one]
  | y :: z :: t, _ => by
    show join (y :: (z :: t ++ [x])) [c] = _
    rw [join_cons2 c y _ (by simp), join_snoc c x (z :: t) (by simp), join_cons2 c y (z :: t) (by simp)]
    simp
theorem getLastD_app (p : List UInt8) (d : UInt8) : ∀ q : List UInt8, q ≠ [] → (p ++ q).getLastD d = q.getLastD d := fun q hq => by
  rw [List.getLastD_eq_getLast?, List.getLastD_eq_getLast?, List.getLast?_append, List.getLast?_eq_some_getLast hq]; rfl
theorem last_word (x : List UInt8) (h : x ≠ [] ∧ (58 : UInt8) ∉ x) : x.getLastD 0 ≠ 58 := fun e => by
  rw [List.getLastD_eq_getLast?, List.getLast?_eq_some_getLast h.1] at e
  exact h.2 (by rw [← show x.getLast h.1 = 58 from e]; exact List.getLast_mem h.1)
theorem join_last (ws : List (List UInt8)) (hne : ws ≠ []) (hw : ∀ x ∈ ws, x ≠ [] ∧ (58 : UInt8) ∉ x) : join ws [58] ≠ [] ∧ (join ws [58]).getLastD 0 ≠ 58 := by
  obtain ⟨ini, x, rfl⟩ : ∃ ini x, ws = ini ++ [x] := ⟨ws.dropLast, ws.getLast hne, (List.dropLast_concat_getLast hne).symm⟩
  have hx := hw x (by simp)
  by_cases hi : ini = []
  · subst hi
    rw [List.nil_append, join_one]
    exact ⟨hx.1, last_word x hx⟩
  · rw [join_snoc 58 x ini hi]
    refine ⟨by simp, ?_⟩
    rw [show join ini [58] ++ 58 :: x = (join ini [58] ++ [58]) ++ x by simp, getLastD_app _ _ x hx.1]
    exact last_word x hx
theorem wds_snoc (hi lo : Int) (a i : Nat) (h : a ≤ i) : wds hi lo a (i + 1 - a) = wds hi lo a (i - a) ++ [hexDigits (grp hi lo i)] := by
  obtain ⟨d, rfl⟩ : ∃ d, i = a + d := ⟨i - a, by omega⟩
  rw [show a + d + 1 - a = d + 1 by omega, show a + d - a = d by omega]
  unfold wds
  rw [List.range'_concat, List.map_append]
  simp
/-- One word more behind what is written. -/
def step6 (s x : List UInt8) : List UInt8 := (if s ≠ [] ∧ s.getLastD 0 ≠ 58 then s ++ [58] else s) ++ x
theorem step6_at (hi lo : Int) (a i : Nat) (h : a ≤ i) (pre : List UInt8) (hp : pre = [] ∨ pre.getLastD 0 = 58) :
    step6 (pre ++ join (wds hi lo a (i - a)) [58]) (hexDigits (grp hi lo i)) = pre ++ join (wds hi lo a (i + 1 - a)) [58] := by
  rw [wds_snoc hi lo a i h]
  unfold step6
  by_cases he : wds hi lo a (i - a) = []
  · rw [he, join_nil, List.append_nil, List.nil_append, join_one, if_neg (fun hc => by rcases hp with hp | hp; exact hc.1 hp; exact hc.2 hp)]
  · have hj := join_last _ he (wds_word hi lo a (i - a))
    rw [join_snoc 58 _ _ he, if_pos ⟨by simp [hj.1], by rw [getLastD_app _ _ _ hj.1]; exact hj.2⟩]
    simp
/-- The words of the groups. -/
def wd (hi lo : Int) (i : Nat) : List UInt8 := hexDigits (grp hi lo i)
theorem write6_tail (hi lo : Int) (best : Nat) (from_ : Int) (a : Nat) (pre : List UInt8) (hp : pre = [] ∨ pre.getLastD 0 = 58) : ∀ (m i : Nat), a ≤ i → i ≤ 8 → 8 - i ≤ m → (∀ j : Nat, i ≤ j → j < 8 → (j : Int) ≠ from_) →
    write6 (wd hi lo) best from_ m i (pre ++ join (wds hi lo a (i - a)) [58]) = pre ++ join (wds hi lo a (8 - a)) [58]
  | 0, i, h, h8, hm, _ => by
    obtain rfl : i = 8 := by omega
    rfl
  | m + 1, i, h, h8, hm, hf => by
    unfold write6
    by_cases hlt : i < 8
    · rw [if_pos hlt, if_neg (hf i (Nat.le_refl _) hlt)]
      have := step6_at hi lo a i h pre hp
      unfold step6 at this
      rw [show wd hi lo i = hexDigits (grp hi lo i) from rfl, this]
      exact write6_tail hi lo best from_ a pre hp m (i + 1) (by omega) (by omega) (by omega) (fun j h1 h2 => hf j (by omega) h2)
    · rw [if_neg hlt]
      obtain rfl : i = 8 := by omega
      rfl
theorem write6_head (hi lo : Int) (best a : Nat) (ha : a < 8) (hb : 1 ≤ best) (hab : a + best ≤ 8) : ∀ (m i : Nat), i ≤ a → 9 - i ≤ m →
    write6 (wd hi lo) best (a : Int) m i (join (wds hi lo 0 i) [58]) = join (wds hi lo 0 a) [58] ++ 58 :: 58 :: join (wds hi lo (a + best) (8 - (a + best))) [58]
  | 0, i, h, hm => by omega
  | m + 1, i, h, hm => by
    unfold write6
    rw [if_pos (by omega)]
    by_cases he : i = a
    · subst he
      rw [if_pos rfl]
      have := write6_tail hi lo best (i : Int) (i + best) (join (wds hi lo 0 i) [58] ++ [58, 58]) (.inr (by rw [getLastD_app _ _ _ (by simp)]; rfl)) m (i + best) (Nat.le_refl _) hab (by omega) (fun j h1 h2 => by omega)
      rw [Nat.sub_self, show wds hi lo (i + best) 0 = [] from rfl, join_nil, List.append_nil] at this
      rw [this]
      simp
    · rw [if_neg (by omega)]
      have := step6_at hi lo 0 i (Nat.zero_le _) [] (.inl rfl)
      unfold step6 at this
      rw [List.nil_append, List.nil_append, Nat.sub_zero, Nat.sub_zero] at this
      rw [show wd hi lo i = hexDigits (grp hi lo i) from rfl, this]
      exact write6_head hi lo best a ha hb hab m (i + 1) (by omega) (by omega)
theorem put6_same (hi lo : Int) (h0 : 0 ≤ hi) (h1 : hi < 18446744073709551616) (h2 : 0 ≤ lo) (h3 : lo < 18446744073709551616) (k : Nat) (hk : 9 ≤ k) :
    text_Put6.f k hi lo = some (mkB (put6L (grp hi lo) (wd hi lo))) := by
  obtain ⟨f, b, e, hz⟩ := zeros_top hi lo h0 h1 h2 h3 k 0 (-1) 1 0 (by omega) (by omega) (by omega) (fun j h h' => by omega) (fun h => by omega) (.inl ⟨rfl, rfl, fun a' n' h _ => by omega⟩)
  unfold text_Put6.f
  unfold text_zeros.f
  rw [show ((0 : Nat) : Int) = 0 from rfl] at e
  rw [e, Option.bind_some]
  have hs := scan6_top (grp hi lo) 8 (Nat.le_refl _)
  unfold put6L
  rcases hz with ⟨rfl, rfl, hz⟩ | ⟨a, n, rfl, rfl, hn, han, hr, hz⟩
  · have hs2 : scan6 (grp hi lo) 8 = (0, -1) := by
      rcases hs with ⟨hs, _⟩ | ⟨a, n, _, hn, ha, han, hr, _⟩
      · exact hs
      · have := hz a n han hr; omega
    rw [if_pos (by decide), words_at hi lo h0 h1 h2 h3 k 0 8 (by omega) hk 0 8 rfl rfl, Option.bind_some, hs2]
    have := write6_tail hi lo 0 (-1) 0 [] (.inl rfl) 9 0 (Nat.le_refl _) (by omega) (by omega) (fun j _ _ => by omega)
    rw [Nat.sub_zero, show wds hi lo 0 0 = [] from rfl, join_nil] at this
    simp only [List.append_nil, List.nil_append] at this
    rw [this]
  · have hs2 : scan6 (grp hi lo) 8 = (n, (a : Int)) := by
      rcases hs with ⟨_, hs⟩ | ⟨a', n', e', hn', ha', han', hr', hs⟩
      · have := hs a n ⟨by omega, han⟩ hr; omega
      · have q1 := hz a' n' han' hr'
        have q2 := hs a n ⟨by omega, han⟩ hr
        have q3 : n = n' := by omega
        have q4 := q1.2 q3.symm
        have q5 := q2.2 q3
        rw [e', show a = a' by omega, q3]
    simp only
    rw [if_neg (by omega), words_at hi lo h0 h1 h2 h3 k 0 a (by omega) hk 0 (a : Int) rfl (by omega), Option.bind_some, mkB_size]
    have l1 := join_len_le 58 (wds hi lo 0 a) 4 (wds_short hi lo 0 a)
    have l2 := join_len_le 58 (wds hi lo (a + n) (8 - a - n)) 4 (wds_short hi lo (a + n) (8 - a - n))
    rw [wds_len] at l1 l2
    rw [if_pos (by omega), wrap64_id _ (by omega) (by omega), words_at hi lo h0 h1 h2 h3 k (a + n) (8 - a - n) (by omega) hk _ 8 (by omega) (by omega), Option.bind_some]
    rw [if_pos (by rw [ByteArray.size_append, mkB_size, mkB_size]; have : (⟨#[58, 58]⟩ : ByteArray).size = 2 := rfl; omega)]
    have := write6_head hi lo n a (by omega) (by omega) han 9 0 (by omega) (by omega)
    rw [show wds hi lo 0 0 = [] from rfl, join_nil] at this
    rw [hs2]
    simp only
    rw [this, show 8 - (a + n) = 8 - a - n by omega]
    congr 1
    apply ByteArray.ext
    apply Array.ext'
    simp [mkB]

theorem gpn_grp (hi lo : Int) (h0 : 0 ≤ hi) (h2 : 0 ≤ lo) (i : Nat) : gpn hi lo i = grp hi lo i := by
  have e : ∀ x : Int, 0 ≤ x → x.tmod 65536 = x % 65536 := fun x hx => Int.tmod_eq_emod_of_nonneg hx
  match i with
  | 0 => exact congrArg Int.toNat (e _ (by omega))
  | 1 => exact congrArg Int.toNat (e _ (by omega))
  | 2 => exact congrArg Int.toNat (e _ (by omega))
  | 3 => exact congrArg Int.toNat (e _ (by omega))
  | 4 => exact congrArg Int.toNat (e _ (by omega))
  | 5 => exact congrArg Int.toNat (e _ (by omega))
  | 6 => exact congrArg Int.toNat (e _ (by omega))
  | n + 7 => exact congrArg Int.toNat (e _ (by omega))
theorem put6_ref (hi lo : Int) (h0 : 0 ≤ hi) (h1 : hi < 18446744073709551616) (h2 : 0 ≤ lo) (h3 : lo < 18446744073709551616) (k : Nat) (hk : 9 ≤ k) :
    tenancyref02_Put6.f hi lo = text_Put6.f k hi lo := by
  rw [put6_same hi lo h0 h1 h2 h3 k hk]
  unfold tenancyref02_Put6.f
  rw [if_pos ⟨h0, h2⟩, show gpn hi lo = grp hi lo from funext (gpn_grp hi lo h0 h2)]
  rfl
end Go.Proofs.YtmegbllhidkmoaaDoor.Ty

/- Plain laws: the reference's Sound tells what the program's tells. -/
namespace Go.Proofs.YtmegbllhidkmoaaDoor.Ty
open Go.RowKit Go.Lib Go.Proofs.YtmegbllhidkmoaaDoorW.PrintWords Go.Proofs.YtmegbllhidkmoaaDoorW.PrintLast Go.Proofs.YtmegbllhidkmoaaDoorW.PrintMore Go.Proofs.YtmegbllhidkmoaaDoor.Plain Go.Proofs.YtmegbllhidkmoaaDoor.Tx
set_option linter.unusedVariables false

/-- An address cut to n bits. -/
def clipN (H L n : Nat) : Nat × Nat := if n ≤ 64 then (H / 2 ^ (64 - n) * 2 ^ (64 - n), 0) else (H, L / 2 ^ (128 - n) * 2 ^ (128 - n))
theorem pow_le64 (a : Nat) (h : a ≤ 64) : 2 ^ a ≤ 18446744073709551616 := Nat.le_trans (Nat.pow_le_pow_right (by decide) h) (by decide)
theorem div_mul_lt (H d : Nat) (hH : H < 18446744073709551616) : H / d * d < 18446744073709551616 := Nat.lt_of_le_of_lt (Nat.div_mul_le_self H d) hH

theorem or_nat (i a b : Nat) (ha : a % 2 ^ i = 0) (ha1 : a < 18446744073709551616) (hb : b < 2 ^ i) (hi : i ≤ 64) : Go.bits .or .u64 (a : Int) (b : Int) = ((a + b : Nat) : Int) := by
  have h1 : (a : Int) % 2 ^ i = 0 := by
    have : ((a % 2 ^ i : Nat) : Int) = 0 := by rw [ha]; rfl
    rw [Int.natCast_emod, Int.natCast_pow] at this
    exact this
  have h2 : (b : Int) < 2 ^ i := by
    have : ((b : Nat) : Int) < ((2 ^ i : Nat) : Int) := by exact_mod_cast hb
    rw [Int.natCast_pow] at this
    exact this
  rw [Tx.u64_or i _ _ (Int.natCast_nonneg a) h1 (by omega) (Int.natCast_nonneg b) h2 hi]
  rfl
theorem or_nat' (i a b : Nat) (ha : a % 2 ^ i = 0) (ha1 : a < 18446744073709551616) (hb : b < 2 ^ i) (hi : i ≤ 64) : Go.bits .or .u64 (b : Int) (a : Int) = ((a + b : Nat) : Int) := by
  have := pow_le64 i hi
  rw [Tx.u64_or_comm _ _ (Int.natCast_nonneg b) (by omega) (Int.natCast_nonneg a) (by omega)]
  exact or_nat i a b ha ha1 hb hi
theorem down_up (H L n : Nat) (hH : H < 18446744073709551616) (hL : L < 18446744073709551616) (hn : n ≤ 128) :
    ∃ x y : Int, addr_Down.f (H : Int) (L : Int) (128 - (n : Int)) = some (x, y) ∧ addr_Up.f x y (128 - (n : Int)) = some (((clipN H L n).1 : Int), ((clipN H L n).2 : Int)) := by
  by_cases h64 : n ≤ 64
  · refine ⟨0, (H : Int) / 2 ^ (64 - n), down_far (H : Int) (L : Int) _ (64 - n) (by omega) (by omega) (by omega), ?_⟩
    have e : wrap64 (128 - (n : Int) - 64) = ((64 - n : Nat) : Int) := by unfold wrap64; omega
    have hd : ((H : Int) / 2 ^ (64 - n)) * 2 ^ (64 - n) = ((H / 2 ^ (64 - n) * 2 ^ (64 - n) : Nat) : Int) := by rw [Int.natCast_mul, Int.natCast_ediv, Int.natCast_pow]; rfl
    have hlt := div_mul_lt H (2 ^ (64 - n)) hH
    unfold addr_Up.f clipN
    rw [if_neg (by omega), if_pos (by omega), e, if_pos (by omega), shl64 _ (64 - n) (by omega) _ rfl, hd, if_pos h64]
    simp only
    rw [Int.emod_eq_of_lt (by omega) (by omega)]
    rfl
  · by_cases h128 : n = 128
    · subst h128
      refine ⟨H, L, by unfold addr_Down.f; rw [if_pos (by omega)], ?_⟩
      unfold addr_Up.f clipN
      rw [if_pos (by omega), if_neg h64]
      simp
    · obtain ⟨s, hs⟩ : ∃ s, n + s = 128 := ⟨128 - n, by omega⟩
      have es : 128 - (n : Int) = (s : Int) := by omega
      have hDE : 2 ^ s * 2 ^ (64 - s) = 18446744073709551616 := by rw [← Nat.pow_add, show s + (64 - s) = 64 by omega]
      have hD0 : 0 < 2 ^ s := Nat.two_pow_pos s
      have hE0 : 0 < 2 ^ (64 - s) := Nat.two_pow_pos _
      have hm : (H * 2 ^ (64 - s)) % 18446744073709551616 = (H % 2 ^ s) * 2 ^ (64 - s) := by rw [← hDE, Nat.mul_mod_mul_right]
      have hLD : L / 2 ^ s < 2 ^ (64 - s) := by
        apply Nat.div_lt_of_lt_mul
        rw [hDE]; exact hL
      have hHD : H % 2 ^ s < 2 ^ s := Nat.mod_lt _ hD0
      have hprod : (H % 2 ^ s) * 2 ^ (64 - s) + 2 ^ (64 - s) ≤ 18446744073709551616 := by
        rw [← hDE, ← Nat.succ_mul]
        exact Nat.mul_le_mul_right _ hHD
      have hy : Go.bits .or .u64 ((L : Int) / 2 ^ s) (((H : Int) * 2 ^ (64 - s)) % 18446744073709551616) = (((H % 2 ^ s) * 2 ^ (64 - s) + L / 2 ^ s : Nat) : Int) := by
        have c1 : ((L : Int) / 2 ^ s) = ((L / 2 ^ s : Nat) : Int) := by rw [Int.natCast_ediv, Int.natCast_pow]; rfl
        have c2 : (((H : Int) * 2 ^ (64 - s)) % 18446744073709551616) = (((H % 2 ^ s) * 2 ^ (64 - s) : Nat) : Int) := by
          rw [← hm, Int.natCast_emod, Int.natCast_mul, Int.natCast_pow]; rfl
        rw [c1, c2]
        exact or_nat' (64 - s) _ _ (Nat.mul_mod_left _ _) (by omega) hLD (by omega)
      refine ⟨(H : Int) / 2 ^ s, (((H % 2 ^ s) * 2 ^ (64 - s) + L / 2 ^ s : Nat) : Int), ?_, ?_⟩
      · rw [down_near (H : Int) (L : Int) _ s es (by omega) (by omega), hy]
      · have e : wrap64 (64 - (s : Int)) = ((64 - s : Nat) : Int) := by unfold wrap64; omega
        have hHd := div_mul_lt H (2 ^ s) hH
        have hLd := div_mul_lt L (2 ^ s) hL
        have a1 : ((H : Int) / 2 ^ s * 2 ^ s) % 18446744073709551616 = ((H / 2 ^ s * 2 ^ s : Nat) : Int) := by
          have : (H : Int) / 2 ^ s * 2 ^ s = ((H / 2 ^ s * 2 ^ s : Nat) : Int) := by push_cast; rfl
          rw [this, Int.emod_eq_of_lt (by omega) (by omega)]
        have a2 : ((((H % 2 ^ s) * 2 ^ (64 - s) + L / 2 ^ s : Nat) : Int) / 2 ^ (64 - s)) = ((H % 2 ^ s : Nat) : Int) := by
          have : (((H % 2 ^ s) * 2 ^ (64 - s) + L / 2 ^ s : Nat) : Int) / 2 ^ (64 - s) = ((((H % 2 ^ s) * 2 ^ (64 - s) + L / 2 ^ s) / 2 ^ (64 - s) : Nat) : Int) := by push_cast; rfl
          rw [this, Nat.add_comm, Nat.add_mul_div_right _ _ hE0, Nat.div_eq_of_lt hLD, Nat.zero_add]
        have a3 : ((((H % 2 ^ s) * 2 ^ (64 - s) + L / 2 ^ s : Nat) : Int) * 2 ^ s) % 18446744073709551616 = ((L / 2 ^ s * 2 ^ s : Nat) : Int) := by
          have c : (((H % 2 ^ s) * 2 ^ (64 - s) + L / 2 ^ s : Nat) : Int) * 2 ^ s = (((((H % 2 ^ s) * 2 ^ (64 - s) + L / 2 ^ s) * 2 ^ s : Nat)) : Int) := by push_cast; rfl
          have d : ((H % 2 ^ s) * 2 ^ (64 - s) + L / 2 ^ s) * 2 ^ s = L / 2 ^ s * 2 ^ s + 18446744073709551616 * (H % 2 ^ s) := by
            rw [Nat.add_mul, Nat.mul_assoc, Nat.mul_comm (2 ^ (64 - s)), hDE, Nat.mul_comm (H % 2 ^ s)]; omega
          rw [c, d]
          have : (((L / 2 ^ s * 2 ^ s + 18446744073709551616 * (H % 2 ^ s) : Nat)) : Int) % 18446744073709551616 = (((L / 2 ^ s * 2 ^ s + 18446744073709551616 * (H % 2 ^ s)) % 18446744073709551616 : Nat) : Int) := by rw [Int.natCast_emod]; rfl
          rw [this, Nat.add_mul_mod_self_left, Nat.mod_eq_of_lt hLd]
        have hor : Go.bits .or .u64 ((H / 2 ^ s * 2 ^ s : Nat) : Int) ((H % 2 ^ s : Nat) : Int) = (H : Int) := by
          rw [or_nat s _ _ (Nat.mul_mod_left _ _) hHd hHD (by omega)]
          have := Nat.div_add_mod H (2 ^ s)
          rw [Nat.mul_comm] at this
          omega
        unfold addr_Up.f clipN
        rw [es, if_neg (by omega), if_neg (by omega), if_pos (by omega), e, if_pos (by omega), shl64 _ s (by omega) _ rfl, shr64 _ (64 - s) (by omega) _ rfl, shl64 _ s (by omega) _ rfl, a1, a2, a3, hor, if_neg h64, show 128 - n = s by omega]

theorem u64_and1 (x : Nat) (h : x < 18446744073709551616) : Go.bits .and .u64 (x : Int) 1 = ((x % 2 : Nat) : Int) := by
  have := bits_mask .u64 64 (by decide) wraps_u64 1 (by decide) (x : Int) (by omega) (by omega)
  rw [show (2 : Int) ^ 1 - 1 = 1 from rfl] at this
  rw [this]
  omega
theorem half_step (H D : Nat) : H / D * D = H / (2 * D) * (2 * D) + (H / D % 2) * D := by
  have e : H / (2 * D) = H / D / 2 := by rw [Nat.mul_comm, Nat.div_div_eq_div_mul]
  have q := Nat.div_add_mod (H / D) 2
  rw [e]
  calc H / D * D = (2 * (H / D / 2) + H / D % 2) * D := by rw [q]
    _ = H / D / 2 * (2 * D) + H / D % 2 * D := by rw [Nat.add_mul, Nat.mul_comm 2 (H / D / 2), Nat.mul_assoc]
theorem clip_step (H L i : Nat) (hL : L < 18446744073709551616) (hi : i < 128) :
    clipN H L (i + 1) = if i < 64 then ((clipN H L i).1 + (H / 2 ^ (63 - i) % 2) * 2 ^ (63 - i), (clipN H L i).2) else ((clipN H L i).1, (clipN H L i).2 + (L / 2 ^ (127 - i) % 2) * 2 ^ (127 - i)) := by
  by_cases h : i < 64
  · rw [if_pos h]
    unfold clipN
    rw [if_pos (by omega), if_pos (by omega)]
    have hs := half_step H (2 ^ (63 - i))
    have e : 2 * 2 ^ (63 - i) = 2 ^ (64 - i) := by rw [show 64 - i = (63 - i) + 1 by omega, Nat.pow_succ, Nat.mul_comm]
    rw [e] at hs
    rw [show 64 - (i + 1) = 63 - i by omega, hs]
  · rw [if_neg h]
    have hs := half_step L (2 ^ (127 - i))
    have e : 2 * 2 ^ (127 - i) = 2 ^ (128 - i) := by rw [show 128 - i = (127 - i) + 1 by omega, Nat.pow_succ, Nat.mul_comm]
    rw [e] at hs
    by_cases h64 : i = 64
    · subst h64
      unfold clipN
      rw [if_neg (by omega), if_pos (by omega), show 128 - (64 + 1) = 127 - 64 by omega, hs]
      have : L / 2 ^ (128 - 64) = 0 := Nat.div_eq_of_lt hL
      rw [this]
      simp
    · unfold clipN
      rw [if_neg (by omega), if_neg (by omega), show 128 - (i + 1) = 127 - i by omega, hs]
theorem clip_lt (H L i : Nat) (hH : H < 18446744073709551616) (hL : L < 18446744073709551616) : (clipN H L i).1 < 18446744073709551616 ∧ (clipN H L i).2 < 18446744073709551616 := by
  unfold clipN
  split
  · exact ⟨div_mul_lt _ _ hH, show 0 < 18446744073709551616 by decide⟩
  · exact ⟨hH, div_mul_lt _ _ hL⟩
theorem wrap_cnt (x : Int) (j : Nat) (h : x = (j : Int)) (hj : j ≤ 200) : IntKind.u64.wrap (wrap64 x) = (j : Int) := by
  subst h
  rw [wrap64_id _ (by omega) (by omega), wrap_u64]; omega
theorem bit_at (H L i : Nat) (hH : H < 18446744073709551616) (hL : L < 18446744073709551616) (hi : i < 128) :
    tenancyref01_bit.f (H : Int) (L : Int) (i : Int) = some (((if i < 64 then H / 2 ^ (63 - i) % 2 else L / 2 ^ (127 - i) % 2 : Nat)) : Int) := by
  unfold tenancyref01_bit.f
  by_cases h : i < 64
  · rw [if_pos (by omega), wrap_cnt (63 - (i : Int)) (63 - i) (by omega) (by omega), if_pos (by omega), shr64 _ (63 - i) (by omega) _ rfl, if_pos h]
    have c : ((H : Int) / 2 ^ (63 - i)) = ((H / 2 ^ (63 - i) : Nat) : Int) := by rw [Int.natCast_ediv, Int.natCast_pow]; rfl
    rw [c, u64_and1 _ (Nat.lt_of_le_of_lt (Nat.div_le_self _ _) hH)]
  · rw [if_neg (by omega), wrap_cnt (127 - (i : Int)) (127 - i) (by omega) (by omega), if_pos (by omega), shr64 _ (127 - i) (by omega) _ rfl, if_neg h]
    have c : ((L : Int) / 2 ^ (127 - i)) = ((L / 2 ^ (127 - i) : Nat) : Int) := by rw [Int.natCast_ediv, Int.natCast_pow]; rfl
    rw [c, u64_and1 _ (Nat.lt_of_le_of_lt (Nat.div_le_self _ _) hL)]
theorem shl_one (j : Nat) (hj : j < 64) : shl .u64 1 (j : Int) = ((2 ^ j : Nat) : Int) := by
  have h := pow_le64 j (by omega)
  have h2 : 2 ^ j < 18446744073709551616 := Nat.lt_of_lt_of_le (Nat.pow_lt_pow_right (by decide) hj) (by decide)
  rw [shl64 _ j (by omega) _ rfl, Int.one_mul]
  have : (2 : Int) ^ j = ((2 ^ j : Nat) : Int) := by rw [Int.natCast_pow]; rfl
  have h3 : ((2 ^ j : Nat) : Int) < 18446744073709551616 := Int.lt_of_lt_of_le (Int.ofNat_lt.2 h2) (Int.le_of_eq rfl)
  rw [this, Int.emod_eq_of_lt (Int.natCast_nonneg _) h3]
theorem with_at (H L i : Nat) (hH : H < 18446744073709551616) (hL : L < 18446744073709551616) (hi : i < 128) :
    tenancyref01_with.f ((clipN H L i).1 : Int) ((clipN H L i).2 : Int) (i : Int) = some (((if i < 64 then (clipN H L i).1 + 2 ^ (63 - i) else (clipN H L i).1 : Nat) : Int), ((if i < 64 then (clipN H L i).2 else (clipN H L i).2 + 2 ^ (127 - i) : Nat) : Int)) := by
  obtain ⟨b1, b2⟩ := clip_lt H L i hH hL
  unfold tenancyref01_with.f
  by_cases h : i < 64
  · rw [if_pos (by omega), wrap_cnt (63 - (i : Int)) (63 - i) (by omega) (by omega), if_pos (by omega), shl_one _ (by omega), if_pos h, if_pos h]
    have hm : (clipN H L i).1 % 2 ^ (64 - i) = 0 := by
      unfold clipN
      rw [if_pos (by omega)]
      exact Nat.mul_mod_left _ _
    rw [or_nat (64 - i) _ _ hm b1 (Nat.pow_lt_pow_right (by decide) (by omega)) (by omega)]
  · rw [if_neg (by omega), wrap_cnt (127 - (i : Int)) (127 - i) (by omega) (by omega), if_pos (by omega), shl_one _ (by omega), if_neg h, if_neg h]
    have hm : (clipN H L i).2 % 2 ^ (128 - i) = 0 := by
      unfold clipN
      split
      · simp
      · exact Nat.mul_mod_left _ _
    rw [or_nat (128 - i) _ _ hm b2 (Nat.pow_lt_pow_right (by decide) (by omega)) (by omega)]
theorem clip_go (H L n : Nat) (hH : H < 18446744073709551616) (hL : L < 18446744073709551616) (hn : n ≤ 128) : ∀ (m i k : Nat), i + m = n → m + 1 ≤ k →
    tenancyref01_Clip.l0 k (n : Int) (i : Int) (H : Int) (L : Int) ((clipN H L i).1 : Int) ((clipN H L i).2 : Int) = some (((clipN H L n).1 : Int), ((clipN H L n).2 : Int), (n : Int), true)
  | m, i, 0, hi, hk => by omega
  | 0, i, k + 1, hi, hk => by
    obtain rfl : i = n := by omega
    rw [tenancyref01_Clip.l0, if_neg (by omega)]
  | m + 1, i, k + 1, hi, hk => by
    have ih := clip_go H L n hH hL hn m (i + 1) k (by omega) (by omega)
    have ew : wrap64 ((i : Int) + 1) = ((i + 1 : Nat) : Int) := by rw [wrap64_id _ (by omega) (by omega)]; omega
    have hs := clip_step H L i hL (by omega)
    rw [tenancyref01_Clip.l0, if_pos (by omega), bit_at H L i hH hL (by omega), Option.bind_some, ew]
    by_cases h : i < 64
    · rw [if_pos h] at hs ⊢
      have hb : H / 2 ^ (63 - i) % 2 = 0 ∨ H / 2 ^ (63 - i) % 2 = 1 := by omega
      rcases hb with hb | hb
      · rw [hb] at hs ⊢
        rw [if_neg (by decide)]
        rw [hs] at ih
        simpa using ih
      · rw [hb] at hs ⊢
        rw [if_pos (by decide), with_at H L i hH hL (by omega), Option.bind_some, if_pos h, if_pos h]
        rw [hs, Nat.one_mul] at ih
        exact ih
    · rw [if_neg h] at hs ⊢
      have hb : L / 2 ^ (127 - i) % 2 = 0 ∨ L / 2 ^ (127 - i) % 2 = 1 := by omega
      rcases hb with hb | hb
      · rw [hb] at hs ⊢
        rw [if_neg (by decide)]
        rw [hs] at ih
        simpa using ih
      · rw [hb] at hs ⊢
        rw [if_pos (by decide), with_at H L i hH hL (by omega), Option.bind_some, if_neg h, if_neg h]
        rw [hs, Nat.one_mul] at ih
        exact ih
/-- The program's Sound and the reference's. -/
theorem sound_same (hi lo n : Int) (h0 : 0 ≤ hi) (h1 : hi < 18446744073709551616) (h2 : 0 ≤ lo) (h3 : lo < 18446744073709551616) (hn0 : -9223372036854775808 ≤ n) (hn1 : n ≤ 9223372036854775807) (k k' : Nat) (hk : 1 ≤ k) (hk' : 200 ≤ k') :
    tenancyref01_Sound.f k' hi lo n = addr_Sound.f k hi lo n := by
  obtain ⟨H, rfl⟩ := Int.eq_ofNat_of_zero_le h0
  obtain ⟨L, rfl⟩ := Int.eq_ofNat_of_zero_le h2
  obtain ⟨k, rfl⟩ : ∃ j, k = j + 1 := ⟨k - 1, by omega⟩
  obtain ⟨k', rfl⟩ : ∃ j, k' = j + 1 := ⟨k' - 1, by omega⟩
  unfold tenancyref01_Sound.f addr_Sound.f tenancyref01_Clip.f addr_Clip.f
  by_cases hneg : n < 0
  · rw [if_pos hneg, if_pos hneg, tenancyref01_Clip.j0, if_pos rfl, addr_Clip.j0, if_pos rfl]
  · rw [if_neg hneg, if_neg hneg]
    by_cases hb : n > 128
    · rw [decide_eq_true hb, tenancyref01_Clip.j0, if_pos rfl, addr_Clip.j0, if_pos rfl]
    · obtain ⟨N, rfl⟩ := Int.eq_ofNat_of_zero_le (show 0 ≤ n by omega)
      obtain ⟨x, y, e1, e2⟩ := down_up H L N (by omega) (by omega) (by omega)
      have hg := clip_go H L N (by omega) (by omega) (by omega) N 0 k' (by omega) (by omega)
      have c0 : clipN H L 0 = (0, 0) := by
        unfold clipN
        rw [if_pos (by decide), Nat.div_eq_of_lt (show H < 2 ^ (64 - 0) by omega)]
      rw [c0] at hg
      rw [decide_eq_false hb, tenancyref01_Clip.j0, if_neg (by decide), addr_Clip.j0, if_neg (by decide), wrap64_id _ (by omega) (by omega), e1, Option.bind_some]
      simp only
      rw [e2, Option.bind_some]
      have hg' : tenancyref01_Clip.l0 k' (N : Int) 0 (H : Int) (L : Int) 0 0 = some (((clipN H L N).1 : Int), ((clipN H L N).2 : Int), (N : Int), true) := hg
      rw [hg']
end Go.Proofs.YtmegbllhidkmoaaDoor.Ty


/- The plain laws of decimal, Num, Put4, To4, Put, PutPrefix and Hex; the law. -/
namespace Go.Proofs.YtmegbllhidkmoaaDoor.Ty
open Go.RowKit Go.Lib Go.Proofs.YtmegbllhidkmoaaDoorW.PrintWords Go.Proofs.YtmegbllhidkmoaaDoorW.PrintLast Go.Proofs.YtmegbllhidkmoaaDoorW.PrintMore Go.Proofs.YtmegbllhidkmoaaDoor.Plain Go.Proofs.YtmegbllhidkmoaaDoor.Tx
set_option linter.unusedVariables false

theorem ten_cut : ∀ d : Fin 10, (⟨#[48, 49, 50, 51, 52, 53, 54, 55, 56, 57, 97, 98, 99, 100, 101, 102]⟩ : ByteArray).extract d.val (d.val + 1) = ⟨#[UInt8.ofNat (48 + d.val)]⟩ := by decide +kernel
theorem ten_cut' (n : Nat) (h : n < 10) : (⟨#[48, 49, 50, 51, 52, 53, 54, 55, 56, 57, 97, 98, 99, 100, 101, 102]⟩ : ByteArray).extract n (n + 1) = ⟨#[UInt8.ofNat (48 + n)]⟩ := ten_cut ⟨n, h⟩
theorem dec_short (u m : Nat) (h : u < 10 ^ (m + 1)) : (decDigits u).length ≤ m + 1 := by
  induction m generalizing u with
  | zero => rw [decDigits, dif_pos (by simpa using h)]; simp
  | succ m ih =>
    rw [decDigits]; split
    · simp
    · have h10 : 10 ^ (m + 1 + 1) = 10 ^ (m + 1) * 10 := Nat.pow_succ _ _
      have := ih (u / 10) (by omega)
      simp; omega
theorem decimal_one (n k : Nat) (h : n < 10) : tenancyref02_decimal.f (k + 1) (n : Int) = some (mkB (decDigits n)) := by
  have ew : IntKind.u64.wrap ((n : Int) + 1) = ((n + 1 : Nat) : Int) := by rw [wrap_u64]; omega
  rw [tenancyref02_decimal.f, if_pos (by omega), if_pos (by omega), ew, if_pos (by omega), if_pos (by omega), Int.toNat_natCast, Int.toNat_natCast, ten_cut' n h, decDigits, dif_pos h]
  rfl
theorem decimal_at : ∀ (m n k : Nat), n < 10 ^ (m + 1) → n < 18446744073709551616 → m ≤ 19 → m + 1 ≤ k → tenancyref02_decimal.f k (n : Int) = some (mkB (decDigits n))
  | m, n, 0, h, h64, hm, hk => by omega
  | 0, n, k + 1, h, h64, hm, hk => decimal_one n k (by simpa using h)
  | m + 1, n, k + 1, h, h64, hm, hk => by
    have h10 : 10 ^ (m + 1 + 1) = 10 ^ (m + 1) * 10 := Nat.pow_succ _ _
    by_cases h' : n < 10
    · exact decimal_one n k h'
    · have e1 : IntKind.u64.wrap (Int.tdiv (n : Int) 10) = ((n / 10 : Nat) : Int) := by
        rw [show Int.tdiv (n : Int) 10 = ((n / 10 : Nat) : Int) from rfl, wrap_u64]; omega
      have e2 : Int.tmod (n : Int) 10 = ((n % 10 : Nat) : Int) := rfl
      have ew : IntKind.u64.wrap (((n % 10 : Nat) : Int) + 1) = ((n % 10 + 1 : Nat) : Int) := by rw [wrap_u64]; omega
      have ih := decimal_at m (n / 10) k (by omega) (by omega) (by omega) (by omega)
      have hl := dec_short (n / 10) m (by omega)
      rw [tenancyref02_decimal.f, if_neg (by omega), e1, ih, Option.bind_some, e2, ew, if_pos (by omega), if_pos (by omega), if_pos (by omega), Int.toNat_natCast, Int.toNat_natCast, ten_cut' (n % 10) (Nat.mod_lt _ (by decide))]
      rw [if_pos (by rw [mkB_size, show (⟨#[UInt8.ofNat (48 + n % 10)]⟩ : ByteArray).size = 1 from rfl]; omega)]
      rw [show decDigits n = decDigits (n / 10) ++ [UInt8.ofNat (48 + n % 10)] by rw [decDigits, dif_neg h']]
      congr 1
theorem decimal_all (n k : Nat) (h : n < 18446744073709551616) (hk : 20 ≤ k) : tenancyref02_decimal.f k (n : Int) = some (mkB (decDigits n)) :=
  decimal_at 19 n k (Nat.lt_of_lt_of_le h (by decide)) h (Nat.le_refl _) hk
theorem num_same (n : Int) (hn0 : -9223372036854775808 ≤ n) (hn1 : n ≤ 9223372036854775807) (k : Nat) (hk : 20 ≤ k) : ∃ t, text_Num.f n = some t ∧ strconv_Itoa.f n = some t ∧ tenancyref02_Num.f k n = some t ∧ t.size ≤ 21 := by
  have e : strconv_Itoa.f n = some (mkB (itoa n)) := by unfold strconv_Itoa.f; rw [if_pos ⟨hn0, hn1⟩]; rfl
  refine ⟨mkB (itoa n), by unfold text_Num.f; rw [e]; rfl, e, ?_, ?_⟩
  · unfold tenancyref02_Num.f itoa
    by_cases h : n < 0
    · obtain ⟨m, rfl⟩ : ∃ m : Nat, n = -(m : Int) := ⟨n.natAbs, by omega⟩
      have ew : IntKind.u64.wrap (-(IntKind.u64.wrap (-(m : Int)))) = (m : Int) := by rw [wrap_u64, wrap_u64]; omega
      have hs := dec_short m 19 (Nat.lt_of_le_of_lt (show m ≤ 9223372036854775808 by omega) (by decide))
      rw [if_pos h, ew, decimal_all m k (by omega) hk, Option.bind_some, if_pos (by rw [mkB_size]; omega), if_pos h, show (-(m : Int)).natAbs = m by omega]
      congr 1
    · obtain ⟨m, rfl⟩ := Int.eq_ofNat_of_zero_le (show 0 ≤ n by omega)
      have ew : IntKind.u64.wrap (m : Int) = (m : Int) := by rw [wrap_u64]; omega
      rw [if_neg h, ew, decimal_all m k (by omega) hk, Option.bind_some, if_neg h, Int.toNat_natCast]
  · rw [mkB_size]
    unfold itoa
    split
    · have := dec_short n.natAbs 19 (Nat.lt_of_le_of_lt (show n.natAbs ≤ 9223372036854775808 by omega) (by decide))
      simp; omega
    · have := dec_short n.toNat 19 (Nat.lt_of_le_of_lt (show n.toNat ≤ 9223372036854775808 by omega) (by decide))
      omega

theorem octet_at (n : Int) (h0 : 0 ≤ n) (h1 : n < 4294967296) (j : Nat) (hj : j ≤ 24) (x : Int) (e : IntKind.u64.wrap (wrap64 (24 - (wrap64 (8 * x)))) = (j : Int)) :
    IntKind.u64.wrap (Int.tmod (shr .u32 n (IntKind.u64.wrap (wrap64 (24 - (wrap64 (8 * x)))))) 256) = (((n / 2 ^ j) % 256).toNat : Int) := by
  rw [e, shr_at n j (by omega) _ rfl]
  have hq : 0 ≤ n / 2 ^ j := Int.ediv_nonneg h0 (by exact_mod_cast Nat.zero_le (2 ^ j))
  rw [Int.tmod_eq_emod_of_nonneg hq, wrap_u64]
  omega
theorem put4_ref_step (k : Nat) (hk : 20 ≤ k) (n : Int) (h0 : 0 ≤ n) (h1 : n < 4294967296) (i j : Nat) (hi : 0 < i) (hi4 : i < 4) (hj : j + 8 * i = 24) (L : List UInt8) (hL : L.length ≤ 1000) :
    tenancyref02_Put4.l0 (k + 1) n (mkB L) (i : Int) = tenancyref02_Put4.l0 k n (mkB (L ++ 46 :: decDigits ((n / 2 ^ j) % 256).toNat)) ((i + 1 : Nat) : Int) := by
  have e : IntKind.u64.wrap (wrap64 (24 - (wrap64 (8 * (i : Int))))) = (j : Int) := by
    rw [wrap64_id (8 * (i : Int)) (by omega) (by omega), wrap64_id _ (by omega) (by omega), wrap_u64]; omega
  have hd : ((n / 2 ^ j) % 256).toNat < 256 := by omega
  have hs := dec_short ((n / 2 ^ j) % 256).toNat 2 (by omega)
  have es : (mkB L ++ (⟨#[46]⟩ : ByteArray)).size = L.length + 1 := by rw [ByteArray.size_append, mkB_size]; rfl
  rw [tenancyref02_Put4.l0, if_pos (by omega), if_pos (by omega), if_pos (by rw [mkB_size]; omega), if_pos (by rw [e]; omega), octet_at n h0 h1 j (by omega) _ e,
    decimal_all _ k (by omega) hk, Option.bind_some, if_pos (by rw [es, mkB_size]; omega), wrap64_id _ (by omega) (by omega)]
  have ee : mkB L ++ (⟨#[46]⟩ : ByteArray) ++ mkB (decDigits ((n / 2 ^ j) % 256).toNat) = mkB (L ++ 46 :: decDigits ((n / 2 ^ j) % 256).toNat) := by
    apply ByteArray.ext; simp [mkB]
  rw [ee]
  rfl
theorem put4_same (n : Int) (h0 : 0 ≤ n) (h1 : n < 4294967296) (k : Nat) (hk : 30 ≤ k) : tenancyref02_Put4.f k n = some (mkB (dots n)) := by
  obtain ⟨k, rfl⟩ : ∃ j, k = j + 5 := ⟨k - 5, by omega⟩
  have hs := fun m : Nat => fun hm : m < 256 => dec_short m 2 (by omega)
  have h24 := hs ((n / 16777216) % 256).toNat (by omega)
  have h16 := hs ((n / 65536) % 256).toNat (by omega)
  have h8 := hs ((n / 256) % 256).toNat (by omega)
  have e : IntKind.u64.wrap (wrap64 (24 - (wrap64 (8 * 0)))) = ((24 : Nat) : Int) := by
    rw [wrap64_id (8 * 0) (by omega) (by omega), wrap64_id _ (by omega) (by omega), wrap_u64]; omega
  unfold tenancyref02_Put4.f
  rw [tenancyref02_Put4.l0, if_pos (by omega), if_neg (by omega), if_pos (by rw [e]; omega), octet_at n h0 h1 24 (by omega) _ e, decimal_all _ (k + 4) (by omega) (by omega), Option.bind_some,
    if_pos (by rw [mkB_size, show (⟨#[]⟩ : ByteArray).size = 0 from rfl, show (2 : Int) ^ 24 = 16777216 from rfl]; omega), wrap64_id _ (by omega) (by omega)]
  have ee : (⟨#[]⟩ : ByteArray) ++ mkB (decDigits ((n / 2 ^ 24) % 256).toNat) = mkB (decDigits ((n / 16777216) % 256).toNat) := by
    apply ByteArray.ext; simp [mkB]
  rw [ee, show (0 : Int) + 1 = ((1 : Nat) : Int) from rfl]
  rw [put4_ref_step (k + 3) (by omega) n h0 h1 1 16 (by omega) (by omega) (by omega) _ (by omega)]
  rw [put4_ref_step (k + 2) (by omega) n h0 h1 2 8 (by omega) (by omega) (by omega) _ (by simp; omega)]
  rw [put4_ref_step (k + 1) (by omega) n h0 h1 3 0 (by omega) (by omega) (by omega) _ (by simp; omega)]
  rw [tenancyref02_Put4.l0, if_neg (by omega)]
  unfold dots
  rw [join_cons2 46 _ _ (by simp), join_cons2 46 _ _ (by simp), join_cons2 46 _ _ (by simp), join_one]
  rw [show (2 : Int) ^ 16 = 65536 from rfl, show (2 : Int) ^ 8 = 256 from rfl, show (2 : Int) ^ 0 = 1 from rfl, Int.ediv_one]
  simp

theorem to4_go (H L : Nat) (hH : H < 18446744073709551616) (hL : L < 18446744073709551616) (hz : H = 0) (hs : L < 4294967296) : ∀ (m i k : Nat), i + m = 96 → m + 1 ≤ k →
    tenancyref01_To4.l0 k (i : Int) (H : Int) (L : Int) = some ((L : Int) % 4294967296, true)
  | m, i, 0, hi, hk => by omega
  | 0, i, k + 1, hi, hk => by rw [tenancyref01_To4.l0, if_neg (by omega)]
  | m + 1, i, k + 1, hi, hk => by
    have ew : wrap64 ((i : Int) + 1) = ((i + 1 : Nat) : Int) := by rw [wrap64_id _ (by omega) (by omega)]; omega
    have hb : (if i < 64 then H / 2 ^ (63 - i) % 2 else L / 2 ^ (127 - i) % 2) = 0 := by
      split
      · rw [hz, Nat.zero_div]
      · have : L / 2 ^ (127 - i) = 0 := Nat.div_eq_of_lt (Nat.lt_of_lt_of_le hs (show 2 ^ 32 ≤ 2 ^ (127 - i) from Nat.pow_le_pow_right (by decide) (by omega)))
        rw [this]
    rw [tenancyref01_To4.l0, if_pos (by omega), bit_at H L i hH hL (by omega), Option.bind_some, hb, if_neg (by decide), ew]
    exact to4_go H L hH hL hz hs m (i + 1) k (by omega) (by omega)
/-- A bit is met ahead of the last 32. -/
theorem to4_bad (H L : Nat) (hH : H < 18446744073709551616) (hL : L < 18446744073709551616) (p : Nat) (hp : p < 96) (hb : (if p < 64 then H / 2 ^ (63 - p) % 2 else L / 2 ^ (127 - p) % 2) = 1) : ∀ (m i k : Nat), i + m = p → m + 1 ≤ k →
    tenancyref01_To4.l0 k (i : Int) (H : Int) (L : Int) = some (0, false)
  | m, i, 0, hi, hk => by omega
  | 0, i, k + 1, hi, hk => by
    obtain rfl : i = p := by omega
    rw [tenancyref01_To4.l0, if_pos (by omega), bit_at H L i hH hL (by omega), Option.bind_some, hb, if_pos (by decide)]
  | m + 1, i, k + 1, hi, hk => by
    have ew : wrap64 ((i : Int) + 1) = ((i + 1 : Nat) : Int) := by rw [wrap64_id _ (by omega) (by omega)]; omega
    rw [tenancyref01_To4.l0, if_pos (by omega), bit_at H L i hH hL (by omega), Option.bind_some, ew]
    generalize (if i < 64 then H / 2 ^ (63 - i) % 2 else L / 2 ^ (127 - i) % 2) = q
    by_cases hq : (q : Int) = 1
    · rw [if_pos hq]
    · rw [if_neg hq]
      exact to4_bad H L hH hL p hp hb m (i + 1) k (by omega) (by omega)
theorem top_bit (X : Nat) : ∀ e lo : Nat, lo ≤ e → 2 ^ lo ≤ X → X < 2 ^ (e + 1) → ∃ q, lo ≤ q ∧ q ≤ e ∧ X / 2 ^ q % 2 = 1
  | 0, lo, h, h1, h2 => ⟨0, by omega, Nat.le_refl _, by
    have e0 : lo = 0 := by omega
    subst e0
    have h1' : 1 ≤ X := h1
    have h2' : X < 2 := h2
    have : X = 1 := by omega
    rw [this]⟩
  | e + 1, lo, h, h1, h2 => by
    by_cases hc : 2 ^ (e + 1) ≤ X
    · refine ⟨e + 1, by omega, Nat.le_refl _, ?_⟩
      have : X / 2 ^ (e + 1) = 1 := by
        apply Nat.div_eq_of_lt_le
        · omega
        · rw [Nat.pow_succ] at h2; omega
      rw [this]
    · by_cases hl : lo = e + 1
      · rw [hl] at h1; omega
      · obtain ⟨q, q1, q2, q3⟩ := top_bit X e lo (by omega) h1 (by omega)
        exact ⟨q, q1, by omega, q3⟩
theorem to4_same (hi lo : Int) (h0 : 0 ≤ hi) (h1 : hi < 18446744073709551616) (h2 : 0 ≤ lo) (h3 : lo < 18446744073709551616) (k : Nat) (hk : 100 ≤ k) : tenancyref01_To4.f k hi lo = addr_To4.f hi lo := by
  obtain ⟨H, rfl⟩ := Int.eq_ofNat_of_zero_le h0
  obtain ⟨L, rfl⟩ := Int.eq_ofNat_of_zero_le h2
  unfold tenancyref01_To4.f addr_To4.f
  by_cases hz : H = 0
  · rw [if_pos (by omega)]
    by_cases hs : L < 4294967296
    · rw [if_neg (by omega)]
      exact to4_go H L (by omega) (by omega) hz hs 96 0 k (by omega) (by omega)
    · rw [if_pos (by omega)]
      obtain ⟨q, q1, q2, q3⟩ := top_bit L 63 32 (by omega) (by omega) (by omega)
      exact to4_bad H L (by omega) (by omega) (127 - q) (by omega) (by rw [if_neg (by omega), show 127 - (127 - q) = q by omega]; exact q3) (127 - q) 0 k (by omega) (by omega)
  · rw [if_neg (by omega)]
    obtain ⟨q, q1, q2, q3⟩ := top_bit H 63 0 (by omega) (by omega) (by omega)
    exact to4_bad H L (by omega) (by omega) (63 - q) (by omega) (by rw [if_pos (by omega), show 63 - (63 - q) = q by omega]; exact q3) (63 - q) 0 k (by omega) (by omega)
theorem to4_u32 (hi lo n : Int) (h0 : 0 ≤ lo) (h : addr_To4.f hi lo = some (n, true)) : 0 ≤ n ∧ n < 4294967296 := by
  unfold addr_To4.f at h
  split at h
  · split at h
    · cases h
    · injection h with h; injection h with h _; omega
  · cases h
theorem put_same (fam hi lo : Int) (h0 : 0 ≤ hi) (h1 : hi < 18446744073709551616) (h2 : 0 ≤ lo) (h3 : lo < 18446744073709551616) (k k' : Nat) (hk : 30 ≤ k) (hk' : 200 ≤ k') :
    ∃ t : List UInt8, text_Put.f k fam hi lo = some (mkB t) ∧ tenancyref02_Put.f k' fam hi lo = some (mkB t) ∧ t.length ≤ 1000 ∧ (fam ≠ 4 → fam ≠ 6 → t = []) := by
  have h4 := to4_same hi lo h0 h1 h2 h3 k' (by omega)
  obtain ⟨m, ok, em⟩ : ∃ m ok, addr_To4.f hi lo = some (m, ok) := by
    unfold addr_To4.f
    split
    · split <;> exact ⟨_, _, rfl⟩
    · exact ⟨_, _, rfl⟩
  unfold text_Put.f tenancyref02_Put.f
  by_cases f6 : fam = 6
  · subst f6
    obtain ⟨l, e, hf⟩ := put6_at hi lo h0 h1 h2 h3 k (by omega)
    have hl := form_len hi lo l hf
    rw [if_neg (by decide), if_pos rfl, if_pos rfl, put6_ref hi lo h0 h1 h2 h3 k (by omega), e]
    exact ⟨l, rfl, rfl, by omega, fun _ h => absurd rfl h⟩
  · rw [if_neg f6, if_neg f6, h4, em]
    by_cases f4 : fam = 4
    · subst f4
      simp only [Option.bind_some, if_true]
      cases ok with
      | true =>
        obtain ⟨m0, m1⟩ := to4_u32 hi lo m h2 em
        rw [if_pos rfl, if_pos rfl, put4_at m m0 m1 k (by omega), put4_same m m0 m1 k' (by omega)]
        have := dots_len m
        exact ⟨dots m, rfl, rfl, by omega, fun h => absurd rfl h⟩
      | false => exact ⟨[], rfl, rfl, by simp, fun h => absurd rfl h⟩
    · simp only [Option.bind_some]
      rw [if_neg f4, if_neg f4]
      exact ⟨[], rfl, rfl, by simp, fun _ _ => rfl⟩
theorem mkB_nil (t : List UInt8) : (mkB t).toList = ([] : List UInt8) ↔ t = [] := by
  rw [ByteArray.toList_eq, mkB_list]
theorem putPrefix_same (fam hi lo n : Int) (h0 : 0 ≤ hi) (h1 : hi < 18446744073709551616) (h2 : 0 ≤ lo) (h3 : lo < 18446744073709551616) (hn0 : -9223372036854775808 ≤ n) (hn1 : n ≤ 9223372036854775807) (k k' : Nat) (hk : 30 ≤ k) (hk' : 300 ≤ k') :
    ∃ t : ByteArray, text_PutPrefix.f k fam hi lo n = some t ∧ tenancyref02_PutPrefix.f k' fam hi lo n = some t := by
  obtain ⟨k', rfl⟩ : ∃ j, k' = j + 1 := ⟨k' - 1, by omega⟩
  obtain ⟨t, e1, e2, hl, hno⟩ := put_same fam hi lo h0 h1 h2 h3 k (k' + 1) hk (by omega)
  obtain ⟨b, hb, hb2⟩ := sound_at hi lo n hn0 hn1
  have hs := sound_same hi lo n h0 h1 h2 h3 hn0 hn1 1 (k' + 1) (Nat.le_refl _) (by omega)
  rw [hb 1 (Nat.le_refl _)] at hs
  unfold text_PutPrefix.f tenancyref02_PutPrefix.f
  rw [e1, e2, hs, Option.bind_some, Option.bind_some, Option.bind_some]
  simp only [mkB_nil]
  have em : ∀ b, tenancyref02_PutPrefix.j0 (k' + 1) fam (mkB t) true hi lo b = some ⟨#[]⟩ := fun b => by rw [tenancyref02_PutPrefix.j0, if_pos rfl]
  obtain ⟨base, eb, b0, b1, b4⟩ : ∃ base, text_base.f fam = some base ∧ 0 ≤ base ∧ base ≤ 96 ∧ ((fam = 4 ∧ base = 96) ∨ (fam ≠ 4 ∧ base = 0)) := by
    unfold text_base.f
    by_cases f4 : fam = 4
    · rw [if_pos f4]; exact ⟨_, rfl, by decide, by decide, .inl ⟨f4, rfl⟩⟩
    · rw [if_neg f4]; exact ⟨_, rfl, by decide, by decide, .inr ⟨f4, rfl⟩⟩
  rw [eb, Option.bind_some]
  by_cases ht : t = []
  · rw [if_pos ht, if_pos ht, em n]
    refine ⟨_, rfl, ?_⟩
    split <;> rfl
  · rw [if_neg ht, if_neg ht]
    cases b with
    | false =>
      rw [hb k (by omega), Option.bind_some, if_neg (by decide : ¬ (false = true)), if_neg (by decide : ¬ (false = true)), em n]
      refine ⟨_, ?_, rfl⟩
      split <;> rfl
    | true =>
      obtain ⟨n0, n1⟩ := hb2 rfl
      rw [hb k (by omega), Option.bind_some, if_pos rfl, if_pos rfl, wrap64_id (n - base) (by omega) (by omega)]
      have esz : (mkB t ++ (⟨#[47]⟩ : ByteArray)).size = t.length + 1 := by rw [ByteArray.size_append, mkB_size]; rfl
      rcases b4 with ⟨rfl, rfl⟩ | ⟨f4, rfl⟩
      · rw [if_pos rfl]
        by_cases hlt : n < 96
        · rw [if_pos (by omega), decide_eq_true hlt, em n]
          exact ⟨_, rfl, rfl⟩
        · obtain ⟨u, u1, u2, u3, u4⟩ := num_same (n - 96) (by omega) (by omega) k' (by omega)
          rw [if_neg (by omega), decide_eq_false hlt, if_pos (by rw [mkB_size]; omega), u2, Option.bind_some, if_pos (by rw [esz]; omega), tenancyref02_PutPrefix.j0, if_neg (by decide : ¬ (false = true)), if_pos rfl, if_pos (by rw [mkB_size]; omega), wrap64_id (n - 96) (by omega) (by omega), u3, Option.bind_some, if_pos (by rw [esz]; omega)]
          exact ⟨_, rfl, rfl⟩
      · obtain ⟨u, u1, u2, u3, u4⟩ := num_same n hn0 hn1 k' (by omega)
        rw [if_neg f4, Int.sub_zero, if_neg (by omega), if_pos (by rw [mkB_size]; omega), u2, Option.bind_some, if_pos (by rw [esz]; omega), tenancyref02_PutPrefix.j0, if_neg (by decide : ¬ (false = true)), if_neg f4, if_pos (by rw [mkB_size]; omega), u3, Option.bind_some, if_pos (by rw [esz]; omega)]
        exact ⟨_, rfl, rfl⟩

theorem digit_bt : ∀ d : Fin 16, bt (⟨#[48, 49, 50, 51, 52, 53, 54, 55, 56, 57, 97, 98, 99, 100, 101, 102]⟩ : ByteArray) (d.val : Int) = ((hexdigit d.val).toNat : Int) := by decide +kernel
theorem digit_bt' (d : Nat) (h : d < 16) : bt (⟨#[48, 49, 50, 51, 52, 53, 54, 55, 56, 57, 97, 98, 99, 100, 101, 102]⟩ : ByteArray) (d : Int) = ((hexdigit d).toNat : Int) := digit_bt ⟨d, h⟩
theorem strOf_list (B : List UInt8) : strOfNums (B.map fun c => (c.toNat : Int)) = mkB B := by
  apply Go.WideShapes.bytes_inj
  rw [mkB_list, ← ByteArray.toList_eq, strOfNums_toList]
  unfold Lib.bytesOf
  rw [List.map_map]
  conv => rhs; rw [← List.map_id B]
  exact List.map_congr_left fun c _ => by simp
theorem hex_go (L : List UInt8) (hL : L.length ≤ 70000) : ∀ (m i k : Nat), i + m = L.length → m + 1 ≤ k →
    tenancyref02_Hex.l0 k (mkB L) ((hexOf (L.take i)).map fun c => (c.toNat : Int)) (i : Int) = some (mkB (hexOf L))
  | m, i, 0, hi, hk => by omega
  | 0, i, k + 1, hi, hk => by
    rw [tenancyref02_Hex.l0, if_neg (by rw [mkB_size]; omega), strOf_list, List.take_of_length_le (by omega)]
  | m + 1, i, k + 1, hi, hk => by
    have hlt : i < L.length := by omega
    have hg := List.getElem?_eq_getElem hlt
    have hb := bt_mkB L i _ hg
    have hc := L[i].toNat_lt
    have ew : wrap64 ((i : Int) + 1) = ((i + 1 : Nat) : Int) := by rw [wrap64_id _ (by omega) (by omega)]; omega
    have e1 : (Int.tdiv ((L[i].toNat : Nat) : Int) 16) % 256 = ((L[i].toNat / 16 : Nat) : Int) := by
      rw [show Int.tdiv ((L[i].toNat : Nat) : Int) 16 = ((L[i].toNat / 16 : Nat) : Int) from rfl]; omega
    have e2 : Int.tmod ((L[i].toNat : Nat) : Int) 16 = ((L[i].toNat % 16 : Nat) : Int) := rfl
    have hlen := hexOf_length (L.take i)
    have htk : (L.take i).length ≤ L.length := by simp; omega
    rw [tenancyref02_Hex.l0, if_pos (by rw [mkB_size]; omega), if_pos (by omega), hb, e1, e2, if_pos (by omega), if_pos (by omega), if_pos (by omega), if_pos (by omega), Option.bind_some,
      digit_bt' _ (by omega), digit_bt' _ (by omega), if_pos (by simp; omega), ew]
    have ih := hex_go L hL m (i + 1) k (by omega) (by omega)
    rw [List.take_add_one, hg, Option.toList_some, hexOf_snoc, List.map_append] at ih
    exact ih
theorem hex_same (s : ByteArray) (h : s.size ≤ 65536) (k : Nat) (hk : 65540 ≤ k) : ∃ t, text_Hex.f s = some t ∧ tenancyref02_Hex.f k s = some t := by
  have hl : s.data.toList.length = s.size := by rw [Array.length_toList]; rfl
  refine ⟨mkB (hexOf s.data.toList), by unfold text_Hex.f; rw [if_pos (by omega)]; rfl, ?_⟩
  have hg := hex_go s.data.toList (by omega) s.data.toList.length 0 k (by omega) (by omega)
  have es : mkB s.data.toList = s := by
    apply ByteArray.ext; simp [mkB]
  rw [es] at hg
  exact hg

theorem TextPuts_pure (fam hi lo n : Int) (s : ByteArray) (h0 : 0 ≤ hi) (h1 : hi < 18446744073709551616) (h2 : 0 ≤ lo) (h3 : lo < 18446744073709551616) (hn0 : -9223372036854775808 ≤ n) (hn1 : n ≤ 9223372036854775807) :
    ∃ k, tenancylaw02_TextPuts.f k fam hi lo n s = some true := by
  have aw : tenancylaw02_awake.f = some true := rfl
  refine ⟨70001, ?_⟩
  unfold tenancylaw02_TextPuts.f
  rw [aw, Option.bind_some, if_pos rfl, tenancylaw02_TextPuts.j0]
  by_cases hb : (s.size : Int) > 65536
  · rw [if_pos (decide_eq_true hb), aw, Option.bind_some]
  · rw [if_neg (by simp; omega)]
    have hl : 0 ≤ lo % 4294967296 ∧ lo % 4294967296 < 4294967296 := by omega
    obtain ⟨l, e6, _⟩ := put6_at hi lo h0 h1 h2 h3 70000 (by decide)
    obtain ⟨t, p1, p2, _, _⟩ := put_same fam hi lo h0 h1 h2 h3 70000 70000 (by decide) (by decide)
    obtain ⟨u, q1, q2⟩ := putPrefix_same fam hi lo n h0 h1 h2 h3 hn0 hn1 70000 70000 (by decide) (by decide)
    obtain ⟨v, v1, _, v2, _⟩ := num_same n hn0 hn1 70000 (by decide)
    obtain ⟨x, x1, x2⟩ := hex_same s (by omega) 70000 (by decide)
    rw [put4_at _ hl.1 hl.2 70000 (by decide), Option.bind_some, put4_same _ hl.1 hl.2 70000 (by decide), Option.bind_some, if_pos rfl, put6_ref hi lo h0 h1 h2 h3 70000 (by decide), e6, Option.bind_some, Option.bind_some, if_pos rfl,
      p1, Option.bind_some, p2, Option.bind_some, if_pos rfl, q1, Option.bind_some, q2, Option.bind_some, if_pos rfl, v1, Option.bind_some, v2, Option.bind_some, if_pos rfl, x1, Option.bind_some, x2, Option.bind_some]
    simp
end Go.Proofs.YtmegbllhidkmoaaDoor.Ty
