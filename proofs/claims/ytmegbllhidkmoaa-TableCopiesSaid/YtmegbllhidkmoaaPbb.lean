/- Proved here: the row of tenancylaw09.TableCopies: for all arguments that can be read, TableCopies returns true and leaves its arguments as they were; no conditions. -/
import Derived.Test.YtmegbllhidkmoaaPb6
/- The ends of a table are a heap, and what that says of Next: the plain part. -/
namespace Go.Proofs.Ytmegbllhidkmoaa.Tb
set_option linter.unusedVariables false
--BEGIN
theorem tillAt_swap {E : List End} {i j : Nat} (hi : i < E.length) (hj : j < E.length) (k : Nat) : tillAt (swapE E i j) k = if k = j then tillAt E i else if k = i then tillAt E j else tillAt E k := by
  rw [swapE_eq hi hj]
  unfold tillAt
  rw [List.getElem?_set, List.getElem?_set]
  by_cases h1 : k = j
  · subst h1; simp [hi, hj]
  · rw [if_neg (fun e => h1 e.symm), if_neg h1]
    by_cases h2 : k = i
    · subst h2; simp [hi, hj]
    · rw [if_neg (fun e => h2 e.symm), if_neg h2]
/-- A heap, but for what lies at c against what is above it. -/
structure UpTo (E : List End) (c : Nat) : Prop where
  rest : ∀ i, 0 < i → i < E.length → i ≠ c → tillAt E ((i - 1) / 2) ≤ tillAt E i
  over : 0 < c → ∀ i, 0 < i → i < E.length → (i - 1) / 2 = c → tillAt E ((c - 1) / 2) ≤ tillAt E i
def HeapE (E : List End) : Prop := ∀ i, 0 < i → i < E.length → tillAt E ((i - 1) / 2) ≤ tillAt E i
theorem siftUp_heap : ∀ (j : Nat) (E : List End), j < E.length → UpTo E j → HeapE (siftUp E j) := by
  intro j
  induction j using Nat.strongRecOn with
  | _ j ih =>
    intro E hj h
    rw [siftUp]
    by_cases h0 : j = 0
    · rw [dif_pos h0]
      intro i hi hl
      exact h.rest i hi hl (by omega)
    · rw [dif_neg h0]
      have hp : (j - 1) / 2 < j := by omega
      by_cases hc : tillAt E j < tillAt E ((j - 1) / 2)
      · rw [if_pos hc]
        have hpl : (j - 1) / 2 < E.length := by omega
        generalize hP : (j - 1) / 2 = p at *
        refine ih p hp _ (by rw [swapE_len]; exact hpl) ⟨fun i hi hl hne => ?_, fun hc0 i hi hl hip => ?_⟩
        · rw [swapE_len] at hl
          rw [tillAt_swap hpl hj, tillAt_swap hpl hj]
          by_cases e1 : i = j
          · subst e1
            rw [if_pos rfl, hP, if_neg (by omega), if_pos rfl]
            omega
          · rw [if_neg e1, if_neg hne]
            by_cases e2 : (i - 1) / 2 = j
            · rw [if_pos e2]
              have := h.over (by omega) i hi hl e2
              rw [hP] at this
              exact this
            · rw [if_neg e2]
              by_cases e3 : (i - 1) / 2 = p
              · rw [if_pos e3]
                have := h.rest i hi hl e1
                rw [e3] at this
                omega
              · rw [if_neg e3]
                exact h.rest i hi hl e1
        · rw [swapE_len] at hl
          have hpp : (p - 1) / 2 < p := by omega
          rw [tillAt_swap hpl hj, tillAt_swap hpl hj, if_neg (by omega), if_neg (by omega)]
          have hup := h.rest p hc0 hpl (by omega)
          by_cases e1 : i = j
          · rw [if_pos e1]; exact hup
          · rw [if_neg e1, if_neg (by omega)]
            have := h.rest i hi hl e1
            rw [hip] at this
            omega
      · rw [if_neg hc]
        intro i hi hl
        by_cases e1 : i = j
        · subst e1; omega
        · exact h.rest i hi hl e1
theorem swapE_perm {E : List End} {i j : Nat} (hi : i < E.length) (hj : j < E.length) : (swapE E i j).Perm E := by
  rw [swapE_eq hi hj]
  exact List.set_set_perm hi hj
theorem siftUp_perm : ∀ (j : Nat) (E : List End), j < E.length → (siftUp E j).Perm E := by
  intro j
  induction j using Nat.strongRecOn with
  | _ j ih =>
    intro E hj
    rw [siftUp]
    by_cases h0 : j = 0
    · rw [dif_pos h0]
    · rw [dif_neg h0]
      by_cases hc : tillAt E j < tillAt E ((j - 1) / 2)
      · rw [if_pos hc]
        exact (ih _ (by omega) _ (by rw [swapE_len]; omega)).trans (swapE_perm (by omega) hj)
      · rw [if_neg hc]
theorem push_heap {E : List End} (h : HeapE E) (e : End) : HeapE (siftUp (E ++ [e]) E.length) := by
  have ht : ∀ i, i < E.length → tillAt (E ++ [e]) i = tillAt E i := fun i hi => by
    unfold tillAt; rw [List.getElem?_append_left hi]
  refine siftUp_heap _ _ (by simp) ⟨fun i hi hl hne => ?_, fun h0 i hi hl hp => ?_⟩
  · rw [List.length_append, List.length_singleton] at hl
    rw [ht i (by omega), ht _ (by omega)]
    exact h i hi (by omega)
  · rw [List.length_append, List.length_singleton] at hl
    omega
theorem push_perm (E : List End) (e : End) : (siftUp (E ++ [e]) E.length).Perm (E ++ [e]) := siftUp_perm _ _ (by simp)
/-- The first n are a heap, but for what lies at c against what is below it. -/
structure DownTo (E : List End) (c n : Nat) : Prop where
  rest : ∀ i, 0 < i → i < n → (i - 1) / 2 ≠ c → tillAt E ((i - 1) / 2) ≤ tillAt E i
  over : 0 < c → ∀ i, 0 < i → i < n → (i - 1) / 2 = c → tillAt E ((c - 1) / 2) ≤ tillAt E i
theorem child_cases (E : List End) (i n : Nat) (h : 2 * i + 1 < n) : (child E i n = 2 * i + 1 ∨ child E i n = 2 * i + 2) ∧ child E i n < n ∧ ∀ k, 0 < k → k < n → (k - 1) / 2 = i → tillAt E (child E i n) ≤ tillAt E k := by
  unfold child
  by_cases hc : 2 * i + 2 < n ∧ tillAt E (2 * i + 2) < tillAt E (2 * i + 1)
  · rw [if_pos hc]
    refine ⟨.inr rfl, hc.1, fun k h0 hk hp => ?_⟩
    rcases (by omega : k = 2 * i + 1 ∨ k = 2 * i + 2) with rfl | rfl
    · omega
    · exact Int.le_refl _
  · rw [if_neg hc]
    refine ⟨.inl rfl, h, fun k h0 hk hp => ?_⟩
    rcases (by omega : k = 2 * i + 1 ∨ k = 2 * i + 2) with rfl | rfl
    · exact Int.le_refl _
    · have : ¬ tillAt E (2 * i + 2) < tillAt E (2 * i + 1) := fun e => hc ⟨hk, e⟩
      omega
theorem siftDown_heap (n : Nat) : ∀ (m i : Nat) (E : List End), n - i = m → n ≤ E.length → DownTo E i n → ∀ k, 0 < k → k < n → tillAt (siftDown E i n) ((k - 1) / 2) ≤ tillAt (siftDown E i n) k := by
  intro m
  induction m using Nat.strongRecOn with
  | _ m ih =>
    intro i E hm hn h k hk0 hk
    rw [siftDown]
    by_cases h0 : n ≤ 2 * i + 1
    · rw [dif_pos h0]
      exact h.rest k hk0 hk (by omega)
    · rw [dif_neg h0]
      obtain ⟨hch, hcn, hmin⟩ := child_cases E i n (by omega)
      by_cases hc : tillAt E (child E i n) < tillAt E i
      · rw [if_pos hc]
        generalize child E i n = c at *
        have hil : i < E.length := by omega
        have hcl : c < E.length := by omega
        refine ih (n - c) (by omega) c _ rfl (by rw [swapE_len]; exact hn) ⟨fun q hq0 hq hne => ?_, fun hc0 q hq0 hq hqc => ?_⟩ k hk0 hk
        · rw [tillAt_swap hil hcl, tillAt_swap hil hcl, if_neg hne]
          by_cases e1 : (q - 1) / 2 = i
          · rw [if_pos e1]
            by_cases e2 : q = c
            · rw [if_pos e2]; omega
            · rw [if_neg e2, if_neg (by omega)]
              exact hmin q hq0 hq e1
          · rw [if_neg e1]
            by_cases e2 : q = c
            · subst e2; omega
            · rw [if_neg e2]
              by_cases e3 : q = i
              · rw [if_pos e3]
                subst e3
                exact h.over hq0 c (by omega) hcn (by omega)
              · rw [if_neg e3]
                exact h.rest q hq0 hq e1
        · have hci : (c - 1) / 2 = i := by omega
          rw [tillAt_swap hil hcl, tillAt_swap hil hcl, hci, if_neg (by omega), if_pos rfl, if_neg (by omega), if_neg (by omega)]
          have := h.rest q hq0 hq (by omega)
          rw [hqc] at this
          exact this
      · rw [if_neg hc]
        by_cases e1 : (k - 1) / 2 = i
        · have := hmin k hk0 hk e1
          rw [e1]; omega
        · exact h.rest k hk0 hk e1
theorem siftDown_perm (n : Nat) : ∀ (m i : Nat) (E : List End), n - i = m → n ≤ E.length → (siftDown E i n).Perm E := by
  intro m
  induction m using Nat.strongRecOn with
  | _ m ih =>
    intro i E hm hn
    rw [siftDown]
    by_cases h0 : n ≤ 2 * i + 1
    · rw [dif_pos h0]
    · rw [dif_neg h0]
      obtain ⟨hch, hcn, _⟩ := child_cases E i n (by omega)
      by_cases hc : tillAt E (child E i n) < tillAt E i
      · rw [if_pos hc]
        generalize child E i n = c at *
        exact (ih (n - c) (by omega) c _ rfl (by rw [swapE_len]; exact hn)).trans (swapE_perm (by omega) (by omega))
      · rw [if_neg hc]
theorem siftDown_keep (n : Nat) : ∀ (m i : Nat) (E : List End), n - i = m → n ≤ E.length → ∀ k, n ≤ k → (siftDown E i n)[k]? = E[k]? := by
  intro m
  induction m using Nat.strongRecOn with
  | _ m ih =>
    intro i E hm hn k hk
    rw [siftDown]
    by_cases h0 : n ≤ 2 * i + 1
    · rw [dif_pos h0]
    · rw [dif_neg h0]
      obtain ⟨hch, hcn, _⟩ := child_cases E i n (by omega)
      by_cases hc : tillAt E (child E i n) < tillAt E i
      · rw [if_pos hc]
        generalize child E i n = c at *
        rw [ih (n - c) (by omega) c _ rfl (by rw [swapE_len]; exact hn) k hk, swapE_eq (by omega) (by omega), List.getElem?_set_ne (by omega), List.getElem?_set_ne (by omega)]
      · rw [if_neg hc]
/-- The heap behind Pop: a heap, and all but the one on top. -/
theorem popped_spec (e : End) (E : List End) (h : HeapE (e :: E)) : HeapE (popped (e :: E)) ∧ (popped (e :: E)).Perm E := by
  unfold popped
  have hn : (e :: E).length - 1 = E.length := by simp
  rw [hn]
  obtain ⟨D, hD⟩ : ∃ D, siftDown (swapE (e :: E) 0 E.length) 0 E.length = D := ⟨_, rfl⟩
  have hsl : (swapE (e :: E) 0 E.length).length = E.length + 1 := by rw [swapE_len]; rfl
  have hperm : D.Perm (e :: E) := by
    rw [← hD]
    exact (siftDown_perm E.length _ 0 _ rfl (by rw [hsl]; omega)).trans (swapE_perm (by simp) (by simp))
  have hDl : D.length = E.length + 1 := hperm.length_eq
  have hlast : D[E.length]? = some e := by
    rw [← hD, siftDown_keep E.length _ 0 _ rfl (by rw [hsl]; omega) E.length (Nat.le_refl _), swapE_eq (by simp) (by simp), List.getElem?_set]
    rw [if_pos rfl]; simp
  have hheap : ∀ k, 0 < k → k < E.length → tillAt D ((k - 1) / 2) ≤ tillAt D k := by
    rw [← hD]
    refine siftDown_heap E.length _ 0 _ rfl (by rw [hsl]; omega) ⟨fun i hi hl hne => ?_, fun h0 => absurd h0 (Nat.lt_irrefl _)⟩
    rw [tillAt_swap (by simp) (by simp), tillAt_swap (by simp) (by simp), if_neg (by omega), if_neg hne, if_neg (by omega), if_neg (by omega)]
    exact h i hi (by simp; omega)
  rw [hD]
  have hsplit : D = D.dropLast ++ [e] := by
    have hne : D ≠ [] := by intro h0; rw [h0] at hDl; simp at hDl
    have h1 := List.dropLast_concat_getLast hne
    have h2 : D.getLast hne = e := by
      rw [List.getLast_eq_getElem]
      have : D.length - 1 = E.length := by omega
      simp only [this]
      rw [List.getElem?_eq_getElem (by omega)] at hlast
      exact Option.some.inj hlast
    rw [h2] at h1; exact h1.symm
  refine ⟨fun i hi hl => ?_, ?_⟩
  · rw [List.length_dropLast] at hl
    have ht : ∀ k, k < E.length → tillAt D.dropLast k = tillAt D k := fun k hk => by
      unfold tillAt
      rw [List.getElem?_dropLast, if_pos (by omega)]
    rw [ht i (by omega), ht _ (by omega)]
    exact hheap i hi (by omega)
  · have h3 : (D.dropLast ++ [e]).Perm (E ++ [e]) := by
      rw [← hsplit]
      exact hperm.trans (List.perm_append_comm (l₁ := [e]))
    exact (List.perm_append_right_iff [e]).1 h3
/-- The one on top is the least. -/
theorem heap_least (e : End) (E : List End) (h : HeapE (e :: E)) : ∀ x ∈ e :: E, e.till ≤ x.till := by
  have hk : ∀ k, k < (e :: E).length → e.till ≤ tillAt (e :: E) k := by
    intro k
    induction k using Nat.strongRecOn with
    | _ k ih =>
      intro hl
      by_cases h0 : k = 0
      · subst h0; simp [tillAt]
      · have h1 := h k (by omega) hl
        have h2 := ih ((k - 1) / 2) (by omega) (by omega)
        omega
  intro x hx
  obtain ⟨i, hi, rfl⟩ := List.getElem_of_mem hx
  have := hk i hi
  rwa [tillAt_eq hi] at this
--END
end Go.Proofs.Ytmegbllhidkmoaa.Tb

/- What the laws on tables share: ends with keys that are in their kinds; Next, All and Copy of a table that is held; Next again. -/
namespace Go.Proofs.Ytmegbllhidkmoaa.Tb
open Go.RowKit Go.Maps
set_option linter.unusedVariables false
def EndsOk (E : List End) : Prop := ∀ e ∈ E, e.key.ok
theorem endsOk_change {E : List End} (h : EndsOk E) {c : Change} (hc : c.lease.ok) : EndsOk (changeEnds E c) := by
  unfold changeEnds
  split
  · exact h
  · intro e he
    rcases List.mem_append.1 ((push_perm E c.lease.fin).mem_iff.1 he) with he | he
    · exact h e he
    · obtain rfl : e = c.lease.fin := by simpa using he
      exact hc.1
theorem endsOk_apply : ∀ (cs : List Change) {E : List End}, EndsOk E → (∀ c ∈ cs, c.lease.ok) → EndsOk (applyEnds E cs)
  | [], E, h, _ => h
  | c :: cs, E, h, hc => endsOk_apply cs (endsOk_change h (hc c List.mem_cons_self)) (fun x hx => hc x (List.mem_cons_of_mem _ hx))
theorem endsOk_applyS {S : List Lease × List End} {cs : List Change} (h : EndsOk S.2) (hc : ∀ c ∈ cs, c.lease.ok) : EndsOk (applyS S cs).2 := by
  unfold applyS; split
  · exact endsOk_apply cs h hc
  · exact h
theorem endsOk_step {S : List Lease × List End} {cs : List Change} (h : EndsOk S.2) (hc : ∀ c ∈ cs, c.lease.ok) : EndsOk (stepS S cs).2 := by
  unfold stepS; split
  · exact endsOk_applyS h hc
  · exact h
theorem endsOk_fold : ∀ (css : List (List Change)) {S : List Lease × List End}, EndsOk S.2 → (∀ cs ∈ css, ∀ c ∈ cs, c.lease.ok) → EndsOk (css.foldl stepS S).2
  | [], S, h, _ => h
  | cs :: css, S, h, hc => endsOk_fold css (endsOk_step h (hc cs List.mem_cons_self)) (fun x hx => hc x (List.mem_cons_of_mem _ hx))
theorem ListsAt.oks {w : World} {v : Value} {css : List (List Change)} (h : ListsAt w v css) : ∀ cs ∈ css, ∀ c ∈ cs, c.lease.ok := by
  obtain ⟨p, cap, rfl, h1, h2, h3⟩ := h
  intro cs hcs c hc
  obtain ⟨i, hi, rfl⟩ := List.getElem_of_mem hcs
  obtain ⟨g, off, vi, _, _, hh⟩ := h3 i hi
  obtain ⟨_, _, _, _, _, _, hok⟩ := hh
  exact hok c hc
theorem endsOk_filled {w : World} {v : Value} {css : List (List Change)} (h : ListsAt w v css) : EndsOk (filledS css).2 :=
  endsOk_fold _ (fun e he => by cases he) (fun cs hcs => h.oks cs (List.mem_of_mem_take hcs))
theorem next_again : ∀ (n : Nat) (L : List Lease) (E : List End), E.length ≤ n → nextR (nextE n L E).length L (nextE n L E) = nextR n L E ∧ (nextE n L E).length ≤ E.length
  | 0, L, E, h => by
    obtain rfl : E = [] := List.length_eq_zero_iff.1 (by omega)
    exact ⟨rfl, Nat.le_refl _⟩
  | n + 1, L, [], _ => ⟨rfl, Nat.le_refl _⟩
  | n + 1, L, e :: E, h => by
    simp only [nextE, nextR]
    by_cases hit : nextHit L e = true
    · rw [if_pos hit, if_pos hit]
      simp only [List.length_cons, nextR, if_pos hit]
      exact ⟨trivial, Nat.le_refl _⟩
    · rw [if_neg hit, if_neg hit]
      have hl : (popped (e :: E)).length = E.length := by rw [popped_len]; simp
      rw [List.length_cons] at h
      have := next_again n L (popped (e :: E)) (by omega)
      exact ⟨this.1, by rw [List.length_cons]; omega⟩
theorem nextE_ok : ∀ (n : Nat) (L : List Lease) (E : List End), EndsOk E → EndsOk (nextE n L E)
  | 0, L, E, h => h
  | n + 1, L, [], _ => fun e he => by cases he
  | n + 1, L, e :: E, h => by
    simp only [nextE]
    split
    · exact h
    · exact nextE_ok n L _ (fun x hx => h x (popped_mem hx))
theorem foot_lt {w : World} {bt b1 b2 N : Nat} {v : Value} {L : List Lease} {E : List End} (h : TabAt w bt b1 b2 v N L E) : ∀ k, Foot bt b1 b2 v k → k < w.heap.size := fun k hk => by
  rcases hk with rfl | rfl | rfl | hk
  · exact (Array.getElem?_eq_some_iff.1 h.blk).1
  · exact h.m1.lt
  · exact h.m2.lt
  · exact ends_lt h.ends hk
/-- Next of a table that is held: it may turn blocks of the table alone. -/
theorem held_next (w w0 wr : World) (bt N : Nat) (S : List Lease × List End) (h : Held w w0 bt N S) (hk : Kept (fun k => w0.heap.size ≤ k) w0 wr) (hN : N ≤ 1000000000) (hE : EndsOk S.2) :
    Calls Try.prog 19 #[.pointer (some ⟨bt, 0, none⟩)] wr fun e w2 => e = .returned (.tuple #[.int .i64 (nextR S.2.length S.1 S.2).1, .bool (nextR S.2.length S.1 S.2).2]) ∧ Held w w2 bt N (S.1, nextE S.2.length S.1 S.2) ∧ Kept (fun k => w.heap.size ≤ k ∧ k < w0.heap.size) wr w2 := by
  obtain ⟨b1, b2, v, hT, hf⟩ := h.tab
  have hsz := h.quiet.size
  have hlt : ∀ k, Foot bt b1 b2 v k → k < w0.heap.size := foot_lt hT
  have hT' := hT.kept hk (fun k hk' h => by have := hlt k hk'; omega)
  refine (tab_next wr bt b1 b2 N v S.1 S.2 hT' hN hE).mono ?_
  rintro e w2 ⟨rfl, v', r1, r2, r3⟩
  have hK : Kept (fun k => w.heap.size ≤ k ∧ k < w0.heap.size) wr w2 := r3.mono (fun k hk' => by
    rcases hk' with rfl | hk'
    · exact ⟨hf _ (.inl rfl), hlt _ (.inl rfl)⟩
    · exact ⟨hf k (.inr (.inr (.inr hk'))), hlt k (.inr (.inr (.inr hk')))⟩)
  refine ⟨rfl, ⟨⟨b1, b2, v', r1, fun k hk => hf k (hk.imp id (fun h => h.imp id (fun h => h.imp id (fun h => by rw [← r2]; exact h))))⟩, h.sorted, h.uniq, (h.quiet.andThen hk (fun i hi h => by omega)).andThen hK (fun i hi h => absurd h.1 (by omega))⟩, hK⟩
theorem Held.kept {w wr w2 : World} {bt N : Nat} {S : List Lease × List End} {U : Nat → Prop} (h : Held w wr bt N S) (hk : Kept U wr w2) (hu : ∀ k, w.heap.size ≤ k → k < wr.heap.size → ¬ U k) (hl : ∀ k, k < w.heap.size → ¬ U k) : Held w w2 bt N S := by
  obtain ⟨b1, b2, v, hT, hf⟩ := h.tab
  have hlt : ∀ k, Foot bt b1 b2 v k → k < wr.heap.size := fun k hk => by
    rcases hk with rfl | rfl | rfl | hk
    · exact (Array.getElem?_eq_some_iff.1 hT.blk).1
    · exact hT.m1.lt
    · exact hT.m2.lt
    · exact ends_lt hT.ends hk
  exact ⟨⟨b1, b2, v, hT.kept hk (fun k hk' => hu k (hf k hk') (hlt k hk')), hf⟩, h.sorted, h.uniq, h.quiet.andThen hk (fun i hi h => hl i hi h)⟩
/-- Block g is of cells that may be written, n or more. -/
def CellsAt (w : World) (g n : Nat) : Prop := ∃ cur T, w.heap[g]? = some (.cells cur T (0, 0)) ∧ n ≤ cur.size
theorem CellsAt.set {w : World} {g n : Nat} (h : CellsAt w g n) (o : Nat) (v : Value) : CellsAt (w.setCell ⟨g, o, none⟩ v) g n := by
  obtain ⟨cur, T, hb, hn⟩ := h
  exact ⟨_, T, heap_setCell_same w g o cur T v hb, by simpa using hn⟩
theorem CellsAt.at {w : World} {g n : Nat} (h : CellsAt w g n) (o : Nat) (ho : o < n) : (∃ v, w.cell? ⟨g, o, none⟩ = some v) ∧ w.frozen? ⟨g, o, none⟩ = false := by
  obtain ⟨cur, T, hb, hn⟩ := h
  refine ⟨⟨cur[o]'(by omega), ?_⟩, (cell_of hb o).2⟩
  rw [(cell_of hb o).1, Array.getElem?_eq_getElem]
theorem LeasesIs.cells {w : World} {B : Nat} {p : Option Addr} {n cap : Nat} {R : List Lease} (h : LeasesIs w B (.slice p n cap) R) (h0 : 0 < R.length) : ∃ g, p = some ⟨g, 0, none⟩ ∧ B ≤ g ∧ g < w.heap.size ∧ CellsAt w g (R.length * 8) ∧ n = R.length := by
  obtain ⟨h1, h2⟩ := h
  rcases h2 with ⟨hv, hh⟩ | ⟨g, cap', cur, hv, hg, hb, hn, hm, hc, ht⟩
  · omega
  · obtain ⟨rfl, rfl, rfl⟩ : p = some ⟨g, 0, none⟩ ∧ n = R.length ∧ cap = cap' := by simpa using hv
    refine ⟨g, rfl, hg, (Array.getElem?_eq_some_iff.1 hb).1, ⟨cur, _, hb, ?_⟩, rfl⟩
    have := congrArg List.length ht
    rw [List.length_take, flat_length _ 8 lcells, Array.length_toList] at this
    omega
end Go.Proofs.Ytmegbllhidkmoaa.Tb

/- The law TableCopies. -/
namespace Go.Proofs.Ytmegbllhidkmoaa.Tb
open Go.RowKit Go.Maps Go.Shelf Go.Proofs.YtmegbllhidkmoaaW.PrintWords Go.Proofs.YtmegbllhidkmoaaW.PrintLast Go.Proofs.YtmegbllhidkmoaaW.PrintMore
set_option linter.unusedVariables false
theorem same_true (w : World) (B B' : Nat) (a b : Value) (R : List Lease) (ha : LeasesIs w B a R) (hb : LeasesIs w B' b R) :
    Calls Try.prog 15 #[a, b] w fun e w' => e = .returned (.bool true) ∧ Quiet w w' := by
  have := same_run w B B' a b R R ha hb
  rw [decide_eq_true rfl] at this
  exact this
theorem zero_agg (w : World) : (Instr.build 36 #[]).run Try.prog w = .ok (.agg #[.int .i64 0, .int .u64 0, .int .u64 0, .int .i64 0, .int .i64 0, .string ⟨#[]⟩, .int .u32 0, .int .i64 0]) w := by kernel_rfl
theorem CellsAt.set8 {w : World} {g n : Nat} (h : CellsAt w g n) (o0 o1 o2 o3 o4 o5 o6 o7 : Nat) (v0 v1 v2 v3 v4 v5 v6 v7 : Value) : CellsAt ((((((((w.setCell ⟨g, o0, none⟩ v0).setCell ⟨g, o1, none⟩ v1).setCell ⟨g, o2, none⟩ v2).setCell ⟨g, o3, none⟩ v3).setCell ⟨g, o4, none⟩ v4).setCell ⟨g, o5, none⟩ v5).setCell ⟨g, o6, none⟩ v6).setCell ⟨g, o7, none⟩ v7) g n :=
  (((((((h.set o0 v0).set o1 v1).set o2 v2).set o3 v3).set o4 v4).set o5 v5).set o6 v6).set o7 v7
theorem Kept.set8 {U : Nat → Prop} {a w : World} (h : Kept U a w) {g : Nat} (hg : U g) (o0 o1 o2 o3 o4 o5 o6 o7 : Nat) (v0 v1 v2 v3 v4 v5 v6 v7 : Value) : Kept U a ((((((((w.setCell ⟨g, o0, none⟩ v0).setCell ⟨g, o1, none⟩ v1).setCell ⟨g, o2, none⟩ v2).setCell ⟨g, o3, none⟩ v3).setCell ⟨g, o4, none⟩ v4).setCell ⟨g, o5, none⟩ v5).setCell ⟨g, o6, none⟩ v6).setCell ⟨g, o7, none⟩ v7) :=
  (((((((h.setCell (p := ⟨g, o0, none⟩) (fun _ => hg) v0).setCell (p := ⟨g, o1, none⟩) (fun _ => hg) v1).setCell (p := ⟨g, o2, none⟩) (fun _ => hg) v2).setCell (p := ⟨g, o3, none⟩) (fun _ => hg) v3).setCell (p := ⟨g, o4, none⟩) (fun _ => hg) v4).setCell (p := ⟨g, o5, none⟩) (fun _ => hg) v5).setCell (p := ⟨g, o6, none⟩) (fun _ => hg) v6).setCell (p := ⟨g, o7, none⟩) (fun _ => hg) v7
set_option maxHeartbeats 6400000 in
set_option maxRecDepth 100000 in
theorem copies_run (w : World) (v u : Value) (css mss : List (List Change)) (h : ListsAt w v css) (h' : ListsAt w u mss) : Calls Try.prog 6 #[v, u] w fun e w' => e = .returned (.bool true) ∧ Quiet w w' := by
  have hE := endsOk_filled h
  have hshape := h
  obtain ⟨pv, cv, hv, _⟩ := hshape
  subst hv
  obtain ⟨pu, cu, hu, hn, hm, hcell⟩ := h'
  subst hu
  have HX := Aside1.mk hcell
  have HLs := Aside1.mk h
  have HMo := Aside1.mk (show ListsAt w (.slice pu mss.length cu) mss from ⟨pu, cu, rfl, hn, hm, hcell⟩)
  have hmlen : (mss.length : Int) ≤ 9223372036854775807 := by unfold maxLen at hm; omega
  clear h hcell
  go_enter Try.func6, Try.ntmps6
  go_wp2_with (first
    | (go_at_call 7; refine (awake_run _).mono ?_; rintro e w1 ⟨rfl, hq1⟩)
    | (go_at_call 8; refine (filled_run _ _ css (HLs.out.quiet hq1)).mono ?_; rintro e w2 ⟨bt, rfl, hH2⟩)
    | (go_at_call 21; refine (held_copy _ _ bt 90000 _ hH2 (by decide)).mono ?_; rintro e w3 ⟨bc, rfl, hC3, hq3⟩)
    | (go_at_call 9; refine (held_all _ _ bt 90000 _ (hH2.keep hq3) (by decide)).mono ?_; rintro e w4 ⟨vb, rfl, hl4, hq4⟩))
  obtain ⟨S, hS⟩ : ∃ S, filledS css = S := ⟨_, rfl⟩
  rw [hS] at hE hH2 hC3 hl4
  have q01 : Quiet w w1 := hq1
  have q12 := hH2.quiet
  have z01 := hq1.size
  have z12 := q12.size
  have z23 := hq3.size
  have z34 := hq4.size
  have hbc := hC3.base
  have hbt := hH2.base
  obtain ⟨pb, cb, hvb⟩ := leases_shape hl4
  subst hvb
  have Q04 : Aside1 (Quiet w w4) := ⟨((q01.andThen q12 (fun _ _ h => h)).andThen hq3 (fun _ _ h => h)).andThen hq4 (fun _ _ h => h)⟩
  have HT2 := Aside1.mk hH2
  have HL4 := Aside1.mk hl4
  have HC4 : Aside1 (Held w2 w4 bc 90000 S) := ⟨hC3.keep hq4⟩
  have K24 : Aside1 (Quiet w2 w4) := ⟨hq3.andThen hq4 (fun _ _ h => h)⟩
  have HEN := Aside1.mk hE
  have HZ := Aside1.mk (show w.heap.size ≤ w1.heap.size ∧ w1.heap.size ≤ w2.heap.size ∧ w2.heap.size ≤ w3.heap.size ∧ w3.heap.size ≤ w4.heap.size ∧ w2.heap.size ≤ bc ∧ bc < w3.heap.size from ⟨z01, z12, z23, z34, hbc⟩)
  clear hH2 hC3 hl4 hq1 hq3 hq4 q01 q12 z01 z12 z23 z34 hbc hbt hE hS HLs
  go_loopw [8] (fun v8 wr => ∃ j : Nat, v8 = .int .i64 j ∧ j ≤ mss.length ∧ j ≤ 300 ∧ Aside1 (Held w2 wr bc (90000 + 300 * j) ((mss.take j).foldl stepS S)) ∧ Aside1 (Kept (fun k => k = bc) w4 wr)) (fun v8 _ => mss.length - (RowKit.intOf v8).toNat)
  case atStart => exact ⟨0, rfl, Nat.zero_le _, Nat.zero_le _, HC4, ⟨Kept.refl _ _⟩⟩
  case round =>
    clear HC4
    obtain ⟨j, rfl, hj, hj3, HJ, HK⟩ := hrel
    have QJ : Aside1 (Quiet w wr) := ⟨Q04.out.andThen HK.out (fun i hi e => by have := HZ.out; omega)⟩
    by_cases hgo : j < mss.length ∧ j < 300
    · obtain ⟨hlt, h300⟩ := hgo
      have hi : (j : Int) < (mss.length : Int) := by omega
      have hi3 : (j : Int) < 300 := by omega
      obtain ⟨g, off, vi, hp, hc, hch⟩ := HX.out j hlt
      subst hp
      have hc' := QJ.out.cell hc (fun h => h)
      obtain ⟨q, qc, hv, hrest⟩ := hch.quiet QJ.out
      have HCH := Aside1.mk (show ChangesAt wr (.slice q (mss[j]'hlt).length qc) (mss[j]'hlt) by rw [← hv]; exact hch.quiet QJ.out)
      subst hv
      have HN := Aside1.mk (play_next hlt S)
      clear hch hrest hc
      obtain ⟨cs, HCS⟩ : ∃ x, Aside1 (mss[j]'hlt = x) := ⟨_, ⟨rfl⟩⟩
      rw [HCS.out] at HCH HN hc'
      by_cases hl : cs.length ≤ 300
      · have hl' : (cs.length : Int) ≤ 300 := by omega
        have happ := held_apply w2 wr bc (90000 + 300 * j) _ HJ.out _ cs HCH.out (by omega)
        go_wp2_with (go_at_call 22; refine happ.mono ?_; rintro e w5 ⟨rfl, hH5, hk5⟩)
        refine ⟨⟨j + 1, by rw [Int.natCast_add]; rfl, hlt, h300, ⟨?_⟩, ⟨HK.out.andThen hk5 (fun _ _ h => h)⟩⟩, by simp [RowKit.intOf]; omega⟩
        rw [HN.out]
        unfold stepS
        rw [if_pos hl]
        exact hH5.mono (by omega)
      · have hl' : ¬ (cs.length : Int) ≤ 300 := by omega
        go_wp2_with fail
        refine ⟨⟨j + 1, by rw [Int.natCast_add]; rfl, hlt, h300, ⟨?_⟩, HK⟩, by simp [RowKit.intOf]; omega⟩
        rw [HN.out]
        unfold stepS
        rw [if_neg hl]
        exact HJ.out.mono (by omega)
    · have hgd : decide ((j : Int) < (mss.length : Int)) = true → decide ((j : Int) < 300) = false := fun h => decide_eq_false (by simp only [decide_eq_true_eq] at h; omega)
      obtain ⟨Sc, HSc⟩ : ∃ Sc, Aside1 ((mss.take j).foldl stepS S = Sc) := ⟨_, ⟨rfl⟩⟩
      obtain ⟨X1, hX1⟩ : ∃ X1 : World, X1 = wr := ⟨_, rfl⟩
      have HC1 : Aside1 (Held w2 X1 bc 180000 Sc) := ⟨by rw [hX1, ← HSc.out]; exact HJ.out.mono (by omega)⟩
      have K21 : Aside1 (Kept (fun k => w2.heap.size ≤ k) w2 X1) := ⟨by rw [hX1]; exact (K24.out.mono (S' := fun k => w2.heap.size ≤ k) (fun _ h => h.elim)).andThen HK.out (fun i hi e => by have := HZ.out; omega)⟩
      have HLb : Aside1 (LeasesIs X1 w3.heap.size (.slice pb S.1.length cb) S.1) := ⟨by rw [hX1]; exact HL4.out.old HK.out (fun k hk e => by have := (HL4.out.lt hk).1; have := HZ.out; omega)⟩
      have hza := HZ.out
      have hzX : w4.heap.size ≤ X1.heap.size := by rw [hX1]; exact HK.out.size
      rw [← hX1] at QJ
      subst hX1
      have hlenS : (S.1.length : Int) ≤ 9223372036854775807 := by
        obtain ⟨h1, h2⟩ := HLb.out
        rcases h2 with ⟨hv, h0⟩ | ⟨g', cap', cur', hv, hg', hh', hn', hm', _⟩
        · omega
        · unfold maxLen at hm'; omega
      clear HJ HK HL4 HSc
      have tail : True := trivial
      by_cases hlt : j < mss.length
      all_goals
        first | (have hi : (j : Int) < (mss.length : Int) := by omega) | (have hi : ¬ (j : Int) < (mss.length : Int) := by omega)
        try (have hi3 : ¬ (j : Int) < 300 := by omega)
        clear hgd
        go_wp2_with fail
        -- c.All
        refine (held_all _ _ bc 180000 _ HC1.out (by decide)).mono ?_
        rintro e Xa ⟨va, rfl, hla, hqa⟩
        obtain ⟨pa, ca, hva⟩ := leases_shape hla
        subst hva
        have z1a := hqa.size
        have HLa := Aside1.mk hla
        have HQa := Aside1.mk hqa
        clear hla hqa
        go_wp2_with fail
        -- t.All, same
        have HT1 : Aside1 (Held w1 Xa bt 90000 S) := ⟨(HT2.out.kept K21.out (fun k _ h e => by omega) (fun k h e => by omega)).keep HQa.out⟩
        refine (held_all _ _ bt 90000 _ HT1.out (by decide)).mono ?_
        rintro e Xb ⟨vt, rfl, hlt', hqb⟩
        have z2 := hqb.size
        have HQb := Aside1.mk hqb
        have hsame := same_true Xb Xa.heap.size w3.heap.size vt (.slice pb S.1.length cb) S.1 hlt' (HLb.out.old (HQa.out.andThen hqb (fun _ _ h => h)) (fun _ _ h => h))
        clear hlt' hqb
        go_wp2_with fail
        refine hsame.mono ?_
        rintro e Xc ⟨rfl, hqc⟩
        have z3 := hqc.size
        have HQc := Aside1.mk hqc
        clear hqc hsame
        go_wp2_with fail
        -- l := t.All
        refine (held_all _ _ bt 90000 _ ((HT1.out.keep HQb.out).keep HQc.out) (by decide)).mono ?_
        rintro e Xd ⟨vl, rfl, hll, hqd⟩
        obtain ⟨pl, cl, hvl⟩ := leases_shape hll
        subst hvl
        have z4 := hqd.size
        have HQd := Aside1.mk hqd
        have HCl : Aside1 (0 < S.1.length → ∃ g, pl = some ⟨g, 0, none⟩ ∧ Xc.heap.size ≤ g ∧ CellsAt Xd g (S.1.length * 8)) := ⟨fun h0 => by
          obtain ⟨g, h1, h2, _, h4, _⟩ := hll.cells h0
          exact ⟨g, h1, h2, h4⟩⟩
        clear hll hqd
        go_wp2_with fail
        go_loopw [11] (fun v11 wr => ∃ i : Nat, v11 = .int .i64 i ∧ i ≤ S.1.length ∧ Aside1 (Kept (fun k => Xc.heap.size ≤ k) Xd wr) ∧ Aside1 (0 < S.1.length → ∃ g, pl = some ⟨g, 0, none⟩ ∧ Xc.heap.size ≤ g ∧ CellsAt wr g (S.1.length * 8))) (fun v11 _ => S.1.length - (RowKit.intOf v11).toNat)
        case atStart => exact ⟨0, rfl, Nat.zero_le _, ⟨Kept.refl _ _⟩, HCl⟩
        case round =>
          clear HCl
          obtain ⟨i, rfl, hil, HKe, HCe⟩ := hrel
          by_cases hin : i < S.1.length
          · have hinz : (i : Int) < (S.1.length : Int) := by omega
            obtain ⟨g, hg, hgx, hcl⟩ := HCe.out (by omega)
            subst hg
            obtain ⟨⟨c0, a0⟩, f0⟩ := hcl.at (i * 8) (by omega)
            obtain ⟨⟨c1, a1⟩, f1⟩ := hcl.at (i * 8 + 1) (by omega)
            obtain ⟨⟨c2, a2⟩, f2⟩ := hcl.at (i * 8 + 2) (by omega)
            obtain ⟨⟨c3, a3⟩, f3⟩ := hcl.at (i * 8 + 3) (by omega)
            obtain ⟨⟨c4, a4⟩, f4⟩ := hcl.at (i * 8 + 4) (by omega)
            obtain ⟨⟨c5, a5⟩, f5⟩ := hcl.at (i * 8 + 5) (by omega)
            obtain ⟨⟨c6, a6⟩, f6⟩ := hcl.at (i * 8 + 6) (by omega)
            obtain ⟨⟨c7, a7⟩, f7⟩ := hcl.at (i * 8 + 7) (by omega)
            have HCg := Aside1.mk hcl
            have HGX := Aside1.mk hgx
            clear hcl hgx HCe
            have hz := zero_agg
            go_wp2_with fail
            refine ⟨⟨i + 1, by rw [Int.natCast_add]; rfl, hin, ⟨HKe.out.set8 HGX.out _ _ _ _ _ _ _ _ _ _ _ _ _ _ _ _⟩, ⟨fun _ => ⟨g, rfl, HGX.out, HCg.out.set8 _ _ _ _ _ _ _ _ _ _ _ _ _ _ _ _⟩⟩⟩, by simp [RowKit.intOf]; omega⟩
          · have hinz : ¬ (i : Int) < (S.1.length : Int) := by omega
            have z5 := HKe.out.size
            -- what holds here
            have K1e : Aside1 (Kept (fun k => Xc.heap.size ≤ k) X1 wr) := ⟨((((HQa.out.andThen HQb.out (fun _ _ h => h)).andThen HQc.out (fun _ _ h => h)).andThen HQd.out (fun _ _ h => h)).mono (fun _ h => h.elim)).andThen HKe.out (fun _ _ h => h)⟩
            have K2e : Aside1 (Kept (fun k => w2.heap.size ≤ k) w2 wr) := ⟨K21.out.andThen K1e.out (fun i _ h => by omega)⟩
            have hnx := held_next w1 w2 wr bt 90000 S HT2.out K2e.out (by decide) HEN.out
            clear HCe
            go_wp2_with fail
            refine hnx.mono ?_
            rintro e Xf ⟨rfl, hHf, hkf⟩
            have z6 := hkf.size
            have HHf := Aside1.mk hHf
            have HKf := Aside1.mk hkf
            clear hHf hkf hnx
            go_wp2_with fail
            refine (held_copy _ _ bt 90000 _ HHf.out (by decide)).mono ?_
            rintro e Xg ⟨bd, rfl, hHg, hqg⟩
            have z7 := hqg.size
            have HHg := Aside1.mk hHg
            have HQg := Aside1.mk hqg
            clear hHg hqg
            go_wp2_with fail
            have hnx2 := held_next Xf Xg Xg bd 90000 _ HHg.out (Kept.refl _ _) (by decide) (nextE_ok _ _ _ HEN.out)
            simp only [(next_again S.2.length S.1 S.2 (Nat.le_refl _)).1] at hnx2
            refine hnx2.mono ?_
            rintro e Xh ⟨rfl, _, hkh⟩
            have z8 := hkh.size
            have HKh := Aside1.mk hkh
            clear hkh hnx2
            go_wp2_with fail
            have Kah : Aside1 (Kept (fun k => (w1.heap.size ≤ k ∧ k < w2.heap.size) ∨ Xc.heap.size ≤ k) Xa Xh) := ⟨((((((HQb.out.andThen HQc.out (fun _ _ h => h)).andThen HQd.out (fun _ _ h => h)).mono (S' := fun k => (w1.heap.size ≤ k ∧ k < w2.heap.size) ∨ Xc.heap.size ≤ k) (fun _ h => h.elim)).andThen HKe.out (fun _ _ h => .inr h)).andThen HKf.out (fun _ _ h => .inl h)).andThen HQg.out (fun _ _ h => h.elim)).andThen HKh.out (fun i _ h => .inr (by omega))⟩
            have K1h : Aside1 (Kept (fun k => (w1.heap.size ≤ k ∧ k < w2.heap.size) ∨ Xc.heap.size ≤ k) X1 Xh) := ⟨(HQa.out.mono (S' := fun k => (w1.heap.size ≤ k ∧ k < w2.heap.size) ∨ Xc.heap.size ≤ k) (fun _ h => h.elim)).andThen Kah.out (fun _ _ h => h)⟩
            have Kfh : Aside1 (Kept (fun k => Xf.heap.size ≤ k) Xf Xh) := ⟨(HQg.out.mono (S' := fun k => Xf.heap.size ≤ k) (fun _ h => h.elim)).andThen HKh.out (fun _ _ h => h.1)⟩
            have HTh := HHf.out.kept Kfh.out (fun k _ h e => by omega) (fun k h e => by omega)
            refine (held_all _ _ bt 90000 _ HTh (by decide)).mono ?_
            rintro e Xi ⟨vt2, rfl, hli, hqi⟩
            have HQi := Aside1.mk hqi
            have hsame := same_true Xi Xh.heap.size w3.heap.size vt2 (.slice pb S.1.length cb) S.1 hli ((HLb.out.old K1h.out (fun k hk e => by have := HLb.out.lt hk; omega)).old hqi (fun _ _ h => h))
            clear hli hqi
            go_wp2_with fail
            refine hsame.mono ?_
            rintro e Xj ⟨rfl, hqj⟩
            have HQj := Aside1.mk (HQi.out.andThen hqj (fun _ _ h => h))
            clear hqj hsame
            go_wp2_with fail
            obtain ⟨c1, c2, vc, hTc, hfc⟩ := HC1.out.tab
            have hltc := foot_lt hTc
            have hTj := (hTc.kept K1h.out (fun k hk e => by have := hfc k hk; have := hltc k hk; omega)).kept HQj.out (fun _ _ h => h)
            refine (tab_all Xj bc c1 c2 180000 vc Sc.1 Sc.2 hTj (by decide) HC1.out.sorted).mono ?_
            rintro e Xk ⟨vc2, rfl, hlk, hqk⟩
            have HQk := Aside1.mk (HQj.out.andThen hqk (fun _ _ h => h))
            have hsame := same_true Xk Xj.heap.size X1.heap.size vc2 (.slice pa Sc.1.length ca) Sc.1 hlk ((HLa.out.old Kah.out (fun k hk e => by have := HLa.out.lt hk; omega)).old HQk.out (fun _ _ h => h))
            clear hlk hqk hTc hfc hltc hTj
            go_wp2_with fail
            refine hsame.mono ?_
            rintro e Xl ⟨rfl, hql⟩
            have HQl := Aside1.mk (HQk.out.andThen hql (fun _ _ h => h))
            clear hql hsame
            go_wp2_with fail
            go_ret
            exact ⟨rfl, (QJ.out.andThen K1h.out (fun i hi e => by omega)).andThen HQl.out (fun _ _ h => h)⟩
end Go.Proofs.Ytmegbllhidkmoaa.Tb

/- Proved here: the row of tenancylaw09.TableCopies: for all arguments that can be read, TableCopies returns true and leaves its arguments as they were; no conditions. -/
namespace Go.Proofs.Ytmegbllhidkmoaa.Tb
open Go.RowKit Go.ChangeShapes Go.WideShapes Go.ChangeAt Go.Deep
set_option linter.unusedVariables false
namespace Copies
set_option maxRecDepth 100000 in
theorem lifted (os : Os) (started : os.Started) (H : Type) (enc : TypeId × Value → H) :
    ReturnsInHanded {} Try.checked os 6 .any (Rows.tableCopiesSpec.pre6 enc Try.prog Try.f6 Rows.tableCopiesRow.domain false) (Rows.tableCopiesSpec.post enc Try.prog Try.f6 false true false false) := by
  refine returnsInHanded_of_change (C := Try.checked) row_own started (by kernel_rfl) Try.func6
    (ChangeSpec.witness6 (enc := enc) (C := Try.checked) false ⟨#[], #[.slice none 0 0, .slice none 0 0], []⟩ 8 (by kernel_rfl) (by kernel_rfl) (by kernel_rfl) (by kernel_rfl)) ?_
  intro W base args ds gs before hval0 hW hcnd _
  have hval : ∀ (j : Nat) t v, Try.f6.params[j]? = some t → args[j]? = some v → Value.okWide Try.prog W .any base t v := hval0
  have hW' := hW
  obtain ⟨p, q, hA0, hV, rfl, hfz, hnd⟩ := hW
  have hA : DataW.TrodAll enc Try.prog W 0 (fun _ => true) true Try.f6.params.toList args.toList ds p := hA0
  rw [Try.params6] at hA hval
  obtain ⟨v0, v1, d0, d1, p0, p1, rfl, rfl, rfl, h0, h1⟩ := trodAll_two hA
  obtain ⟨rfl, rfl⟩ := trodVars_none hV
  have h0k := h0
  have h1k := h1
  obtain ⟨fuel, hf⟩ := h0
  obtain ⟨fuel1, hf1⟩ := h1
  clear hA0 hval0
  simp only [List.append_nil] at hW'
  have hlt0 : ∀ x ∈ p0, x.block < W.heap.size := fun x hx => by simpa using hW'.lt x (List.mem_append_left _ hx)
  have hlt1 : ∀ x ∈ p1, x.block < W.heap.size := fun x hx => by simpa using hW'.lt x (List.mem_append_right _ hx)
  obtain ⟨a0, len, cap, rfl⟩ := okWide_slice Try.underlying22 (hval 0 22 v0 rfl rfl)
  obtain ⟨v, L, hv, hL⟩ := read_lists hf
  obtain rfl : Value.slice a0 len cap = v := by simpa [Value.cells] using hv
  obtain ⟨a1, len1, cap1, rfl⟩ := okWide_slice Try.underlying22 (hval 1 22 v1 rfl rfl)
  obtain ⟨u, M, hu, hM⟩ := read_lists hf1
  obtain rfl : Value.slice a1 len1 cap1 = u := by simpa [Value.cells] using hu
  refine (copies_run W _ _ L M hL hM).mono fun e W' ⟨he, hq⟩ => ?_
  subst he
  have hb := quiet_below hq
  exact ⟨_, rfl, ⟨_, _, _, [], _, [], hW', trodAll_mk1 (shut_bool Try.underlying4 _), trodAll_mk2 (Below.trod row_laid (by kernel_rfl) (of_decide_eq_true (by kernel_rfl)) h0k hb hlt0) (Below.trod row_laid (by kernel_rfl) (of_decide_eq_true (by kernel_rfl)) h1k hb hlt1), rfl, hb.frame _, fun h => by cases h⟩⟩
theorem said : Rows.TableCopiesSaid :=
  OpenClaim.holds_of_wide 6 Try.f6 rfl rfl rfl rfl rfl rfl rfl ⟨rfl, rfl, rfl, rfl, rfl⟩ rfl rfl rfl rfl rfl (by kernel_rfl) Try.func6 (by kernel_rfl)
    (of_decide_eq_true (by kernel_rfl)) (by unfold Func.isWrapper; first | (rw [if_pos (by decide +kernel)]; kernel_rfl) | (rw [if_neg (by decide +kernel)]; exact ⟨rfl, rfl⟩))
    (fun os started H enc _ => lifted os started H enc)
end Copies
end Go.Proofs.Ytmegbllhidkmoaa.Tb
