/- The law TableWhole. -/
import Derived.Test.YtmegbllhidkmoaaPc6
import Derived.OwnWalk
import Derived.Laws.AppendOwnNone
namespace Go.Proofs.Ytmegbllhidkmoaa.Tb
open Go.RowKit Go.Maps Go.Shelf Go.Proofs.YtmegbllhidkmoaaW.PrintWords Go.Proofs.YtmegbllhidkmoaaW.PrintLast Go.Proofs.YtmegbllhidkmoaaW.PrintMore
set_option linter.unusedVariables false
theorem info_change : (Try.prog.info? 54).map (fun i => (i.zero, i.size, i.bytes)) = some (some (.agg #[.bool false, .int .i64 0, .int .u64 0, .int .u64 0, .int .i64 0, .int .i64 0, .string ⟨#[]⟩, .int .u32 0, .int .i64 0]), 9, 80) := by kernel_rfl
theorem zero_change (w : World) : (Instr.build 54 #[]).run Try.prog w = .ok (.agg #[.bool false, .int .i64 0, .int .u64 0, .int .u64 0, .int .i64 0, .int .i64 0, .string ⟨#[]⟩, .int .u32 0, .int .i64 0]) w := by kernel_rfl
def zeroC : Change := ⟨false, zeroLease⟩
theorem zeroC_bad : changeB zeroC = false := by decide +kernel
theorem zeroC_ok : zeroC.lease.ok := ⟨⟨rfl, rfl, rfl, rfl⟩, rfl, by decide, rfl, rfl⟩
theorem applyE_append : ∀ (xs ys : List Change) (L : List Lease), applyE L (xs ++ ys) = if applyE L xs = 0 then applyE (applyL L xs) ys else applyE L xs
  | [], ys, L => by simp [applyE, applyL]
  | x :: xs, ys, L => by
    by_cases h : changeE L x = 0
    · have e1 : applyE L (x :: xs) = applyE (changeL L x) xs := if_pos h
      have e2 : applyE L (x :: xs ++ ys) = applyE (changeL L x) (xs ++ ys) := if_pos h
      rw [e1, e2]
      exact applyE_append xs ys _
    · have e1 : applyE L (x :: xs) = changeE L x := if_neg h
      have e2 : applyE L (x :: xs ++ ys) = changeE L x := if_neg h
      rw [e1, e2, if_neg h]
theorem applyL_append : ∀ (xs ys : List Change) (L : List Lease), applyL L (xs ++ ys) = applyL (applyL L xs) ys
  | [], ys, L => rfl
  | x :: xs, ys, L => applyL_append xs ys _
theorem applyEnds_append : ∀ (xs ys : List Change) (E : List End), applyEnds E (xs ++ ys) = applyEnds (applyEnds E xs) ys
  | [], ys, E => rfl
  | x :: xs, ys, E => applyEnds_append xs ys _
theorem bad_ends (L : List Lease) (cs : List Change) : applyE L (cs ++ [zeroC]) ≠ 0 := by
  rw [applyE_append]
  by_cases h : applyE L cs = 0
  · rw [if_pos h]
    have : changeE (applyL L cs) zeroC = 80 := by unfold changeE; rw [zeroC_bad]; rfl
    simp only [applyE, this]
    decide
  · rw [if_neg h]; exact h
theorem ccells (c : Change) : c.cells.length = 9 := rfl
theorem cone (c : Change) : ∀ v ∈ c.cells, v.oneCell' = true := by intro v hv; simp [Change.cells] at hv; rcases hv with rfl | rfl | rfl | rfl | rfl | rfl | rfl | rfl | rfl <;> rfl
theorem change_src {w : World} {ad : Addr} {n c : Nat} {cs : List Change} (h : ChangesAt w (.slice (some ad) n c) cs) : n = cs.length ∧ ∀ j u, (cs.flatMap Change.cells)[j]? = some u → w.cell? (ad.add j) = some u := by
  obtain ⟨p, cap, hv, h1, h2, h3, h4⟩ := h
  simp only [Value.slice.injEq] at hv
  obtain ⟨rfl, rfl, rfl⟩ := hv
  refine ⟨rfl, fun j u hj => ?_⟩
  have hl : j < cs.length * 9 := by
    have := (List.getElem?_eq_some_iff.1 hj).1
    rwa [flat_length _ 9 ccells] at this
  have hi : j / 9 < cs.length := by omega
  have hr : j % 9 < 9 := Nat.mod_lt _ (by omega)
  obtain ⟨g, off, he, hc⟩ := h3 (j / 9) hi
  cases he
  have h5 := flat_idx Change.cells 9 ccells (j % 9) hr cs (j / 9) hi
  rw [Nat.div_add_mod'] at h5
  rw [Addr.add_lit, ← hj, h5, ← hc _ hr]
  congr 2
  omega
theorem changes_own {w : World} {B : Nat} {v : Value} {cs : List Change} (h : w.ownsRow B 54 9 v cs.length (cs.flatMap Change.cells)) (hok : ∀ c ∈ cs, c.lease.ok) : ChangesAt w v cs := by
  obtain ⟨h1, h2⟩ := h
  rcases h2 with ⟨rfl, h0⟩ | ⟨g, cap, cur, rfl, hg, hb, hn, hm, hc, ht⟩
  · have h0' : cs.length = 0 := h0
    exact ⟨none, 0, by rw [h0'], by omega, Nat.zero_le _, fun j hj => by omega, hok⟩
  · refine ⟨_, cap, rfl, hn, hm, fun j hj => ⟨g, 0, rfl, fun i hi => ?_⟩, hok⟩
    have h3 := flat_idx Change.cells 9 ccells i hi cs j hj
    rw [← ht, List.getElem?_take_of_lt (by omega)] at h3
    rw [Nat.zero_add, (cell_of hb _).1, ← h3, Array.getElem?_toList]
theorem changes_one {w : World} {g off cap : Nat} {cs : List Change} (h : ChangesAt w (.slice (some ⟨g, off, none⟩) cs.length cap) cs) (i : Nat) (hi : i < cs.length) (c : Nat) (h1 : 1 ≤ c) (hc : c ≤ maxLen) : ChangesAt w (.slice (some ⟨g, off + i * 9, none⟩) 1 c) [cs[i]] := by
  obtain ⟨p, cap', hv, _, _, h3, h4⟩ := h
  simp only [Value.slice.injEq] at hv
  obtain ⟨rfl, _, rfl⟩ := hv
  refine ⟨_, c, rfl, h1, hc, fun j hj => ⟨g, off + i * 9, rfl, fun k hk => ?_⟩, fun x hx => ?_⟩
  · obtain rfl : j = 0 := by simpa using hj
    obtain ⟨g', off', he, hh⟩ := h3 i hi
    simp only [Option.some.injEq, Addr.mk.injEq] at he
    obtain ⟨rfl, rfl, _⟩ := he
    simp only [Nat.zero_mul, Nat.add_zero, List.getElem_cons_zero]
    exact hh k hk
  · obtain rfl : x = cs[i] := by simpa using hx
    exact h4 _ (List.getElem_mem hi)
theorem own_base {w : World} {B e size n : Nat} {v : Value} {xs : List Value} (h : w.ownsRow B e size v n xs) {k : Nat} (hk : v.ownBlock = some k) : B ≤ k ∧ k < w.heap.size := by
  obtain ⟨h1, h2⟩ := h
  rcases h2 with ⟨rfl, h0⟩ | ⟨g, cap, cur, rfl, hg, hh, r⟩
  · cases hk
  · obtain rfl : g = k := Option.some.inj hk
    exact ⟨hg, (Array.getElem?_eq_some_iff.1 hh).1⟩
/-- The head of a table lies in no other table. -/
theorem foot_ne {w : World} {bt b1 b2 bc c1 c2 N M : Nat} {v u : Value} {L L' : List Lease} {E E' : List End} (h : TabAt w bt b1 b2 v N L E) (h' : TabAt w bc c1 c2 u M L' E') (hne : bt ≠ bc) : ∀ k, Foot bt b1 b2 v k → k ≠ bc := by
  rintro k (rfl | rfl | rfl | hk) rfl
  · exact hne rfl
  · exact map_not_cells h.m1 h'.blk
  · exact map_not_cells h.m2 h'.blk
  · obtain ⟨_, h2⟩ := h.ends
    rcases h2 with ⟨rfl, _⟩ | ⟨g, cap, cur, rfl, _, hh, _⟩
    · cases hk
    · obtain rfl : g = k := Option.some.inj hk
      have := hh.symm.trans h'.blk
      simp only [Option.some.injEq, Obj.cells.injEq] at this
      exact absurd this.2.1 (by decide)
theorem Held.other {w w' wr w2 : World} {bt bc N M : Nat} {S S' : List Lease × List End} (h : Held w wr bt N S) (h' : Held w' wr bc M S') (hne : bt ≠ bc) (hk : Kept (fun k => k = bc) wr w2) (hw : w.heap.size ≤ bc) : Held w w2 bt N S := by
  obtain ⟨b1, b2, v, hT, hf⟩ := h.tab
  obtain ⟨c1, c2, u, hT', _⟩ := h'.tab
  have := foot_ne hT hT' hne
  exact ⟨⟨b1, b2, v, hT.kept hk this, hf⟩, h.sorted, h.uniq, h.quiet.andThen hk (fun i hi e => by omega)⟩
theorem Held.down {w1 w2 wr : World} {bt N : Nat} {S : List Lease × List End} (h : Held w2 wr bt N S) (hq : Quiet w1 w2) : Held w1 wr bt N S := by
  obtain ⟨b1, b2, v, hT, hf⟩ := h.tab
  exact ⟨⟨b1, b2, v, hT, fun k hk => Nat.le_trans hq.size (hf k hk)⟩, h.sorted, h.uniq, hq.andThen h.quiet (fun _ _ h => h)⟩
theorem apply_take {cs : List Change} {i : Nat} (hi : i < cs.length) (L : List Lease) (E : List End) (h0 : applyE L (cs.take i) = 0) : (changeE (applyL L (cs.take i)) (cs[i]'hi) = 0 → applyE L (cs.take (i + 1)) = 0) ∧ (changeE (applyL L (cs.take i)) (cs[i]'hi) ≠ 0 → applyE L cs = changeE (applyL L (cs.take i)) (cs[i]'hi)) ∧ applyL L (cs.take (i + 1)) = changeL (applyL L (cs.take i)) (cs[i]'hi) ∧ applyEnds E (cs.take (i + 1)) = changeEnds (applyEnds E (cs.take i)) (cs[i]'hi) := by
  rw [List.take_succ_eq_append_getElem hi, applyE_append, applyL_append, applyEnds_append, if_pos h0]
  refine ⟨fun h => ?_, fun h => ?_, rfl, rfl⟩
  · exact if_pos h
  · have e1 : applyE L cs = applyE L (cs.take i ++ cs.drop i) := by rw [List.take_append_drop]
    rw [e1, applyE_append, if_pos h0, List.drop_eq_getElem_cons hi]
    exact if_neg h
theorem apply_one (L : List Lease) (c : Change) : applyE L [c] = changeE L c := by
  by_cases h : changeE L c = 0
  · have : applyE L [c] = 0 := if_pos h
    rw [this, h]
  · exact if_neg h
set_option maxHeartbeats 6400000 in
set_option maxRecDepth 100000 in
theorem whole_run (w : World) (v u : Value) (css : List (List Change)) (cs : List Change) (h : ListsAt w v css) (h' : ChangesAt w u cs) (hnil : u = .slice none 0 0 ∨ ∃ ad n c, u = .slice (some ad) n c) : Calls Try.prog 5 #[v, u] w fun e w' => e = .returned (.bool true) ∧ Quiet w w' := by
  have hshape := h
  obtain ⟨pv, cv, hv, _⟩ := hshape
  subst hv
  have hshape := h'
  obtain ⟨pu, cu, hu, hn, hm, _, hoks⟩ := hshape
  have hcs : (cs.length : Int) ≤ 9223372036854775807 := by unfold maxLen at hm; omega
  have HNIL := Aside1.mk hnil
  subst hu
  have HLs := Aside1.mk h
  have HCs := Aside1.mk h'
  have HOK := Aside1.mk hoks
  clear h h' hnil hoks
  by_cases h300 : cs.length ≤ 300
  · have hz3 : ¬ ((cs.length : Int) > 300) := by omega
    obtain ⟨i0, hi0, hz0, hz1, hz2⟩ := info_parts info_change
    have HI0 := Aside1.mk hi0
    have HIZ := Aside1.mk hz0
    have HIS := Aside1.mk hz1
    have HIB := Aside1.mk hz2
    clear hi0 hz0 hz1 hz2
    go_enter Try.func5, Try.ntmps5
    go_upto_region 9 with (first
      | (go_at_call 7; refine (awake_run _).mono ?_; rintro e w1 ⟨rfl, hq1⟩)
      | (go_at_call 8; refine (filled_run _ _ css (HLs.out.quiet hq1)).mono ?_; rintro e w2 ⟨bt, rfl, hH2⟩)
      | (go_at_call 21; refine (held_copy _ _ bt 90000 _ hH2 (by decide)).mono ?_; rintro e w3 ⟨bc, rfl, hC3, hq3⟩)
      | (go_at_call 9; refine (held_all _ _ bt 90000 _ (hH2.keep hq3) (by decide)).mono ?_; rintro e w4 ⟨vb, rfl, hl4, hq4⟩)
      | (at_make; refine wpList_make_own _ rfl _ _ 51 rfl w4.heap.size 54 i0 _ 9 Try.underlying51 HI0.out HIZ.out HIS.out .i64 .i64 _ (cs.length + 1) rfl rfl (by omega) (by rw [HIB.out]; omega) (by unfold maxLen; omega) (Nat.le_refl _) ?_; intro w5 hown5 hg5))
    have HOW5 := Aside1.mk hown5
    have Q45 : Aside1 (Quiet w4 w5) := ⟨Kept.grown hg5 (fun k hk => by cases hk)⟩
    have QW5 : Aside1 (Quiet w w5) := ⟨(((hq1.andThen hH2.quiet (fun _ _ h => h)).andThen hq3 (fun _ _ h => h)).andThen hq4 (fun _ _ h => h)).andThen Q45.out (fun _ _ h => h)⟩
    clear hown5 hg5
    go_cut [8] (fun v8 wx => Aside1 (wx.ownsRow w4.heap.size 54 9 v8 cs.length (cs.flatMap Change.cells)) ∧ Aside1 (Quiet w4 wx))
    case first =>
      rcases HNIL.out with hu | ⟨ad, n, cu', hu⟩
      · obtain ⟨rfl, hl, rfl⟩ : pu = none ∧ cs.length = 0 ∧ cu = 0 := by simpa using hu
        have HCS0 := Aside1.mk (List.length_eq_zero_iff.1 hl)
        have HL0 := Aside1.mk hl
        clear hu hl
        go_wp2_with (at_builtin; refine wpList_append_own_none rfl _ _ 51 rfl w4.heap.size 54 i0 9 Try.underlying51 HI0.out _ 0 [] rfl HOW5.out (by show Value.slice none cs.length 0 = _; rw [HL0.out]) ?_)
        go_meet
        refine ⟨⟨?_⟩, Q45⟩
        have h5 := HOW5.out
        rw [show cs.flatMap Change.cells = [] by rw [HCS0.out]; rfl]
        generalize cs.length + 1 = m at h5 ⊢
        rw [HL0.out]
        exact h5
      · obtain ⟨rfl, rfl, rfl⟩ : pu = some ad ∧ n = cs.length ∧ cu' = cu := by
          simp only [Value.slice.injEq] at hu
          exact ⟨hu.1, hu.2.1.symm, hu.2.2.symm⟩
        have hsrc := (change_src (HCs.out.quiet QW5.out)).2
        have HSRC := Aside1.mk hsrc
        clear hu hsrc
        go_wp2_with (at_builtin; refine wpList_append_own _ rfl _ _ 51 rfl w4.heap.size 54 i0 _ 9 80 Try.underlying51 HI0.out HIZ.out HIS.out HIB.out rfl (by omega) _ 0 [] rfl HOW5.out ad cs.length _ (cs.flatMap Change.cells) rfl (flat_length _ 9 ccells cs) HSRC.out (fun u hu => by obtain ⟨c, _, hc⟩ := List.mem_flatMap.1 hu; exact cone c u hc) (by unfold maxLen; omega) (by omega) (by have := Q45.out.size; omega) ?_; intro v' w6 hown hgrow _)
        go_meet
        have hown' : w6.ownsRow w4.heap.size 54 9 v' cs.length (cs.flatMap Change.cells) := by simpa using hown
        exact ⟨⟨hown'⟩, ⟨Q45.out.andThen (Kept.grown (S := fun i => w4.heap.size ≤ i) hgrow (fun k hk => (own_base HOW5.out hk).1)) (fun i hi h => by omega)⟩⟩
    case rest =>
      obtain ⟨HOW6, Q46⟩ := hcut
      have hz := zero_change
      obtain ⟨S, hS⟩ : ∃ S, filledS css = S := ⟨_, rfl⟩
      rw [hS] at hH2 hC3 hl4
      have z12 := hH2.quiet.size
      have z23 := hq3.size
      have z34 := hq4.size
      have z4c := Q46.out.size
      have hbc := hC3.base
      have hbt := hH2.base
      obtain ⟨pb, cb, hvb⟩ := leases_shape hl4
      subst hvb
      have Q01 := Aside1.mk hq1
      have Q24 : Aside1 (Quiet w2 w4) := ⟨hq3.andThen hq4 (fun _ _ h => h)⟩
      have HT2 := Aside1.mk hH2
      have HL4 := Aside1.mk hl4
      have HC4 : Aside1 (Held w2 w4 bc 90000 S) := ⟨hC3.keep hq4⟩
      clear hH2 hC3 hl4 hq1 hq3 hq4 hS HLs HOW5 Q45 QW5
      go_upto_region 11 with (at_builtin; refine wpList_append_own _ rfl _ _ 51 rfl w4.heap.size 54 i0 _ 9 80 Try.underlying51 HI0.out HIZ.out HIS.out HIB.out rfl (by omega) _ cs.length (cs.flatMap Change.cells) rfl (HOW6.out.alloc _) ⟨wc.heap.size, 0, none⟩ 1 1 zeroC.cells rfl rfl (World.news_of_block (fr := (0, 0)) (heap_alloc_new wc _)) (cone zeroC) (by unfold maxLen; omega) (by omega) (by rw [World.size_alloc]; omega) ?_; intro v7 w7 hown7 hgrow7 _)
      have HCB : Aside1 (ChangesAt w7 v7 (cs ++ [zeroC])) := ⟨changes_own (by rw [List.length_append, List.flatMap_append, List.flatMap_singleton]; exact hown7) (fun c hc => by
        rcases List.mem_append.1 hc with h | h
        · exact HOK.out c h
        · obtain rfl : c = zeroC := by simpa using h
          exact zeroC_ok)⟩
      have Q47 : Aside1 (Quiet w4 w7) := ⟨(Q46.out.alloc _).andThen (Kept.grown (S := fun i => w4.heap.size ≤ i) hgrow7 (fun k hk => (own_base HOW6.out hk).1)) (fun i hi h => by omega)⟩
      have z47 := Q47.out.size
      clear hown7 hgrow7 HOW6 Q46
      have hbad := held_apply w1 w7 bt 90000 S ((HT2.out.keep Q24.out).keep Q47.out) v7 _ HCB.out (by rw [List.length_append, List.length_singleton]; omega)
      have hne := bad_ends S.1 cs
      have hSS : applyS S (cs ++ [zeroC]) = S := by unfold applyS; rw [if_neg hne]
      rw [hSS] at hbad
      generalize applyE S.1 (cs ++ [zeroC]) = eb at hbad hne
      have hnb : (eb == 0) = false := by simpa using hne
      have HSS := Aside1.mk hSS
      clear hSS hne
      go_wp2_with fail
      refine hbad.mono ?_
      rintro e w8 ⟨rfl, hH8, hk8⟩
      have HT8 : Aside1 (Held w1 w8 bt 90301 S) := ⟨hH8.mono (by rw [List.length_append, List.length_singleton]; omega)⟩
      have HK8 := Aside1.mk hk8
      have z78 := hk8.size
      clear hH8 hk8 hbad HCB
      go_wp2_with fail
      refine (held_all _ _ bt 90301 _ HT8.out (by decide)).mono ?_
      rintro e w9 ⟨vt, rfl, hl9, hq9⟩
      have HLb8 : Aside1 (LeasesIs w8 w3.heap.size (.slice pb S.1.length cb) S.1) := ⟨(HL4.out.old Q47.out (fun _ _ h => h)).old HK8.out (fun k hk e => by have := (HL4.out.lt hk).1; omega)⟩
      have hsame := same_true w9 w8.heap.size w3.heap.size vt (.slice pb S.1.length cb) S.1 hl9 (HLb8.out.old hq9 (fun _ _ h => h))
      have HQ9 := Aside1.mk hq9
      clear hl9 hq9 HL4
      go_wp2_with fail
      refine hsame.mono ?_
      rintro e wX ⟨rfl, hqX⟩
      have Q8X := Aside1.mk (HQ9.out.andThen hqX (fun _ _ h => h))
      have z8X := Q8X.out.size
      clear hqX hsame HQ9
      go_wp2_with fail
      have QwX : Aside1 (Quiet w wX) := ⟨((((Q01.out.andThen HT2.out.quiet (fun _ _ h => h)).andThen Q24.out (fun _ _ h => h)).andThen Q47.out (fun _ _ h => h)).andThen HK8.out (fun i hi e => by have := Q01.out.size; omega)).andThen Q8X.out (fun _ _ h => h)⟩
      have happ := held_apply w1 wX bt 90301 S (HT8.out.keep Q8X.out) _ cs (HCs.out.quiet QwX.out) (by omega)
      refine happ.mono ?_
      rintro e wY ⟨rfl, hHY, hkY⟩
      have HTY : Aside1 (Held w1 wY bt 90601 (applyS S cs)) := ⟨hHY.mono (by omega)⟩
      have HKY := Aside1.mk hkY
      have zXY := hkY.size
      have hbcbt : bc ≠ bt := by omega
      have HC1 : Aside1 (Held w1 w7 bc 90000 S) := ⟨(HC4.out.keep Q47.out).down HT2.out.quiet⟩
      have HC8 : Aside1 (Held w1 wX bc 90000 S) := ⟨(HC1.out.other (HT2.out.keep (Q24.out.andThen Q47.out (fun _ _ h => h))) hbcbt HK8.out (by omega)).keep Q8X.out⟩
      have HCY : Aside1 (Held w1 wY bc 90000 S) := ⟨HC8.out.other (HT8.out.keep Q8X.out) hbcbt HKY.out (by omega)⟩
      have HLbY : Aside1 (LeasesIs wY w3.heap.size (.slice pb S.1.length cb) S.1) := ⟨(HLb8.out.old Q8X.out (fun _ _ h => h)).old HKY.out (fun k hk e => by have := (HLb8.out.lt hk).1; omega)⟩
      have QwY : Aside1 (Quiet w wY) := ⟨QwX.out.andThen HKY.out (fun i hi e => by have := Q01.out.size; omega)⟩
      obtain ⟨e1, HE1⟩ : ∃ x, Aside1 (applyE S.1 cs = x) := ⟨_, ⟨rfl⟩⟩
      rw [HE1.out]
      have z01 := Q01.out.size
      clear hHY hkY happ HC4 HC1 HC8 HT8 HK8 HKY Q8X HT2 Q24 Q47 QwX HLb8
      go_wp2_with fail
      go_loopw [10, 11] (fun v10 v11 wr => ∃ (i : Nat) (f : Int), v11 = .int .i64 i ∧ v10 = .int .i64 f ∧ i ≤ cs.length ∧ Aside1 ((f = 0 ∧ applyE S.1 (cs.take i) = 0 ∧ Held w1 wr bc (90000 + i) (applyL S.1 (cs.take i), applyEnds S.2 (cs.take i))) ∨ (f ≠ 0 ∧ f = e1)) ∧ Aside1 (Held w1 wr bt 90601 (applyS S cs)) ∧ Aside1 (LeasesIs wr w3.heap.size (.slice pb S.1.length cb) S.1) ∧ Aside1 (Quiet w wr)) (fun _ v11 _ => cs.length - (RowKit.intOf v11).toNat)
      case atStart => exact ⟨0, 0, rfl, rfl, Nat.zero_le _, ⟨.inl ⟨rfl, rfl, HCY.out⟩⟩, HTY, HLbY, QwY⟩
      case round =>
        clear HTY HLbY QwY HCY
        obtain ⟨i, f, rfl, rfl, hi, HR, HT, HLb, HQ⟩ := hrel
        rcases HR.out with ⟨rfl, h0, hU⟩ | ⟨hf, hfe⟩
        · by_cases hlt : i < cs.length
          · have hiz : (i : Int) < (cs.length : Int) := by omega
            obtain ⟨p, cap, hv, hcn, hcm, hcc, _⟩ := HCs.out
            obtain ⟨g, off, hp, _⟩ := hcc i hlt
            simp only [Value.slice.injEq] at hv
            obtain ⟨rfl, _, rfl⟩ := hv
            subst hp
            have HU := Aside1.mk hU
            have H0 := Aside1.mk h0
            clear hU h0 hcc HR
            have hic : (i : Int) + 1 ≤ (cu : Int) := by omega
            have hone := changes_one (HCs.out.quiet HQ.out) i hlt (cu - i) (by omega) (by omega)
            have happ := held_apply w1 wr bc (90000 + i) _ HU.out _ _ hone (by rw [List.length_singleton]; omega)
            rw [apply_one] at happ
            have htk := apply_take hlt S.1 S.2 H0.out
            obtain ⟨c1, hc1⟩ : ∃ x, changeE (applyL S.1 (cs.take i)) cs[i] = x := ⟨_, rfl⟩
            simp only [hc1] at happ
            rw [hc1] at htk
            have HTK := Aside1.mk htk
            have HC1 := Aside1.mk hc1
            clear htk hone hc1
            go_wp2_with fail
            refine happ.mono ?_
            rintro e wZ ⟨rfl, hUZ, hkZ⟩
            have hTZ := HT.out.other HU.out (Ne.symm hbcbt) hkZ (by omega)
            have hLZ := HLb.out.old hkZ (fun k hk e => by have := (HLb.out.lt hk).1; omega)
            have hQZ := HQ.out.andThen hkZ (fun i hi e => by omega)
            have HUZ := Aside1.mk hUZ
            have HTZ := Aside1.mk hTZ
            have HLZ := Aside1.mk hLZ
            have HQZ := Aside1.mk hQZ
            clear hUZ hkZ hTZ hLZ hQZ happ
            go_wp2_with fail
            refine ⟨⟨i + 1, c1, by rw [Int.natCast_add]; rfl, rfl, hlt, ⟨?_⟩, HTZ, HLZ, HQZ⟩, by simp [RowKit.intOf]; omega⟩
            by_cases hz1 : c1 = 0
            · left
              refine ⟨hz1, HTK.out.1 hz1, ?_⟩
              have h1 := HUZ.out
              unfold applyS at h1
              rw [apply_one, HC1.out, if_pos hz1] at h1
              have h2 := HTK.out.2.2
              rw [h2.1, h2.2]
              exact h1.mono (by rw [List.length_singleton]; omega)
            · right
              exact ⟨hz1, (HTK.out.2.1 hz1).symm.trans HE1.out⟩
          · have hiz : ¬ (i : Int) < (cs.length : Int) := by omega
            have htake : cs.take i = cs := List.take_of_length_le (by omega)
            rw [htake] at h0 hU
            have he : e1 = 0 := HE1.out.symm.trans h0
            have hS : applyS S cs = (applyL S.1 cs, applyEnds S.2 cs) := by unfold applyS; rw [if_pos h0]
            have HT' := HT.out
            rw [hS] at HT'
            have HTn := Aside1.mk HT'
            have HU := Aside1.mk hU
            clear HT' hU h0 htake HR hS
            subst he
            go_wp2_with fail
            refine (held_all _ _ bt 90601 _ HTn.out (by decide)).mono ?_
            rintro e wA ⟨va, rfl, hlA, hqA⟩
            have HQA := Aside1.mk hqA
            have HLA := Aside1.mk hlA
            clear hlA hqA
            go_wp2_with fail
            refine (held_all _ _ bc (90000 + i) _ (HU.out.keep HQA.out) (by omega)).mono ?_
            rintro e wB ⟨vb2, rfl, hlB, hqB⟩
            have HQB := Aside1.mk hqB
            have hsame := same_true wB _ _ va vb2 _ (HLA.out.old hqB (fun _ _ h => h)) hlB
            clear hlB hqB
            go_wp2_with fail
            refine hsame.mono ?_
            rintro e wC ⟨rfl, hqC⟩
            have HQC := Aside1.mk (((HQ.out.andThen HQA.out (fun _ _ h => h)).andThen HQB.out (fun _ _ h => h)).andThen hqC (fun _ _ h => h))
            clear hqC hsame
            go_wp2_with fail
            go_ret
            exact ⟨rfl, HQC.out⟩
        · have hfb : (f == 0) = false := by simpa using hf
          have hS : applyS S cs = S := by unfold applyS; rw [if_neg (by rw [HE1.out, ← hfe]; exact hf)]
          have HT' := HT.out
          rw [hS] at HT'
          have HTn := Aside1.mk HT'
          have HF := Aside1.mk hf
          subst hfe
          have hfn : (f != 0) = true := by simpa using hf
          clear HT' hS HR hf
          by_cases hlt : i < cs.length
          all_goals
            first | (have hiz : (i : Int) < (cs.length : Int) := by omega) | (have hiz : ¬ (i : Int) < (cs.length : Int) := by omega)
            go_wp2_with fail
            refine (held_all _ _ bt 90601 _ HTn.out (by decide)).mono ?_
            rintro e wA ⟨va, rfl, hlA, hqA⟩
            have HQA := Aside1.mk hqA
            have hsame := same_true wA _ _ va (.slice pb S.1.length cb) S.1 hlA (HLb.out.old hqA (fun _ _ h => h))
            clear hlA hqA
            go_wp2_with fail
            refine hsame.mono ?_
            rintro e wC ⟨rfl, hqC⟩
            have HQC := Aside1.mk ((HQ.out.andThen HQA.out (fun _ _ h => h)).andThen hqC (fun _ _ h => h))
            clear hqC hsame
            go_wp2_with fail
            go_ret
            exact ⟨rfl, HQC.out⟩
  · have hz3 : (cs.length : Int) > 300 := by omega
    go_enter Try.func5, Try.ntmps5
    go_wp2_with (first
      | (go_at_call 7; refine (awake_run _).mono ?_; rintro e w1 ⟨rfl, hq1⟩))
    go_ret
    exact ⟨rfl, hq1⟩
end Go.Proofs.Ytmegbllhidkmoaa.Tb
