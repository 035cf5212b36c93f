/- A table's Apply. -/
import Derived.Test.YtmegbllhidkmoaaGreatPe2
import Derived.Test.YtmegbllhidkmoaaGreatRows
import Derived.ProofKit
import Derived.Deep.Slices
import Derived.Test.YtmegbllhidkmoaaGreatPe1
import Derived.BigQuiet
import Derived.Shelf.RegionOpenPlain
import Derived.LoopTactic
import Derived.Laws.BitsLemmas
namespace Go.Proofs.YtmegbllhidkmoaaGreat.Tb
open Go.RowKit Go.Maps Go.Shelf Go.Proofs.YtmegbllhidkmoaaGreatW.PrintWords Go.Proofs.YtmegbllhidkmoaaGreatW.PrintLast Go.Proofs.YtmegbllhidkmoaaGreatW.PrintMore
set_option linter.unusedVariables false
def Change.cells (c : Change) : List Value := [.bool c.gone, .int .i64 c.lease.key.kind, .int .u64 c.lease.key.hi, .int .u64 c.lease.key.lo, .int .i64 c.lease.key.bits, .int .i64 c.lease.state, .string c.lease.client, .int .u32 c.lease.iaid, .int .i64 c.lease.till]
/-- v is a slice of these changes, from block B on or not. -/
def ChangesAt (w : World) (v : Value) (cs : List Change) : Prop :=
  ∃ p cap, v = .slice p cs.length cap ∧ cs.length ≤ cap ∧ cap ≤ maxLen ∧ (∀ j (h : j < cs.length), ∃ g off, p = some ⟨g, off, none⟩ ∧ ∀ i, i < 9 → w.cell? ⟨g, off + j * 9 + i, none⟩ = ((cs[j]'h).cells)[i]?) ∧ ∀ c ∈ cs, c.lease.ok
theorem ChangesAt.quiet {w w' : World} {v : Value} {cs : List Change} (h : ChangesAt w v cs) (hq : Quiet w w') : ChangesAt w' v cs := by
  obtain ⟨p, cap, rfl, h1, h2, h3, h4⟩ := h
  refine ⟨p, cap, rfl, h1, h2, fun j hj => ?_, h4⟩
  obtain ⟨g, off, rfl, hc⟩ := h3 j hj
  refine ⟨g, off, rfl, fun i hi => ?_⟩
  have h9 : i < ((cs[j]'hj).cells).length := hi
  rw [List.getElem?_eq_getElem h9]
  exact hq.cell ((hc i hi).trans (List.getElem?_eq_getElem h9)) (fun h => h)
def applyE : List Lease → List Change → Int
  | _, [] => 0
  | L, c :: cs => if changeE L c = 0 then applyE (changeL L c) cs else changeE L c
def applyL : List Lease → List Change → List Lease
  | L, [] => L
  | L, c :: cs => applyL (changeL L c) cs
def applyEnds : List End → List Change → List End
  | E, [] => E
  | E, c :: cs => applyEnds (changeEnds E c) cs
theorem changeL_sorted {L : List Lease} (h : Sorted L) (c : Change) : Sorted (changeL L c) := by
  unfold changeL; split
  · exact without_sorted h _
  · exact putL_sorted h _
theorem changeL_uniq {w : World} {bt b1 b2 N : Nat} {v : Value} {L : List Lease} {E : List End} (h : TabAt w bt b1 b2 v N L E) (hu : Uniq L) {c : Change} (he : changeE L c = 0) : Uniq (changeL L c) := by
  unfold changeL
  cases hg : c.gone with
  | true => exact uniq_without hu _
  | false =>
    refine uniq_putL h hu ?_
    unfold changeE at he
    rw [hg] at he
    cases hb : changeB c with
    | false => rw [hb] at he; cases he
    | true =>
      rw [hb] at he
      simp only [if_true, Bool.false_eq_true, if_false] at he
      unfold putE at he
      cases ht : takenB L c.lease with
      | false => rfl
      | true => rw [ht] at he; cases he
theorem apply_done {w wr : World} {bt b1 b2 bt' b1' b2' N N' : Nat} {v v' : Value} {L L' : List Lease} {E E' : List End} (h : TabAt w bt b1 b2 v N L E) (h' : TabAt wr bt' b1' b2' v' N' L' E') (hf : ∀ k, Foot bt' b1' b2' v' k → w.heap.size ≤ k) (hq : Quiet w wr) :
    TabAt (((wr.setCell ⟨bt, 0, none⟩ (.map (some b1'))).setCell ⟨bt, 1, none⟩ (.map (some b2'))).setCell ⟨bt, 2, none⟩ v') bt b1' b2' v' N' L' E' ∧ Kept (fun k => k = bt) w (((wr.setCell ⟨bt, 0, none⟩ (.map (some b1'))).setCell ⟨bt, 1, none⟩ (.map (some b2'))).setCell ⟨bt, 2, none⟩ v') := by
  have lt : bt < w.heap.size := (Array.getElem?_eq_some_iff.1 h.blk).1
  have hb := (hq.block bt lt (fun h => h)).trans h.blk
  have k3 : Kept (fun k => k = bt) wr (((wr.setCell ⟨bt, 0, none⟩ (.map (some b1'))).setCell ⟨bt, 1, none⟩ (.map (some b2'))).setCell ⟨bt, 2, none⟩ v') :=
    (((Kept.refl (fun k => k = bt) wr).setCell (p := ⟨bt, 0, none⟩) (fun _ => rfl) _).setCell (p := ⟨bt, 1, none⟩) (fun _ => rfl) _).setCell (p := ⟨bt, 2, none⟩) (fun _ => rfl) _
  have n0 : b1' ≠ bt := fun e => by have := hf b1' (.inr (.inl rfl)); omega
  have n1 : b2' ≠ bt := fun e => by have := hf b2' (.inr (.inr (.inl rfl))); omega
  have n2 : ∀ k, v'.ownBlock = some k → k ≠ bt := fun k hk e => by have := hf k (.inr (.inr (.inr hk))); omega
  refine ⟨⟨?_, h'.m1.block (k3.block b1' h'.m1.lt n0), h'.m2.block (k3.block b2' h'.m2.lt n1), ends_old h'.ends k3 n2, h'.len, h'.n12, h'.v1, h'.v2, fun e => n2 bt e rfl, h'.oks⟩, (hq.mono (S' := fun k => k = bt) (fun _ h => h.elim)).andThen k3 (fun _ _ h => h)⟩
  exact heap_setCell_same _ bt 2 #[.map (some b1'), .map (some b2'), v] _ v' (heap_setCell_same _ bt 1 #[.map (some b1'), .map (some b2), v] _ _ (heap_setCell_same _ bt 0 #[.map (some b1), .map (some b2), v] _ _ hb))

set_option maxHeartbeats 3200000 in
set_option maxRecDepth 100000 in
theorem tab_apply (w : World) (bt b1 b2 N : Nat) (v : Value) (L : List Lease) (E : List End) (h : TabAt w bt b1 b2 v N L E) (hu : Uniq L) (hs : Sorted L) (vc : Value) (cs : List Change) (hc : ChangesAt w vc cs) (hN : N + cs.length < 1000000000) :
    Calls Tryz.prog 7 #[.pointer (some ⟨bt, 0, none⟩), vc] w fun e w' => e = .returned (.int .i64 (applyE L cs)) ∧ Kept (fun k => k = bt) w w' ∧
      (applyE L cs ≠ 0 → Quiet w w') ∧
      (applyE L cs = 0 → ∃ b1' b2' v', TabAt w' bt b1' b2' v' (N + cs.length) (applyL L cs) (applyEnds E cs) ∧ Sorted (applyL L cs) ∧ Uniq (applyL L cs) ∧ ∀ k, Foot bt b1' b2' v' k → k = bt ∨ w.heap.size ≤ k) := by
  have HT := Aside1.mk h
  have HC := Aside1.mk hc
  have hcopy := fun W (hq : Quiet w W) => tab_copy W bt b1 b2 N v L E (HT.out.kept hq (fun _ _ h => h)) (by omega)
  obtain ⟨p, cap, rfl, hn, hm, hcell, hoks⟩ := hc
  have HX := Aside1.mk hcell
  have HO := Aside1.mk hoks
  clear h hcell hoks
  go_enter Tryz.func7, Tryz.ntmps7
  go_wp2_with (go_at_call 13; refine (hcopy _ ?_).mono ?_; ((repeat (first | exact Kept.refl _ _ | assumption | apply Kept.drew | apply Kept.drewN | apply Kept.alloc | refine Kept.setCell ?_ (fun hlt => absurd hlt (Nat.lt_irrefl _)) _ | refine Kept.andThen ?_ (by assumption) (fun _ _ h => h)))); rintro e w1 ⟨bn, m1, m2, vn, rfl, hT1, hf1, hq1⟩)
  have HT1 := Aside1.mk hT1
  have HF1 := Aside1.mk hf1
  have HQ1 := Aside1.mk hq1
  clear hT1 hf1 hq1 hcopy
  go_loopw [15] (fun v15 wr => ∃ (j : Nat) (vj : Value) (Lj : List Lease) (Ej : List End), v15 = .int .i64 j ∧ j ≤ cs.length ∧ Aside1 (TabAt wr bn m1 m2 vj (N + j) Lj Ej) ∧ Aside1 (Sorted Lj) ∧ Aside1 (Uniq Lj) ∧ Aside1 (applyE Lj (cs.drop j) = applyE L cs ∧ applyL Lj (cs.drop j) = applyL L cs ∧ applyEnds Ej (cs.drop j) = applyEnds E cs) ∧ Aside1 (∀ k, Foot bn m1 m2 vj k → w.heap.size ≤ k) ∧ Aside1 (Quiet w wr)) (fun v15 _ => cs.length - (RowKit.intOf v15).toNat)
  case atStart => exact ⟨0, vn, L, E, rfl, Nat.zero_le _, HT1, ⟨hs⟩, ⟨hu⟩, ⟨rfl, rfl, rfl⟩, HF1, HQ1⟩
  case round =>
    obtain ⟨j, vj, Lj, Ej, rfl, hj, HTj, HSj, HUj, HAj, HFj, HQj⟩ := hrel
    by_cases hlt : j < cs.length
    · have hi : (j : Int) < (cs.length : Int) := by omega
      obtain ⟨g, off, hp, hcc⟩ := HX.out j hlt
      subst hp
      obtain ⟨⟨gn, ⟨⟨lk, lh, ll, lb⟩, s, cl, ia, ti⟩⟩, HCj⟩ : ∃ x, Aside1 (cs[j] = x) := ⟨_, ⟨rfl⟩⟩
      have hok := HO.out _ (List.getElem_mem hlt)
      rw [HCj.out] at hcc hok
      have hch := fun W (hq : Quiet wr W) => tab_change W bn m1 m2 (N + j) vj Lj Ej (HTj.out.kept hq (fun _ _ h => h)) HUj.out (by omega) HSj.out ⟨gn, ⟨⟨lk, lh, ll, lb⟩, s, cl, ia, ti⟩⟩ hok
      simp only [Change.val] at hch
      have a0 := HQj.out.cell (hcc 0 (by omega)) (fun h => h)
      have a1 := HQj.out.cell (hcc 1 (by omega)) (fun h => h)
      have a2 := HQj.out.cell (hcc 2 (by omega)) (fun h => h)
      have a3 := HQj.out.cell (hcc 3 (by omega)) (fun h => h)
      have a4 := HQj.out.cell (hcc 4 (by omega)) (fun h => h)
      have a5 := HQj.out.cell (hcc 5 (by omega)) (fun h => h)
      have a6 := HQj.out.cell (hcc 6 (by omega)) (fun h => h)
      have a7 := HQj.out.cell (hcc 7 (by omega)) (fun h => h)
      have a8 := HQj.out.cell (hcc 8 (by omega)) (fun h => h)
      simp only [Nat.add_zero] at a0
      obtain ⟨er, her⟩ : ∃ x, changeE Lj ⟨gn, ⟨⟨lk, lh, ll, lb⟩, s, cl, ia, ti⟩⟩ = x := ⟨_, rfl⟩
      rw [her] at hch
      have HER := Aside1.mk her
      clear her hcc hok HX
      go_wp2_with (go_at_call 21; refine (hch _ ?_).mono ?_; ((repeat (first | exact Kept.refl _ _ | assumption | apply Kept.drew | apply Kept.drewN | apply Kept.alloc | refine Kept.setCell ?_ (fun hlt => absurd hlt (Nat.lt_irrefl _)) _ | refine Kept.andThen ?_ (by assumption) (fun _ _ h => h)))); rintro e w2 ⟨rfl, hk2, hT2⟩)
      all_goals
        have hqX : Quiet w w2 := (HQj.out.alloc _).andThen hk2 (fun i hi h => absurd (HFj.out i h) (by omega))
        have hstep := HAj.out
        rw [List.drop_eq_getElem_cons hlt, HCj.out] at hstep
        simp only [applyE, applyL, applyEnds] at hstep
        rw [HER.out] at hstep
      · rename_i hne
        have hne' : ¬ er = 0 := by simpa using hne
        rw [if_neg hne'] at hstep
        rw [← hstep.1]
        go_ret
        exact ⟨rfl, hqX.mono (fun _ h => h.elim), fun _ => hqX, fun h => absurd h hne'⟩
      · rename_i hne
        have hne' : er = 0 := by simpa using hne
        rw [if_pos hne'] at hstep
        obtain ⟨v', r1, r2⟩ := hT2 hne'
        refine ⟨⟨j + 1, v', _, _, by rw [Int.natCast_add]; rfl, hlt, ⟨r1⟩, ⟨changeL_sorted HSj.out _⟩, ⟨changeL_uniq HTj.out HUj.out (by rw [HER.out]; exact hne')⟩, ⟨hstep⟩, ⟨fun k hk => ?_⟩, ⟨hqX⟩⟩, by simp [RowKit.intOf]; omega⟩
        have hsz : w.heap.size ≤ wr.heap.size := HQj.out.size
        rcases hk with rfl | rfl | rfl | hk
        · exact HFj.out _ (.inl rfl)
        · exact HFj.out _ (.inr (.inl rfl))
        · exact HFj.out _ (.inr (.inr (.inl rfl)))
        · rcases r2 k hk with h | h
          · exact HFj.out _ (.inr (.inr (.inr h)))
          · rw [World.size_alloc] at h; omega
    · have hje : ¬ (j : Int) < (cs.length : Int) := by omega
      obtain rfl : j = cs.length := by omega
      have hdone := HAj.out
      rw [List.drop_length] at hdone
      simp only [applyE, applyL, applyEnds] at hdone
      obtain ⟨d0, d1, d2⟩ := hdone
      subst d1 d2
      obtain ⟨pE, cE, hvE⟩ := ends_shape HTj.out.ends
      subst hvE
      obtain ⟨z0, z1, z2⟩ := cell_tab HTj.out
      have hbw := (HQj.out.block bt (Array.getElem?_eq_some_iff.1 HT.out.blk).1 (fun h => h)).trans HT.out.blk
      have y0 := (cell_of hbw 0).1
      have y1 := (cell_of hbw 1).1
      have y2 := (cell_of hbw 2).1
      have f0 := (cell_of hbw 0).2
      have f1 := (cell_of hbw 1).2
      have f2 := (cell_of hbw 2).2
      simp only [List.getElem?_toArray, List.getElem?_cons_zero, List.getElem?_cons_succ] at y0 y1 y2
      clear HX hbw
      go_wp2_with fail
      go_ret
      rw [← d0]
      obtain ⟨r1, r2⟩ := apply_done HT.out HTj.out HFj.out HQj.out
      exact ⟨rfl, r2, m1, m2, _, r1, HSj.out, HUj.out, fun k hk => hk.imp id (fun h => HFj.out k (.inr h))⟩
end Go.Proofs.YtmegbllhidkmoaaGreat.Tb

/- A table's Of, Next. -/
namespace Go.Proofs.YtmegbllhidkmoaaGreat.Tb
open Go.RowKit Go.Maps Go.Shelf Go.Proofs.YtmegbllhidkmoaaGreatW.PrintWords Go.Proofs.YtmegbllhidkmoaaGreatW.PrintLast Go.Proofs.YtmegbllhidkmoaaGreatW.PrintMore
set_option linter.unusedVariables false
theorem zeroKey_ok : zeroKey.ok := ⟨rfl, rfl, rfl, rfl⟩
theorem findO_some {L : List Lease} {o : Owner} {k : Key} (h : findO L o = some k) : ∃ l ∈ L, l.bound = true ∧ l.owner = o ∧ l.key = k := by
  obtain ⟨x, hx, he⟩ := List.mem_map.1 (look_some h)
  simp only [Prod.mk.injEq] at he
  obtain ⟨h1, h2⟩ := List.mem_filter.1 hx
  exact ⟨x, h1, h2, he.1, he.2⟩
theorem foundKey_ok {w : World} {bt b1 b2 N : Nat} {v : Value} {L : List Lease} {E : List End} (h : TabAt w bt b1 b2 v N L E) (o : Owner) : ((findO L o).getD zeroKey).ok := by
  cases hf : findO L o with
  | none => exact zeroKey_ok
  | some k =>
    obtain ⟨l, hl, _, _, rfl⟩ := findO_some hf
    exact (h.oks l hl).1
theorem set_eight {w : World} {b : Nat} {a0 a1 a2 a3 a4 a5 a6 a7 x0 x1 x2 x3 x4 x5 x6 x7 : Value} {t : TypeId} (h : w.heap[b]? = some (.cells #[a0, a1, a2, a3, a4, a5, a6, a7] t (0, 0))) :
    ((((((((w.setCell ⟨b, 0, none⟩ x0).setCell ⟨b, 1, none⟩ x1).setCell ⟨b, 2, none⟩ x2).setCell ⟨b, 3, none⟩ x3).setCell ⟨b, 4, none⟩ x4).setCell ⟨b, 5, none⟩ x5).setCell ⟨b, 6, none⟩ x6).setCell ⟨b, 7, none⟩ x7).heap[b]? = some (.cells #[x0, x1, x2, x3, x4, x5, x6, x7] t (0, 0)) :=
  (heap_setCell_same _ b 7 #[x0, x1, x2, x3, x4, x5, x6, a7] t x7 (heap_setCell_same _ b 6 #[x0, x1, x2, x3, x4, x5, a6, a7] t x6 (heap_setCell_same _ b 5 #[x0, x1, x2, x3, x4, a5, a6, a7] t x5 (heap_setCell_same _ b 4 #[x0, x1, x2, x3, a4, a5, a6, a7] t x4 (heap_setCell_same _ b 3 #[x0, x1, x2, a3, a4, a5, a6, a7] t x3 (heap_setCell_same _ b 2 #[x0, x1, a2, a3, a4, a5, a6, a7] t x2 (heap_setCell_same _ b 1 #[x0, a1, a2, a3, a4, a5, a6, a7] t x1 (heap_setCell_same _ b 0 #[a0, a1, a2, a3, a4, a5, a6, a7] t x0 h))))))))
set_option maxHeartbeats 1600000 in
set_option maxRecDepth 100000 in
theorem tab_of (w : World) (bt b1 b2 N : Nat) (v : Value) (L : List Lease) (E : List End) (h : TabAt w bt b1 b2 v N L E) (o : Owner) (ho : o.ok) :
    Calls Tryz.prog 16 #[.pointer (some ⟨bt, 0, none⟩), .int .i64 o.kind, .string o.client, .int .u32 o.iaid] w fun e w' => e = .returned (.tuple #[((findL L ((findO L o).getD zeroKey)).getD zeroLease).val, .bool (findO L o).isSome]) ∧ Quiet w w' := by
  have HT := Aside1.mk h
  have SkO : ∀ w2, Quiet w w2 → (Instr.lookup 56 (.map (some b2)) o.val true).run Tryz.prog w2 = .ok (.tuple #[((findO L o).getD zeroKey).val, .bool (findO L o).isSome]) w2 :=
    fun w2 hq => look_owner (h.kept hq (fun _ _ h => h)).m2 o ho
  have SkL : ∀ w2, Quiet w w2 → (Instr.lookup 55 (.map (some b1)) ((findO L o).getD zeroKey).val false).run Tryz.prog w2 = .ok ((findL L ((findO L o).getD zeroKey)).getD zeroLease).val w2 :=
    fun w2 hq => look_lease1 (h.kept hq (fun _ _ h => h)).m1 _ (foundKey_ok h o)
  have c1 := fun w2 (hq : Quiet w w2) => (cell_tab (h.kept hq (fun _ _ h => h))).2.1
  have c0 := fun w2 (hq : Quiet w w2) => (cell_tab (h.kept hq (fun _ _ h => h))).1
  clear h ho
  obtain ⟨f, hf⟩ : ∃ f, (findO L o).isSome = f := ⟨_, rfl⟩
  obtain ⟨r, hr⟩ : ∃ r, (findO L o).getD zeroKey = r := ⟨_, rfl⟩
  rw [hr] at SkL SkO ⊢
  obtain ⟨x, hx⟩ : ∃ x, (findL L r).getD zeroLease = x := ⟨_, rfl⟩
  rw [hf] at SkO ⊢
  rw [hx] at SkL ⊢
  clear hf hr hx
  obtain ⟨rk, rh, rl, rb⟩ := r
  obtain ⟨⟨xk, xh, xl, xb⟩, xs, xc, xi, xt⟩ := x
  obtain ⟨ok, oc, oi⟩ := o
  simp only [Lease.val, Key.val, Owner.val] at SkO SkL ⊢
  obtain ⟨wz, hwz⟩ : ∃ wz, wz = w.alloc (.cells #[.int .i64 0, .int .u64 0, .int .u64 0, .int .i64 0, .int .i64 0, .string ⟨#[]⟩, .int .u32 0, .int .i64 0] 30) := ⟨_, rfl⟩
  have qz : Quiet w wz := by rw [hwz]; exact (Kept.refl _ w).alloc _
  have hz : wz.heap[w.heap.size]? = some (.cells #[.int .i64 0, .int .u64 0, .int .u64 0, .int .i64 0, .int .i64 0, .string ⟨#[]⟩, .int .u32 0, .int .i64 0] 30 (0, 0)) := by rw [hwz]; exact heap_alloc_new _ _
  have lz : w.heap.size < wz.heap.size := by rw [hwz, World.size_alloc]; exact Nat.lt_succ_self _
  have s1 := SkO wz qz
  have d1 := c1 wz qz
  have Q4 : Quiet w (wz.alloc (.cells #[.int .i64 rk, .int .u64 rh, .int .u64 rl, .int .i64 rb] 71)).drew := (qz.alloc _).drew
  have s2 := SkL _ Q4
  have d0 : (wz.alloc (.cells #[.int .i64 rk, .int .u64 rh, .int .u64 rl, .int .i64 rb] 71)).cell? ⟨bt, 0, none⟩ = some (.map (some b1)) := c0 _ (qz.alloc _)
  have hz4 := (Below.heap_alloc wz (.cells #[.int .i64 rk, .int .u64 rh, .int .u64 rl, .int .i64 rb] 71) w.heap.size lz).trans hz
  subst hwz
  go_enter Tryz.func16, Tryz.ntmps16
  go_wp2_with fail
  have hk4 := heap_alloc_new (w.alloc (.cells #[.int .i64 0, .int .u64 0, .int .u64 0, .int .i64 0, .int .i64 0, .string ⟨#[]⟩, .int .u32 0, .int .i64 0] 30)) (.cells #[.int .i64 rk, .int .u64 rh, .int .u64 rl, .int .i64 rb] 71)
  rw [World.size_alloc] at hk4
  have Q5 : Quiet w ((w.alloc (.cells #[.int .i64 0, .int .u64 0, .int .u64 0, .int .i64 0, .int .i64 0, .string ⟨#[]⟩, .int .u32 0, .int .i64 0] 30)).alloc (.cells #[.int .i64 rk, .int .u64 rh, .int .u64 rl, .int .i64 rb] 71)) := qz.alloc _
  clear s1 d1 qz hz lz Q4 c0 c1 SkO SkL HT
  generalize (w.alloc (.cells #[.int .i64 0, .int .u64 0, .int .u64 0, .int .i64 0, .int .i64 0, .string ⟨#[]⟩, .int .u32 0, .int .i64 0] 30)).alloc (.cells #[.int .i64 rk, .int .u64 rh, .int .u64 rl, .int .i64 rb] 71) = W4 at *
  have k0 := (cell_of hk4 0).1
  have k1 := (cell_of hk4 1).1
  have k2 := (cell_of hk4 2).1
  have k3 := (cell_of hk4 3).1
  have z0 := (cell_of hz4 0).1
  have g0 := (cell_of hz4 0).2
  have z1 := (cell_of hz4 1).1
  have g1 := (cell_of hz4 1).2
  have z2 := (cell_of hz4 2).1
  have g2 := (cell_of hz4 2).2
  have z3 := (cell_of hz4 3).1
  have g3 := (cell_of hz4 3).2
  have z4 := (cell_of hz4 4).1
  have g4 := (cell_of hz4 4).2
  have z5 := (cell_of hz4 5).1
  have g5 := (cell_of hz4 5).2
  have z6 := (cell_of hz4 6).1
  have g6 := (cell_of hz4 6).2
  have z7 := (cell_of hz4 7).1
  have g7 := (cell_of hz4 7).2
  simp only [List.getElem?_toArray, List.getElem?_cons_zero, List.getElem?_cons_succ] at k0 k1 k2 k3 z0 z1 z2 z3 z4 z5 z6 z7
  have HZ := Aside1.mk hz4
  have HQ5 := Aside1.mk Q5
  clear hk4 hz4 Q5
  go_region
  all_goals go_wp2_with fail
  have h9 : ((((((((W4.setCell ⟨w.heap.size, 0, none⟩ (.int .i64 xk)).setCell ⟨w.heap.size, 1, none⟩ (.int .u64 xh)).setCell ⟨w.heap.size, 2, none⟩ (.int .u64 xl)).setCell ⟨w.heap.size, 3, none⟩ (.int .i64 xb)).setCell ⟨w.heap.size, 4, none⟩ (.int .i64 xs)).setCell ⟨w.heap.size, 5, none⟩ (.string xc)).setCell ⟨w.heap.size, 6, none⟩ (.int .u32 xi)).setCell ⟨w.heap.size, 7, none⟩ (.int .i64 xt)).heap[w.heap.size]? = some (.cells #[.int .i64 xk, .int .u64 xh, .int .u64 xl, .int .i64 xb, .int .i64 xs, .string xc, .int .u32 xi, .int .i64 xt] 30 (0, 0)) := set_eight HZ.out
  have q9 : Quiet w ((((((((W4.setCell ⟨w.heap.size, 0, none⟩ (.int .i64 xk)).setCell ⟨w.heap.size, 1, none⟩ (.int .u64 xh)).setCell ⟨w.heap.size, 2, none⟩ (.int .u64 xl)).setCell ⟨w.heap.size, 3, none⟩ (.int .i64 xb)).setCell ⟨w.heap.size, 4, none⟩ (.int .i64 xs)).setCell ⟨w.heap.size, 5, none⟩ (.string xc)).setCell ⟨w.heap.size, 6, none⟩ (.int .u32 xi)).setCell ⟨w.heap.size, 7, none⟩ (.int .i64 xt)) := ((((((((HQ5.out.setCell (p := ⟨w.heap.size, 0, none⟩) (fun h => absurd h (Nat.lt_irrefl _)) (.int .i64 xk)).setCell (p := ⟨w.heap.size, 1, none⟩) (fun h => absurd h (Nat.lt_irrefl _)) (.int .u64 xh)).setCell (p := ⟨w.heap.size, 2, none⟩) (fun h => absurd h (Nat.lt_irrefl _)) (.int .u64 xl)).setCell (p := ⟨w.heap.size, 3, none⟩) (fun h => absurd h (Nat.lt_irrefl _)) (.int .i64 xb)).setCell (p := ⟨w.heap.size, 4, none⟩) (fun h => absurd h (Nat.lt_irrefl _)) (.int .i64 xs)).setCell (p := ⟨w.heap.size, 5, none⟩) (fun h => absurd h (Nat.lt_irrefl _)) (.string xc)).setCell (p := ⟨w.heap.size, 6, none⟩) (fun h => absurd h (Nat.lt_irrefl _)) (.int .u32 xi)).setCell (p := ⟨w.heap.size, 7, none⟩) (fun h => absurd h (Nat.lt_irrefl _)) (.int .i64 xt))
  generalize ((((((((W4.setCell ⟨w.heap.size, 0, none⟩ (.int .i64 xk)).setCell ⟨w.heap.size, 1, none⟩ (.int .u64 xh)).setCell ⟨w.heap.size, 2, none⟩ (.int .u64 xl)).setCell ⟨w.heap.size, 3, none⟩ (.int .i64 xb)).setCell ⟨w.heap.size, 4, none⟩ (.int .i64 xs)).setCell ⟨w.heap.size, 5, none⟩ (.string xc)).setCell ⟨w.heap.size, 6, none⟩ (.int .u32 xi)).setCell ⟨w.heap.size, 7, none⟩ (.int .i64 xt)) = W9 at *
  have e0 := (cell_of h9 0).1
  have e1 := (cell_of h9 1).1
  have e2 := (cell_of h9 2).1
  have e3 := (cell_of h9 3).1
  have e4 := (cell_of h9 4).1
  have e5 := (cell_of h9 5).1
  have e6 := (cell_of h9 6).1
  have e7 := (cell_of h9 7).1
  simp only [List.getElem?_toArray, List.getElem?_cons_zero, List.getElem?_cons_succ] at e0 e1 e2 e3 e4 e5 e6 e7
  refine bodyPost_ret (v := .tuple #[.agg #[.int .i64 xk, .int .u64 xh, .int .u64 xl, .int .i64 xb, .int .i64 xs, .string xc, .int .u32 xi, .int .i64 xt], .bool f]) (by simp [results, Tryz.results16, go_sem, e0, e1, e2, e3, e4, e5, e6, e7]) rfl ⟨rfl, q9.drew⟩
end Go.Proofs.YtmegbllhidkmoaaGreat.Tb

/- A table's Next. -/
namespace Go.Proofs.YtmegbllhidkmoaaGreat.Tb
open Go.RowKit Go.Maps Go.Shelf Go.Proofs.YtmegbllhidkmoaaGreatW.PrintWords Go.Proofs.YtmegbllhidkmoaaGreatW.PrintLast Go.Proofs.YtmegbllhidkmoaaGreatW.PrintMore
set_option linter.unusedVariables false
def nextHit (L : List Lease) (e : End) : Bool := (findL L e.key).isSome && decide (((findL L e.key).getD zeroLease).till = e.till)
def nextR : Nat → List Lease → List End → Int × Bool
  | 0, _, _ => (0, false)
  | n + 1, L, E => match E with
    | [] => (0, false)
    | e :: E' => if nextHit L e then (e.till, true) else nextR n L (popped (e :: E'))
def nextE : Nat → List Lease → List End → List End
  | 0, _, E => E
  | n + 1, L, E => match E with
    | [] => []
    | e :: E' => if nextHit L e then e :: E' else nextE n L (popped (e :: E'))
theorem siftDown_len (E : List End) (i n : Nat) : (siftDown E i n).length = E.length := by
  induction h : n - i using Nat.strongRecOn generalizing E i with
  | _ m ih =>
    rw [siftDown]
    split
    · rfl
    · split
      · rw [ih _ ?_ _ _ rfl, swapE_len]
        have : child E i n > i := by unfold child; split <;> omega
        omega
      · rfl
theorem popped_len (E : List End) : (popped E).length = E.length - 1 := by
  unfold popped
  rw [List.length_dropLast, siftDown_len, swapE_len]
theorem swapE_mem {E : List End} {i j : Nat} (hi : i < E.length) (hj : j < E.length) {e : End} (h : e ∈ swapE E i j) : e ∈ E := by
  rw [swapE_eq hi hj] at h
  rcases List.mem_or_eq_of_mem_set h with h | h
  · rcases List.mem_or_eq_of_mem_set h with h | h
    · exact h
    · rw [h]; exact List.getElem_mem hj
  · rw [h]; exact List.getElem_mem hi
theorem siftDown_mem (E : List End) (i n : Nat) (hn : n ≤ E.length) {e : End} (h : e ∈ siftDown E i n) : e ∈ E := by
  induction hm : n - i using Nat.strongRecOn generalizing E i with
  | _ m ih =>
    rw [siftDown] at h
    split at h
    · exact h
    · split at h
      · have hc : child E i n > i := by unfold child; split <;> omega
        have hc2 : child E i n < n := by unfold child; split <;> omega
        exact swapE_mem (by omega) (by omega) (ih _ (by omega) (swapE E i (child E i n)) (child E i n) (by rw [swapE_len]; exact hn) h rfl)
      · exact h
theorem popped_mem {E : List End} {e : End} (h : e ∈ popped E) : e ∈ E := by
  unfold popped at h
  have h1 := List.dropLast_subset _ h
  cases E with
  | nil =>
    have := siftDown_mem _ _ _ (by simp [swapE_len]) h1
    simp [swapE] at this
  | cons a E =>
    have := siftDown_mem _ _ _ (by rw [swapE_len]; simp) h1
    exact swapE_mem (by simp) (by simp) this
theorem tab_popped {w w' : World} {bt b1 b2 N : Nat} {v v' : Value} {L : List Lease} {E : List End} (h : TabAt w bt b1 b2 v N L E) (hH : HeapAt w' bt #[.map (some b1), .map (some b2), v] 60 v' (popped E)) (ho : v'.ownBlock = v.ownBlock) (hk : Kept (fun k => k = bt ∨ v.ownBlock = some k) w w') : TabAt w' bt b1 b2 v' N L (popped E) := by
  refine ⟨?_, h.m1.block (hk.block b1 h.m1.lt ?_), h.m2.block (hk.block b2 h.m2.lt ?_), hH.ends, ?_, h.n12, by rw [ho]; exact h.v1, by rw [ho]; exact h.v2, hH.ne, h.oks⟩
  · have := hH.blk
    simpa using this
  · rintro (e | e)
    · exact h.ne1 e.symm
    · exact h.v1 e
  · rintro (e | e)
    · exact h.ne2 e.symm
    · exact h.v2 e
  · rw [popped_len]; have := h.len; omega
theorem tab_heap {w : World} {bt b1 b2 N : Nat} {v : Value} {L : List Lease} {E : List End} (h : TabAt w bt b1 b2 v N L E) : HeapAt w bt #[.map (some b1), .map (some b2), v] 60 v E := ⟨h.blk, by simp, h.ends, h.vt⟩
set_option maxHeartbeats 3200000 in
set_option maxRecDepth 100000 in
theorem tab_next (w : World) (bt b1 b2 N : Nat) (v : Value) (L : List Lease) (E : List End) (h : TabAt w bt b1 b2 v N L E) (hN : N ≤ 1000000000) (hE : ∀ e ∈ E, e.key.ok) :
    Calls Tryz.prog 15 #[.pointer (some ⟨bt, 0, none⟩)] w fun e w' => e = .returned (.tuple #[.int .i64 (nextR E.length L E).1, .bool (nextR E.length L E).2]) ∧ ∃ v', TabAt w' bt b1 b2 v' N L (nextE E.length L E) ∧ v'.ownBlock = v.ownBlock ∧ Kept (fun k => k = bt ∨ v.ownBlock = some k) w w' := by
  have HT := Aside1.mk h
  have HE := Aside1.mk hE
  clear h hE
  go_enter Tryz.func15, Tryz.ntmps15
  go_wp2_with fail
  go_loopw [4] (fun _ wr => ∃ (vj : Value) (Ej : List End), Aside1 (TabAt wr bt b1 b2 vj N L Ej) ∧ Aside1 (∀ e ∈ Ej, e.key.ok) ∧ Aside1 (nextR Ej.length L Ej = nextR E.length L E ∧ nextE Ej.length L Ej = nextE E.length L E) ∧ Aside1 (vj.ownBlock = v.ownBlock) ∧ Aside1 (Kept (fun k => k = bt ∨ v.ownBlock = some k) w wr)) (fun _ wr => match wr.cell? ⟨bt, 2, none⟩ with | some (.slice _ n _) => n | _ => 0)
  case atStart => exact ⟨v, E, HT, HE, ⟨rfl, rfl⟩, ⟨rfl⟩, ⟨Kept.refl _ _⟩⟩
  case round =>
    obtain ⟨vj, Ej, HTj, HEj, HNj, HOj, HKj⟩ := hrel
    obtain ⟨pE, cE, hvE⟩ := ends_shape HTj.out.ends
    subst hvE
    have c2 := (cell_tab HTj.out).2.2
    have c0 := (cell_tab HTj.out).1
    cases Ej with
    | nil =>
      simp only [List.length_nil] at c2
      go_wp2_with fail
      have hn := HNj.out
      simp only [List.length_nil, nextR, nextE] at hn
      refine bodyPost_ret (v := .tuple #[.int .i64 0, .bool false]) (by simp [results, Tryz.results15, go_sem]) rfl ⟨by rw [← hn.1], _, by rw [← hn.2]; exact HTj.out, HOj.out, HKj.out⟩
    | cons top Ej =>
      obtain ⟨g, cap, hv, hn, hm, hcell⟩ := ends_cell HTj.out.ends 0 (by simp)
      simp only [Value.slice.injEq] at hv
      obtain ⟨rfl, _, rfl⟩ := hv
      obtain ⟨et, ⟨ek, eh, el, eb⟩⟩ := top
      have a0 := (hcell 0 (by omega)).1
      have a1 := (hcell 1 (by omega)).1
      have a2 := (hcell 2 (by omega)).1
      have a3 := (hcell 3 (by omega)).1
      have a4 := (hcell 4 (by omega)).1
      simp only [End.cells, List.getElem_cons_zero, List.getElem?_cons_zero, List.getElem?_cons_succ, Nat.zero_mul, Nat.zero_add] at a0 a1 a2 a3 a4
      have hkok : Key.ok ⟨ek, eh, el, eb⟩ := HEj.out _ List.mem_cons_self
      obtain ⟨r, hr⟩ : ∃ r, (findL L ⟨ek, eh, el, eb⟩).getD zeroLease = r := ⟨_, rfl⟩
      obtain ⟨fok, hf⟩ : ∃ f, (findL L ⟨ek, eh, el, eb⟩).isSome = f := ⟨_, rfl⟩
      have SkL : ∀ w2, Quiet wr w2 → (Instr.lookup 55 (.map (some b1)) (Key.val ⟨ek, eh, el, eb⟩) true).run Tryz.prog w2 = .ok (.tuple #[r.val, .bool fok]) w2 :=
        fun w2 hq => by rw [← hr, ← hf]; exact look_lease (HTj.out.kept hq (fun _ _ h => h)).m1 _ hkok
      obtain ⟨⟨fk, fh, fl, fb⟩, fs, fc, fi, ft⟩ := r
      have HHit := Aside1.mk (show nextHit L ⟨et, ⟨ek, eh, el, eb⟩⟩ = (fok && decide (ft = et)) by unfold nextHit; simp only; rw [hr, hf])
      simp only [Lease.val, Key.val] at SkL
      clear hr hf hcell hkok
      simp only [List.length_cons] at c2 hn
      have hpos : (0 : Int) < ((Ej.length + 1 : Nat) : Int) := by omega
      have hcap : (0 : Int) < (cE : Int) := by omega
      go_upto_region 3 with fail
      have HQ2 := Aside1.mk ((Kept.refl (fun _ => False) wr).alloc (.cells #[.int .i64 et, .int .i64 ek, .int .u64 eh, .int .u64 el, .int .i64 eb] 77))
      have HB2 := Aside1.mk (heap_alloc_new wr (.cells #[.int .i64 et, .int .i64 ek, .int .u64 eh, .int .u64 el, .int .i64 eb] 77))
      obtain ⟨tx, htx⟩ : ∃ tx, wr.heap.size = tx := ⟨_, rfl⟩
      rw [htx] at HB2 ⊢
      clear a0 a1 a2 a3 a4
      generalize wr.alloc (.cells #[.int .i64 et, .int .i64 ek, .int .u64 eh, .int .u64 el, .int .i64 eb] 77) = W2 at *
      have HS : Aside1 (∀ w', Quiet W2 w' → (w'.cell? ⟨bt, 0, none⟩ = some (.map (some b1)) ∧ w'.cell? ⟨tx, 1, none⟩ = some (.int .i64 ek) ∧ w'.cell? ⟨tx, 2, none⟩ = some (.int .u64 eh) ∧ w'.cell? ⟨tx, 3, none⟩ = some (.int .u64 el) ∧ w'.cell? ⟨tx, 4, none⟩ = some (.int .i64 eb) ∧ (Instr.lookup 55 (.map (some b1)) (.agg #[.int .i64 ek, .int .u64 eh, .int .u64 el, .int .i64 eb]) true).run Tryz.prog w' = .ok (.tuple #[.agg #[.int .i64 fk, .int .u64 fh, .int .u64 fl, .int .i64 fb, .int .i64 fs, .string fc, .int .u32 fi, .int .i64 ft], .bool fok]) w')) := ⟨fun w' hq => ⟨(HQ2.out.andThen hq (fun _ _ h => h)).cell c0 (fun h => h), hq.cell (cell_of HB2.out 1).1 (fun h => h), hq.cell (cell_of HB2.out 2).1 (fun h => h), hq.cell (cell_of HB2.out 3).1 (fun h => h), hq.cell (cell_of HB2.out 4).1 (fun h => h), SkL w' (HQ2.out.andThen hq (fun _ _ h => h))⟩⟩
      clear SkL
      go_cut [5, 6] (fun v5 v6 wz => ∃ lx : Nat, v5 = .pointer (some ⟨lx, 0, none⟩) ∧ v6 = .bool fok ∧ Aside1 (wz.heap[lx]? = some (.cells #[.int .i64 fk, .int .u64 fh, .int .u64 fl, .int .i64 fb, .int .i64 fs, .string fc, .int .u32 fi, .int .i64 ft] 30 (0, 0))) ∧ Aside1 (Quiet W2 wz))
      case first =>
        go_region_held3 (fun w' => w'.cell? ⟨bt, 0, none⟩ = some (.map (some b1)) ∧ w'.cell? ⟨tx, 1, none⟩ = some (.int .i64 ek) ∧ w'.cell? ⟨tx, 2, none⟩ = some (.int .u64 eh) ∧ w'.cell? ⟨tx, 3, none⟩ = some (.int .u64 el) ∧ w'.cell? ⟨tx, 4, none⟩ = some (.int .i64 eb) ∧ (Instr.lookup 55 (.map (some b1)) (.agg #[.int .i64 ek, .int .u64 eh, .int .u64 el, .int .i64 eb]) true).run Tryz.prog w' = .ok (.tuple #[.agg #[.int .i64 fk, .int .u64 fh, .int .u64 fl, .int .i64 fb, .int .i64 fs, .string fc, .int .u32 fi, .int .i64 ft], .bool fok]) w') ((refine HS.out _ ?_; (repeat (first | exact Kept.refl _ _ | assumption | apply Kept.drew | apply Kept.drewN | apply Kept.alloc | refine Kept.setCell ?_ (fun hlt => absurd hlt (Nat.lt_irrefl _)) _ | refine Kept.andThen ?_ (by assumption) (fun _ _ h => h))))) (fail)
        all_goals go_wp2_with fail
        all_goals go_meet
        all_goals exact ⟨_, rfl, rfl, ⟨heap_alloc_new _ _⟩, ⟨by (repeat (first | exact Kept.refl _ _ | assumption | apply Kept.drew | apply Kept.drewN | apply Kept.alloc | refine Kept.setCell ?_ (fun hlt => absurd hlt (Nat.lt_irrefl _)) _ | refine Kept.andThen ?_ (by assumption) (fun _ _ h => h)))⟩⟩
      case rest =>
        obtain ⟨lx, rfl, rfl, HBl, HQz⟩ := hcut
        have HQw := Aside1.mk (HQ2.out.andThen HQz.out (fun _ _ h => h))
        have HTw := Aside1.mk (HTj.out.kept HQw.out (fun _ _ h => h))
        have hbt := (HQz.out.block tx (Array.getElem?_eq_some_iff.1 HB2.out).1 (fun h => h)).trans HB2.out
        have e0 := (cell_of hbt 0).1
        have l7 := (cell_of HBl.out 7).1
        simp only [List.getElem?_toArray, List.getElem?_cons_zero, List.getElem?_cons_succ] at e0 l7
        have HKw := Aside1.mk (HKj.out.andThen HQw.out (fun _ _ h => h.elim))
        clear hbt HS HQ2 HB2 HQz HBl c0
        have hout := HNj.out
        simp only [List.length_cons, nextR, nextE] at hout
        rw [HHit.out] at hout
        by_cases hit : (fok && decide (ft = et)) = true
        · rw [if_pos hit, if_pos hit] at hout
          have HOUT := Aside1.mk hout
          clear hout
          simp only [Bool.and_eq_true, decide_eq_true_eq] at hit
          obtain ⟨h1, h2⟩ := hit
          subst h1 h2
          go_wp2_with fail
          refine bodyPost_ret (v := .tuple #[.int .i64 ft, .bool true]) (by simp [results, Tryz.results15, go_sem]) rfl ⟨by rw [← HOUT.out.1], _, by rw [← HOUT.out.2]; exact HTw.out, HOj.out, HKw.out⟩
        · rw [if_neg hit, if_neg hit] at hout
          have HOUT := Aside1.mk hout
          have hpl : (popped (⟨et, ⟨ek, eh, el, eb⟩⟩ :: Ej)).length = Ej.length := by rw [popped_len]; simp
          have hpop := heap_pop wc bt #[.map (some b1), .map (some b2), .slice (some ⟨g, 0, none⟩) (Ej.length + 1) cE] 60 (.slice (some ⟨g, 0, none⟩) (Ej.length + 1) cE) (⟨et, ⟨ek, eh, el, eb⟩⟩ :: Ej) (tab_heap HTw.out) (by simp) (Nat.le_trans HTw.out.len hN)
          have HPL := Aside1.mk hpl
          have hcond : fok = false ∨ ¬ ft = et := by
            cases fok
            · exact .inl rfl
            · exact .inr (fun e => hit (by simp [e]))
          have hc2 : wr.cell? ⟨bt, 2, none⟩ = some (.slice (some ⟨g, 0, none⟩) (Ej.length + 1) cE) := c2
          have HC2 := Aside1.mk hc2
          clear hout hpl hit c2 hc2
          rcases hcond with rfl | hne
          · go_wp2_with (go_at_call 36; refine hpop.mono ?_; rintro e w3 ⟨⟨x, rfl⟩, v3, hH3, ho3, hk3⟩)
            all_goals
              have hT3 := tab_popped HTw.out hH3 ho3 hk3
              have c3 := (cell_tab hT3).2.2
              obtain ⟨p3, d3, hv3⟩ := ends_shape hT3.ends
              subst hv3
              refine ⟨⟨_, _, ⟨hT3⟩, ⟨fun e he => HEj.out e (popped_mem he)⟩, ⟨by rw [HPL.out]; exact HOUT.out⟩, ⟨ho3.trans HOj.out⟩, ⟨HKw.out.andThen hk3 (fun _ _ h => h.imp id (fun h => HOj.out.symm.trans h))⟩⟩, ?_⟩
              rw [c3, HC2.out]
              simp only [HPL.out]
              omega
          · go_wp2_with (go_at_call 36; refine hpop.mono ?_; rintro e w3 ⟨⟨x, rfl⟩, v3, hH3, ho3, hk3⟩)
            all_goals
              have hT3 := tab_popped HTw.out hH3 ho3 hk3
              have c3 := (cell_tab hT3).2.2
              obtain ⟨p3, d3, hv3⟩ := ends_shape hT3.ends
              subst hv3
              refine ⟨⟨_, _, ⟨hT3⟩, ⟨fun e he => HEj.out e (popped_mem he)⟩, ⟨by rw [HPL.out]; exact HOUT.out⟩, ⟨ho3.trans HOj.out⟩, ⟨HKw.out.andThen hk3 (fun _ _ h => h.imp id (fun h => HOj.out.symm.trans h))⟩⟩, ?_⟩
              rw [c3, HC2.out]
              simp only [HPL.out]
              omega
end Go.Proofs.YtmegbllhidkmoaaGreat.Tb

/- Due, where few leases have ended. -/
namespace Go.Proofs.YtmegbllhidkmoaaGreat.Tb
open Go.RowKit Go.Maps Go.Shelf Go.Sort
set_option linter.unusedVariables false
def cmpT (a b : Lease) : Int := cmpI a.till b.till
set_option maxRecDepth 100000 in
theorem due_compare (w : World) (a b : Lease) : Calls Tryz.prog 39 #[a.val, b.val] w fun e w' => e = .returned (.int .i64 (cmpT a b)) ∧ Grows w w' := by
  obtain ⟨⟨k, h, l, n⟩, s, c, i, t⟩ := a
  obtain ⟨⟨k', h', l', n'⟩, s', c', i', t'⟩ := b
  simp only [Lease.val]
  go_enter Tryz.func39, Tryz.ntmps39
  go_wp2_with (go_at_call 40; refine (compare_i _ _ _).mono ?_; rintro e w' ⟨rfl, rfl⟩)
  go_ret
  exact ⟨rfl, ((Grows.refl w).alloc _).alloc _⟩
set_option maxRecDepth 100000 in
theorem due_fn (w : World) (l : Lease) (x : Nat) (q : Int) (ha : w.cell? ⟨x, 0, none⟩ = some (.int .i64 q)) : Calls Tryz.prog 37 #[l.val, .pointer (some ⟨x, 0, none⟩)] w fun e w' => e = .returned (.bool (decide (l.till ≤ q))) ∧ Quiet w w' := by
  obtain ⟨⟨k, h, lo, b⟩, s, c, i, t⟩ := l
  have hx := World.block_lt_of_cell? w _ ha
  have hne : ¬ x = w.heap.size := by simp at hx; omega
  simp only [Lease.val]
  go_enter Tryz.func37, Tryz.ntmps37
  go_wp2_with fail
  all_goals
    go_ret
    exact ⟨by simp [*], (Kept.refl _ w).alloc _⟩
theorem cmpT_swo : SWO (ltOf cmpT) := by
  refine ⟨fun x => ?_, fun x y z => ?_, fun x y z => ?_⟩
  · simp only [ltOf, cmpT, decide_eq_false_iff_not, cmpI_neg]; omega
  · simp only [ltOf, cmpT, decide_eq_true_eq, cmpI_neg]; omega
  · simp only [ltOf, cmpT, decide_eq_false_iff_not, cmpI_neg]; omega
set_option maxHeartbeats 800000 in
set_option maxRecDepth 100000 in
theorem stable_small (w : World) (B : Nat) (v : Value) (R : List Lease) (h : LeasesIs w B v R) (h0 : 0 < R.length) (hlen : R.length < 20) :
    Calls Tryz.prog 38 #[v, .func (.func 39) #[] #[]] w fun e w' => e = .returned (.tuple #[]) ∧ LeasesIs w' B v (Sort.insertionSort (ltOf cmpT) R.toArray 0 R.length).toList ∧ Kept (fun i => v.ownBlock = some i) w w' := by
  have h' := h
  obtain ⟨h1, h2⟩ := h'
  rcases h2 with ⟨hv, h0'⟩ | ⟨g, cap, cur, rfl, hg, hh, hn, hm, hc, ht⟩
  · omega
  · have lg : g < w.heap.size := (Array.getElem?_eq_some_iff.1 hh).1
    have hH : HoldsK Lease.cells 8 w g 0 R.toArray := by
      intro j hj
      rw [size_flatK, List.size_toArray] at hj
      rw [Nat.zero_add]
      have h3 := flat_at Lease.cells 8 (by omega) lcells R j hj
      rw [← ht, List.getElem?_take_of_lt hj, Array.getElem?_toList] at h3
      constructor
      · simp [World.cell?, hh, h3]
      · simp [World.frozen?, hh]
    have hcmp : CmpLays Tryz.prog 39 #[] Lease.cells 8 cmpT g 0 R.toArray.size w := by
      intro m os dk hdk x y
      refine (due_compare _ x y).mono ?_
      rintro e w' ⟨rfl, q, os', hw⟩
      exact ⟨rfl, q, os', hw⟩
    have hL : SlLaysF0.n20 Tryz.prog Tryz.sortLease_ren := { Tryz.sortLease with }
    have hsort : Calls Tryz.prog 71 #[.slice (some ⟨g, 0, none⟩) R.length cap, .int .i64 0, .int .i64 (R.length : Int), .func (.func 39) #[] #[]] w fun e w' => e = .returned (.tuple #[]) ∧ ∃ n os, w' = sortWorldK Lease.cells 8 w g 0 n (Sort.insertionSort (ltOf cmpT) R.toArray 0 R.length) os := AnyQ.insertionSortCmpFunc hL 8 Tryz.isAgg30 Tryz.sizeOf30 Lease.cells lcells lone cmpT 39 #[] g 0 cap 0 R.length R.toArray w (enters_of Tryz.func39 (by kernel_rfl) rfl) hcmp hH lg (Nat.zero_le _) (by simp) (by simp; omega)
    have hsz : (Sort.insertionSort (ltOf cmpT) R.toArray 0 R.length).size = R.length := by
      have := (insertionSort_holds cmpT_swo R.toArray 0 R.length (Nat.zero_le _) (by simp)).1.1
      rw [this, List.size_toArray]
    have hst : Calls Tryz.prog 56 #[.slice (some ⟨g, 0, none⟩) R.length cap, .int .i64 (R.length : Int), .func (.func 39) #[] #[]] w fun e w' => e = .returned (.tuple #[]) ∧ ∃ n os, w' = sortWorldK Lease.cells 8 w g 0 n (Sort.insertionSort (ltOf cmpT) R.toArray 0 R.length) os := by
      have H := Aside1.mk hsort
      have hl20 : ¬ (20 : Int) ≤ (R.length : Int) := by omega
      have hl20' : ¬ (20 : Int) < (R.length : Int) := by omega
      clear hsort hH hcmp hL hsz h h1 ht hh
      go_enter Tryz.func56, Tryz.ntmps56
      go_wp2_with fail
      refine wp_loop_rounds 1 ?_
      rw [rounds_succ]
      go_wp2_with (go_at_call 71; refine H.out.mono ?_; rintro e w' ⟨rfl, n, os, rfl⟩)
      refine wp_loop_rounds 1 ?_
      rw [rounds_succ]
      go_wp2_with fail
      go_end0
      exact ⟨rfl, n, os, rfl⟩
    have H := Aside1.mk hst
    have HB := Aside1.mk h
    clear hst hsort hH hcmp hL h h1 ht hh
    go_enter Tryz.func38, Tryz.ntmps38
    go_wp2_with (go_at_call 56; refine H.out.mono ?_; rintro e w' ⟨rfl, n, os, rfl⟩)
    go_end0
    obtain ⟨r1, r2⟩ := sort_done (n := n) (os := os) HB.out h0 hsz
    exact ⟨rfl, r1, r2.mono (fun k hk => by rw [hk]; rfl)⟩
set_option maxHeartbeats 800000 in
set_option maxRecDepth 100000 in
theorem tab_due_small (w : World) (bt b1 b2 N : Nat) (v : Value) (L : List Lease) (E : List End) (h : TabAt w bt b1 b2 v N L E) (hN : N ≤ 1000000000) (hs : Sorted L) (q : Int) (R : List Lease) (hR : L.filter (fun l => decide (l.till ≤ q)) = R) (h0 : 0 < R.length) (h20 : R.length < 20) :
    Calls Tryz.prog 18 #[.pointer (some ⟨bt, 0, none⟩), .int .i64 q] w fun e w' => ∃ v', e = .returned v' ∧ LeasesIs w' w.heap.size v' (Sort.insertionSort (ltOf cmpT) R.toArray 0 R.length).toList ∧ Quiet w w' := by
  have hp := fun W (hT : TabAt W bt b1 b2 v N L E) (hc : W.cell? ⟨w.heap.size, 0, none⟩ = some (.int .i64 q)) => picked_sorted W bt b1 b2 N v L E hT hN hs 37 #[.pointer (some ⟨w.heap.size, 0, none⟩)] (fun l => decide (l.till ≤ q)) (enters_of Tryz.func37 (by kernel_rfl) rfl) (fun W' l _ hq => due_fn W' l w.heap.size q (hq.cell hc (fun h => h)))
  rw [hR] at hp
  have HT := Aside1.mk (h.kept ((Kept.refl (fun _ => False) w).alloc (.cells #[.int .i64 q] 3)) (fun _ _ h => h))
  have hc : (w.alloc (.cells #[.int .i64 q] 3)).cell? ⟨w.heap.size, 0, none⟩ = some (.int .i64 q) := (cell_of (heap_alloc_new w _) 0).1
  clear h hR
  go_enter Tryz.func18, Tryz.ntmps18
  go_wp2_with (first
    | (go_at_call 31; refine (hp _ HT.out hc).mono ?_; rintro e w1 ⟨v', rfl, hl, hq⟩; have HL := Aside1.mk hl; have HQ := Aside1.mk hq; clear hl hq)
    | (go_at_call 38; refine (stable_small _ _ _ R HL.out h0 h20).mono ?_; rintro e w2 ⟨rfl, hl2, hk2⟩))
  go_ret
  refine ⟨v', rfl, hl2.mono (by rw [World.size_alloc]; exact Nat.le_succ _), (((Kept.refl (fun _ => False) w).alloc _).andThen HQ.out (fun _ _ h => h)).andThen hk2 (fun i hi h => ?_)⟩
  have := (HL.out.lt h).1
  rw [World.size_alloc] at this
  omega
end Go.Proofs.YtmegbllhidkmoaaGreat.Tb

/- The laws' small functions: same, host. -/
namespace Go.Proofs.YtmegbllhidkmoaaGreat.Tb
open Go.RowKit Go.Maps Go.Shelf Go.Proofs.YtmegbllhidkmoaaGreatW.PrintWords Go.Proofs.YtmegbllhidkmoaaGreatW.PrintLast Go.Proofs.YtmegbllhidkmoaaGreatW.PrintMore
set_option linter.unusedVariables false
attribute [local go_sem high] eqA30
theorem lease_eq (xk xh xl xb xs : Int) (xc : ByteArray) (xi xt yk yh yl yb ys : Int) (yc : ByteArray) (yi yt : Int) :
    (xk == yk && (((xh == yh && (xl == yl)) && (xb == yb)) && (xs == ys && (xc.toList == yc.toList && (xi == yi && (xt == yt)))))) = decide ((⟨⟨xk, xh, xl, xb⟩, xs, xc, xi, xt⟩ : Lease) = ⟨⟨yk, yh, yl, yb⟩, ys, yc, yi, yt⟩) := by
  rw [bytes_eq, Bool.eq_iff_iff, decide_eq_true_eq]
  simp only [Bool.and_eq_true, beq_iff_eq, decide_eq_true_eq, Lease.mk.injEq, Key.mk.injEq, and_assoc]
set_option maxHeartbeats 1600000 in
set_option maxRecDepth 100000 in
theorem same_run (w : World) (B B' : Nat) (a b : Value) (R R' : List Lease) (ha : LeasesIs w B a R) (hb : LeasesIs w B' b R') :
    Calls Tryz.prog 10 #[a, b] w fun e w' => e = .returned (.bool (decide (R = R'))) ∧ Quiet w w' := by
  obtain ⟨pa, ca, rfl⟩ := leases_shape ha
  obtain ⟨pb, cb, rfl⟩ := leases_shape hb
  have HA := Aside1.mk ha
  have HB := Aside1.mk hb
  clear ha hb
  by_cases hlen : R.length = R'.length
  · have hlen' : (R.length : Int) = (R'.length : Int) := by rw [hlen]
    go_enter Tryz.func10, Tryz.ntmps10
    go_wp2_with fail
    go_loopw [5] (fun v5 wr => ∃ j : Nat, v5 = .int .i64 j ∧ j ≤ R.length ∧ Aside1 (R.take j = R'.take j) ∧ Aside1 (Quiet w wr)) (fun v5 _ => R.length - (RowKit.intOf v5).toNat)
    case atStart => exact ⟨0, rfl, Nat.zero_le _, ⟨rfl⟩, ⟨Kept.refl _ _⟩⟩
    case round =>
      obtain ⟨j, rfl, hj, HJ, HQ⟩ := hrel
      by_cases hlt : j < R.length
      · have hlt' : j < R'.length := by omega
        have hi : (j : Int) < (R.length : Int) := by omega
        have hi' : (j : Int) < (R'.length : Int) := by omega
        obtain ⟨g, cap, hv, hn, hm, hcell⟩ := leases_cell (HA.out.old HQ.out (fun _ _ h => h)) j hlt
        obtain ⟨g', cap', hv', hn', hm', hcell'⟩ := leases_cell (HB.out.old HQ.out (fun _ _ h => h)) j hlt'
        simp only [Value.slice.injEq] at hv hv'
        obtain ⟨rfl, _, rfl⟩ := hv
        obtain ⟨rfl, _, rfl⟩ := hv'
        obtain ⟨⟨⟨xk, xh, xl, xb⟩, xs, xc, xi, xt⟩, HX⟩ : ∃ x, Aside1 (R[j] = x) := ⟨_, ⟨rfl⟩⟩
        obtain ⟨⟨⟨yk, yh, yl, yb⟩, ys, yc, yi, yt⟩, HY⟩ : ∃ x, Aside1 (R'[j] = x) := ⟨_, ⟨rfl⟩⟩
        rw [HX.out] at hcell
        rw [HY.out] at hcell'
        have a0 := (hcell 0 (by omega)).1
        have b0 := (hcell' 0 (by omega)).1
        have a1 := (hcell 1 (by omega)).1
        have b1 := (hcell' 1 (by omega)).1
        have a2 := (hcell 2 (by omega)).1
        have b2 := (hcell' 2 (by omega)).1
        have a3 := (hcell 3 (by omega)).1
        have b3 := (hcell' 3 (by omega)).1
        have a4 := (hcell 4 (by omega)).1
        have b4 := (hcell' 4 (by omega)).1
        have a5 := (hcell 5 (by omega)).1
        have b5 := (hcell' 5 (by omega)).1
        have a6 := (hcell 6 (by omega)).1
        have b6 := (hcell' 6 (by omega)).1
        have a7 := (hcell 7 (by omega)).1
        have b7 := (hcell' 7 (by omega)).1
        simp only [Lease.cells, List.getElem?_cons_zero, List.getElem?_cons_succ, Nat.add_zero] at a0 a1 a2 a3 a4 a5 a6 a7 b0 b1 b2 b3 b4 b5 b6 b7
        have hle := lease_eq xk xh xl xb xs xc xi xt yk yh yl yb ys yc yi yt
        by_cases hxy : (⟨⟨xk, xh, xl, xb⟩, xs, xc, xi, xt⟩ : Lease) = ⟨⟨yk, yh, yl, yb⟩, ys, yc, yi, yt⟩
        · rw [decide_eq_true hxy] at hle
          have HJ2 : Aside1 (R.take (j + 1) = R'.take (j + 1)) := ⟨by rw [List.take_succ_eq_append_getElem hlt, List.take_succ_eq_append_getElem hlt', HJ.out, HX.out, HY.out, hxy]⟩
          clear hxy hcell hcell'
          go_wp2_with fail
          go_region_held3 (fun w' => w'.cell? ⟨g, j * 8, none⟩ = some (.int .i64 xk) ∧ w'.cell? ⟨g, j * 8 + 1, none⟩ = some (.int .u64 xh) ∧ w'.cell? ⟨g, j * 8 + 2, none⟩ = some (.int .u64 xl) ∧ w'.cell? ⟨g, j * 8 + 3, none⟩ = some (.int .i64 xb) ∧ w'.cell? ⟨g, j * 8 + 4, none⟩ = some (.int .i64 xs) ∧ w'.cell? ⟨g, j * 8 + 5, none⟩ = some (.string xc) ∧ w'.cell? ⟨g, j * 8 + 6, none⟩ = some (.int .u32 xi) ∧ w'.cell? ⟨g, j * 8 + 7, none⟩ = some (.int .i64 xt) ∧ w'.cell? ⟨g', j * 8, none⟩ = some (.int .i64 yk) ∧ w'.cell? ⟨g', j * 8 + 1, none⟩ = some (.int .u64 yh) ∧ w'.cell? ⟨g', j * 8 + 2, none⟩ = some (.int .u64 yl) ∧ w'.cell? ⟨g', j * 8 + 3, none⟩ = some (.int .i64 yb) ∧ w'.cell? ⟨g', j * 8 + 4, none⟩ = some (.int .i64 ys) ∧ w'.cell? ⟨g', j * 8 + 5, none⟩ = some (.string yc) ∧ w'.cell? ⟨g', j * 8 + 6, none⟩ = some (.int .u32 yi) ∧ w'.cell? ⟨g', j * 8 + 7, none⟩ = some (.int .i64 yt)) (go_keep) (fail)
          all_goals go_wp2_with fail
          rw [wrap_next (by unfold maxLen at hm; omega)]
          exact ⟨⟨j + 1, rfl, hlt, HJ2, ⟨HQ.out.drew⟩⟩, by simp [RowKit.intOf]; omega⟩
        · rw [decide_eq_false hxy] at hle
          have hne : R ≠ R' := fun e => hxy (by rw [← HX.out, ← HY.out]; simp [e])
          have HN := Aside1.mk hne
          clear hxy hcell hcell' hne
          go_wp2_with fail
          go_region_held3 (fun w' => w'.cell? ⟨g, j * 8, none⟩ = some (.int .i64 xk) ∧ w'.cell? ⟨g, j * 8 + 1, none⟩ = some (.int .u64 xh) ∧ w'.cell? ⟨g, j * 8 + 2, none⟩ = some (.int .u64 xl) ∧ w'.cell? ⟨g, j * 8 + 3, none⟩ = some (.int .i64 xb) ∧ w'.cell? ⟨g, j * 8 + 4, none⟩ = some (.int .i64 xs) ∧ w'.cell? ⟨g, j * 8 + 5, none⟩ = some (.string xc) ∧ w'.cell? ⟨g, j * 8 + 6, none⟩ = some (.int .u32 xi) ∧ w'.cell? ⟨g, j * 8 + 7, none⟩ = some (.int .i64 xt) ∧ w'.cell? ⟨g', j * 8, none⟩ = some (.int .i64 yk) ∧ w'.cell? ⟨g', j * 8 + 1, none⟩ = some (.int .u64 yh) ∧ w'.cell? ⟨g', j * 8 + 2, none⟩ = some (.int .u64 yl) ∧ w'.cell? ⟨g', j * 8 + 3, none⟩ = some (.int .i64 yb) ∧ w'.cell? ⟨g', j * 8 + 4, none⟩ = some (.int .i64 ys) ∧ w'.cell? ⟨g', j * 8 + 5, none⟩ = some (.string yc) ∧ w'.cell? ⟨g', j * 8 + 6, none⟩ = some (.int .u32 yi) ∧ w'.cell? ⟨g', j * 8 + 7, none⟩ = some (.int .i64 yt)) (go_keep) (fail)
          all_goals go_wp2_with fail
          go_ret
          exact ⟨by rw [decide_eq_false HN.out]; rfl, HQ.out.drew⟩
      · have hje : ¬ (j : Int) < (R.length : Int) := by omega
        have hall : R = R' := by
          have h1 := HJ.out
          rw [List.take_of_length_le (by omega), List.take_of_length_le (by omega)] at h1
          exact h1
        have HALL := Aside1.mk hall
        clear hall
        go_wp2_with fail
        go_ret
        exact ⟨by rw [decide_eq_true HALL.out]; rfl, HQ.out⟩
  · have hne : ¬ (R.length : Int) = (R'.length : Int) := by omega
    have hR : R ≠ R' := fun e => hlen (by rw [e])
    have HR := Aside1.mk hR
    clear hR hlen
    go_enter Tryz.func10, Tryz.ntmps10
    go_wp2_with fail
    go_ret
    exact ⟨by rw [decide_eq_false HR.out]; rfl, Kept.refl _ _⟩
def hostL (n : Int) (c : ByteArray) (t : Int) : Lease := ⟨⟨1, 0, n, 128⟩, 1, c, 0, t⟩
set_option maxRecDepth 100000 in
theorem host_run (w : World) (n : Int) (c : ByteArray) (t : Int) : Calls Tryz.prog 14 #[.int .u64 n, .string c, .int .i64 t] w fun e w' => e = .returned (hostL n c t).val ∧ Quiet w w' := by
  simp only [Lease.val, hostL]
  go_enter Tryz.func14, Tryz.ntmps14
  go_wp2_with fail
  refine bodyPost_ret (v := .agg #[.int .i64 1, .int .u64 0, .int .u64 n, .int .i64 128, .int .i64 1, .string c, .int .u32 0, .int .i64 t]) (by simp [results, Tryz.results14, go_sem]) rfl ⟨rfl, ?_⟩
  exact (Kept.refl _ w).alloc _
end Go.Proofs.YtmegbllhidkmoaaGreat.Tb

/- A table that a law holds: lists of changes in memory, what they come to, Apply and All. -/
namespace Go.Proofs.YtmegbllhidkmoaaGreat.Tb
open Go.RowKit Go.Maps Go.Shelf Go.Proofs.YtmegbllhidkmoaaGreatW.PrintWords Go.Proofs.YtmegbllhidkmoaaGreatW.PrintLast Go.Proofs.YtmegbllhidkmoaaGreatW.PrintMore
set_option linter.unusedVariables false
/-- v is a slice of slices of these changes. -/
def ListsAt (w : World) (v : Value) (css : List (List Change)) : Prop :=
  ∃ p cap, v = .slice p css.length cap ∧ css.length ≤ cap ∧ cap ≤ maxLen ∧ ∀ i (h : i < css.length), ∃ g off vi, p = some ⟨g, off, none⟩ ∧ w.cell? ⟨g, off + i, none⟩ = some vi ∧ ChangesAt w vi (css[i]'h)
theorem ListsAt.quiet {w w' : World} {v : Value} {css : List (List Change)} (h : ListsAt w v css) (hq : Quiet w w') : ListsAt w' v css := by
  obtain ⟨p, cap, rfl, h1, h2, h3⟩ := h
  refine ⟨p, cap, rfl, h1, h2, fun i hi => ?_⟩
  obtain ⟨g, off, vi, hp, hc, hh⟩ := h3 i hi
  exact ⟨g, off, vi, hp, hq.cell hc (fun h => h), hh.quiet hq⟩
def stepS (S : List Lease × List End) (cs : List Change) : List Lease × List End := if cs.length ≤ 300 then (if applyE S.1 cs = 0 then (applyL S.1 cs, applyEnds S.2 cs) else S) else S
def playS (S : List Lease × List End) (css : List (List Change)) : List Lease × List End := (css.take 300).foldl stepS S
def filledS (css : List (List Change)) : List Lease × List End := playS ([], []) css
theorem play_next {css : List (List Change)} {j : Nat} (h : j < css.length) (S : List Lease × List End) : (css.take (j + 1)).foldl stepS S = stepS ((css.take j).foldl stepS S) (css[j]'h) := by
  rw [List.take_succ_eq_append_getElem h, List.foldl_append]; rfl
/-- What holds of a table in a law. -/
structure Held (w wr : World) (bt N : Nat) (S : List Lease × List End) : Prop where
  tab : ∃ b1 b2 v, TabAt wr bt b1 b2 v N S.1 S.2 ∧ ∀ k, Foot bt b1 b2 v k → w.heap.size ≤ k
  sorted : Sorted S.1
  uniq : Uniq S.1
  quiet : Quiet w wr
theorem Held.keep {w wr w2 : World} {bt N : Nat} {S : List Lease × List End} (h : Held w wr bt N S) (hq : Quiet wr w2) : Held w w2 bt N S := by
  obtain ⟨b1, b2, v, hT, hf⟩ := h.tab
  exact ⟨⟨b1, b2, v, hT.kept hq (fun _ _ h => h), hf⟩, h.sorted, h.uniq, h.quiet.andThen hq (fun _ _ h => h)⟩
theorem Held.mono {w wr : World} {bt N N' : Nat} {S : List Lease × List End} (h : Held w wr bt N S) (hN : N ≤ N') : Held w wr bt N' S := by
  obtain ⟨b1, b2, v, hT, hf⟩ := h.tab
  exact ⟨⟨b1, b2, v, hT.mono hN, hf⟩, h.sorted, h.uniq, h.quiet⟩
theorem Held.base {w wr : World} {bt N : Nat} {S : List Lease × List End} (h : Held w wr bt N S) : w.heap.size ≤ bt ∧ bt < wr.heap.size := by
  obtain ⟨b1, b2, v, hT, hf⟩ := h.tab
  exact ⟨hf bt (.inl rfl), (Array.getElem?_eq_some_iff.1 hT.blk).1⟩
def applyS (S : List Lease × List End) (cs : List Change) : List Lease × List End := if applyE S.1 cs = 0 then (applyL S.1 cs, applyEnds S.2 cs) else S
theorem held_apply (w wr : World) (bt N : Nat) (S : List Lease × List End) (h : Held w wr bt N S) (vc : Value) (cs : List Change) (hc : ChangesAt wr vc cs) (hN : N + cs.length < 1000000000) :
    Calls Tryz.prog 7 #[.pointer (some ⟨bt, 0, none⟩), vc] wr fun e w2 => e = .returned (.int .i64 (applyE S.1 cs)) ∧ Held w w2 bt (N + cs.length) (applyS S cs) ∧ Kept (fun k => k = bt) wr w2 := by
  obtain ⟨b1, b2, v, hT, hf⟩ := h.tab
  refine (tab_apply wr bt b1 b2 N v S.1 S.2 hT h.uniq h.sorted vc cs hc hN).mono ?_
  rintro e w2 ⟨rfl, hk, hbad, hgood⟩
  refine ⟨rfl, ?_, hk⟩
  unfold applyS
  by_cases he : applyE S.1 cs = 0
  · rw [if_pos he]
    obtain ⟨c1, c2, v', r1, r2, r3, r4⟩ := hgood he
    have hs := h.quiet.size
    exact ⟨⟨c1, c2, v', r1, fun k hk => (r4 k hk).elim (fun e => by rw [e]; exact hf bt (.inl rfl)) (fun e => Nat.le_trans hs e)⟩, r2, r3, h.quiet.andThen hk (fun i hi e => by have := hf bt (.inl rfl); omega)⟩
  · rw [if_neg he]
    exact (h.keep (hbad he)).mono (by omega)
theorem held_all (w wr : World) (bt N : Nat) (S : List Lease × List End) (h : Held w wr bt N S) (hN : N ≤ 1000000000) :
    Calls Tryz.prog 11 #[.pointer (some ⟨bt, 0, none⟩)] wr fun e w2 => ∃ v', e = .returned v' ∧ LeasesIs w2 wr.heap.size v' S.1 ∧ Quiet wr w2 := by
  obtain ⟨b1, b2, v, hT, hf⟩ := h.tab
  exact tab_all wr bt b1 b2 N v S.1 S.2 hT hN h.sorted
end Go.Proofs.YtmegbllhidkmoaaGreat.Tb

/- How the laws' arguments read: changes, and lists of lists of changes. -/
namespace Go.Proofs.YtmegbllhidkmoaaGreat.Tb
open Go.RowKit Go.ChangeShapes Go.WideShapes Go.ChangeAt Go.Deep
set_option linter.unusedVariables false
theorem row_own : ownKnob Tryz.prog.godebug = none := by kernel_rfl
theorem row_laid : laidOutB Tryz.prog = true := by kernel_rfl
section
variable {H : Type} {enc : TypeId × Value → H} {w : World} {base : Nat} {spare : Nat → Bool} {held : Bool} {fuel : Nat} {cs : List Value} {x : DataW H × List MemPlace}
theorem cellsChange : Tryz.prog.cellsOf 41 = 9 := by kernel_rfl
theorem cellsLease : Tryz.prog.cellsOf 30 = 8 := by kernel_rfl
theorem cellsBool : Tryz.prog.cellsOf 4 = 1 := by kernel_rfl
theorem cellsRow : Tryz.prog.cellsOf 36 = 1 := by kernel_rfl
set_option maxRecDepth 100000 in
theorem read_addr (h : DataW.trod enc Tryz.prog w base spare held fuel 25 cs = some x) : ∃ hi lo : Int, cs = [.int .u64 hi, .int .u64 lo] ∧ (Lit.int .u64 hi).wf = true ∧ (Lit.int .u64 lo).wf = true := by
  obtain ⟨xs, n, _, _, hl, hx, hf⟩ := DataW.trod_struct Tryz.underlying25 h
  rw [Tryz.cellsAddr] at hl
  match cs, hl with
  | [c0, c1], _ =>
    have h0 := hf 0 _ rfl
    have h1 := hf 1 _ rfl
    simp only [List.getElem_toArray, List.getElem_cons_zero, List.getElem_cons_succ, Tryz.cellsU64, List.drop_zero, List.drop_succ_cons, List.take_succ_cons, List.take_zero] at h0 h1
    rw [List.getElem?_eq_getElem (by rw [hx]; decide)] at h0 h1
    obtain ⟨a, e0, _, w0⟩ := DataW.trod_int Tryz.underlying23 h0
    obtain ⟨b, e1, _, w1⟩ := DataW.trod_int Tryz.underlying23 h1
    exact ⟨a, b, by simp only [List.cons.injEq, and_true] at e0 e1; rw [e0, e1], w0, w1⟩
set_option maxRecDepth 100000 in
theorem read_prefix (h : DataW.trod enc Tryz.prog w base spare held fuel 27 cs = some x) : ∃ hi lo bits : Int, cs = [.int .u64 hi, .int .u64 lo, .int .i64 bits] ∧ (Lit.int .u64 hi).wf = true ∧ (Lit.int .u64 lo).wf = true ∧ (Lit.int .i64 bits).wf = true := by
  obtain ⟨xs, n, _, _, hl, hx, hf⟩ := DataW.trod_struct Tryz.underlying27 h
  rw [Tryz.cellsPfx] at hl
  match cs, hl with
  | [c0, c1, c2], _ =>
    have h0 := hf 0 _ rfl
    have h1 := hf 1 _ rfl
    simp only [List.getElem_toArray, List.getElem_cons_zero, List.getElem_cons_succ, Tryz.cellsAddr, Tryz.cellsInt, List.drop_zero, List.drop_succ_cons, List.take_succ_cons, List.take_zero] at h0 h1
    rw [List.getElem?_eq_getElem (by rw [hx]; decide)] at h0 h1
    obtain ⟨a, b, e0, w0, w0'⟩ := read_addr h0
    obtain ⟨c, e1, _, w1⟩ := DataW.trod_int Tryz.underlying3 h1
    exact ⟨a, b, c, by simp only [List.cons.injEq, and_true] at e0 e1; rw [e0.1, e0.2, e1], w0, w0', w1⟩
set_option maxRecDepth 100000 in
theorem read_lease (h : DataW.trod enc Tryz.prog w base spare held fuel 30 cs = some x) : ∃ l : Lease, cs = l.cells ∧ l.ok := by
  obtain ⟨xs, n, _, _, hl, hx, hf⟩ := DataW.trod_struct Tryz.underlying30 h
  rw [cellsLease] at hl
  match cs, hl with
  | [c0, c1, c2, c3, c4, c5, c6, c7], _ =>
    have h0 := hf 0 _ rfl
    have h1 := hf 1 _ rfl
    have h2 := hf 2 _ rfl
    have h3 := hf 3 _ rfl
    have h4 := hf 4 _ rfl
    have h5 := hf 5 _ rfl
    simp only [List.getElem_toArray, List.getElem_cons_zero, List.getElem_cons_succ, Tryz.cellsPfx, Tryz.cellsInt, Tryz.cellsStr, Tryz.cellsU32, List.drop_zero, List.drop_succ_cons, List.take_succ_cons, List.take_zero] at h0 h1 h2 h3 h4 h5
    rw [List.getElem?_eq_getElem (by rw [hx]; decide)] at h0 h1 h2 h3 h4 h5
    obtain ⟨k, e0, _, w0⟩ := DataW.trod_int Tryz.underlying3 h0
    obtain ⟨hi, lo, b, e1, w1, w2, w3⟩ := read_prefix h1
    obtain ⟨s, e2, _, w4⟩ := DataW.trod_int Tryz.underlying3 h2
    obtain ⟨c, e3, _, w5⟩ := DataW.trod_string Tryz.underlying9 h3
    obtain ⟨i, e4, _, w6⟩ := DataW.trod_int Tryz.underlying28 h4
    obtain ⟨u, e5, _, w7⟩ := DataW.trod_int Tryz.underlying3 h5
    simp only [List.cons.injEq, and_true] at e0 e1 e2 e3 e4 e5
    exact ⟨⟨⟨k, hi, lo, b⟩, s, c, i, u⟩, by rw [e0, e1.1, e1.2.1, e1.2.2, e2, e3, e4, e5]; rfl, ⟨w0, w1, w2, w3⟩, w4, w5, w6, w7⟩
set_option maxRecDepth 100000 in
theorem read_change (h : DataW.trod enc Tryz.prog w base spare held fuel 41 cs = some x) : ∃ c : Change, cs = c.cells ∧ c.lease.ok := by
  obtain ⟨xs, n, _, _, hl, hx, hf⟩ := DataW.trod_struct Tryz.underlying41 h
  rw [cellsChange] at hl
  match cs, hl with
  | [c0, c1, c2, c3, c4, c5, c6, c7, c8], _ =>
    have h0 := hf 0 _ rfl
    have h1 := hf 1 _ rfl
    simp only [List.getElem_toArray, List.getElem_cons_zero, List.getElem_cons_succ, cellsBool, cellsLease, List.drop_zero, List.drop_succ_cons, List.take_succ_cons, List.take_zero] at h0 h1
    rw [List.getElem?_eq_getElem (by rw [hx]; decide)] at h0 h1
    obtain ⟨g, e0, _⟩ := DataW.trod_bool Tryz.underlying4 h0
    obtain ⟨l, e1, w1⟩ := read_lease h1
    simp only [List.cons.injEq, and_true] at e0
    refine ⟨⟨g, l⟩, ?_, w1⟩
    rw [e0, e1]; rfl
theorem read_changes (h : DataW.trod enc Tryz.prog w base (fun _ => true) held fuel 36 cs = some x) : ∃ (v : Value) (L : List Change), cs = [v] ∧ ChangesAt w v L := by
  rcases open_slice Tryz.underlying36 h with ⟨rfl, _⟩ | ⟨a, len, cap, m, n, D, Pl, rfl, _, hlc, hcm, hm, _, hi⟩
  · exact ⟨_, [], rfl, none, 0, rfl, Nat.le_refl _, Nat.zero_le _, (fun j hj => absurd hj (Nat.not_lt_zero _)), (fun c hc => by cases hc)⟩
  · simp only [if_true] at hm
    subst hm
    have hall : ∀ i, i < len → ∃ c : Change, w.cells? base (a.add (i * 9)) 9 = some c.cells ∧ c.lease.ok := fun i hil => by
      obtain ⟨cs', h1, h2⟩ := hi i (by omega)
      obtain ⟨c, rfl, hc⟩ := read_change h2
      rw [cellsChange] at h1
      exact ⟨c, h1, hc⟩
    obtain ⟨f, hf⟩ : ∃ f : Nat → Change, ∀ i, i < len → w.cells? base (a.add (i * 9)) 9 = some (f i).cells ∧ (f i).lease.ok := by
      refine ⟨fun i => if h : i < len then Classical.choose (hall i h) else ⟨false, zeroLease⟩, fun i hil => ?_⟩
      simp only [dif_pos hil]
      exact Classical.choose_spec (hall i hil)
    refine ⟨_, (List.range len).map f, rfl, some a, m, by simp, by simpa using hlc, hcm, fun j hj => ?_, fun c hc => ?_⟩
    · have hjl : j < len := by simpa using hj
      obtain ⟨b, off, spot⟩ := a
      have hs : spot = none := by
        obtain ⟨_, _, hat⟩ := World.cells?_some (hf 0 (by omega)).1
        have h0 := hat 0 (by omega)
        have h1 : (f 0).cells[0]? = some (.bool (f 0).gone) := rfl
        rw [h1] at h0
        simpa [Addr.add] using World.cell?_spot h0
      subst hs
      obtain ⟨_, _, hat⟩ := World.cells?_some (hf j hjl).1
      refine ⟨b, off, rfl, fun i hi9 => ?_⟩
      have h2 := hat i hi9
      rw [Addr.add_lit, Addr.add_lit] at h2
      simp only [List.getElem_map, List.getElem_range]
      exact h2
    · obtain ⟨i, hi', rfl⟩ := List.mem_map.1 hc
      exact (hf i (List.mem_range.1 hi')).2
theorem read_lists (h : DataW.trod enc Tryz.prog w base (fun _ => true) held fuel 22 cs = some x) : ∃ (v : Value) (L : List (List Change)), cs = [v] ∧ ListsAt w v L := by
  rcases open_slice Tryz.underlying22 h with ⟨rfl, _⟩ | ⟨a, len, cap, m, n, D, Pl, rfl, _, hlc, hcm, hm, _, hi⟩
  · exact ⟨_, [], rfl, none, 0, rfl, Nat.le_refl _, Nat.zero_le _, (fun j hj => absurd hj (Nat.not_lt_zero _))⟩
  · simp only [if_true] at hm
    subst hm
    have hall : ∀ i, i < len → ∃ (r : Value × List Change), w.cells? base (a.add i) 1 = some [r.1] ∧ ChangesAt w r.1 r.2 := fun i hil => by
      obtain ⟨cs', h1, h2⟩ := hi i (by omega)
      obtain ⟨v, L, rfl, hc⟩ := read_changes h2
      rw [cellsRow, Nat.mul_one] at h1
      exact ⟨(v, L), h1, hc⟩
    obtain ⟨f, hf⟩ : ∃ f : Nat → Value × List Change, ∀ i, i < len → w.cells? base (a.add i) 1 = some [(f i).1] ∧ ChangesAt w (f i).1 (f i).2 := by
      refine ⟨fun i => if h : i < len then Classical.choose (hall i h) else (.bool false, []), fun i hil => ?_⟩
      simp only [dif_pos hil]
      exact Classical.choose_spec (hall i hil)
    refine ⟨_, (List.range len).map (fun i => (f i).2), rfl, some a, m, by simp, by simpa using hlc, hcm, fun j hj => ?_⟩
    have hjl : j < len := by simpa using hj
    obtain ⟨b, off, spot⟩ := a
    have hs : spot = none := by
      obtain ⟨_, _, hat⟩ := World.cells?_some (hf 0 (by omega)).1
      have h0 := hat 0 (by omega)
      have h1 : [(f 0).1][0]? = some (f 0).1 := rfl
      rw [h1] at h0
      simpa [Addr.add] using World.cell?_spot h0
    subst hs
    obtain ⟨_, _, hat⟩ := World.cells?_some (hf j hjl).1
    have h0 := hat 0 (by omega)
    have h1 : [(f j).1][0]? = some (f j).1 := rfl
    rw [h1, Addr.add_lit, Addr.add_lit] at h0
    refine ⟨b, off, (f j).1, rfl, ?_, ?_⟩
    · exact h0
    · simp only [List.getElem_map, List.getElem_range]
      exact (hf j hjl).2
end
theorem quiet_below {w w' : World} (h : Quiet w w') : Below w.heap.size w w' := h.below (Nat.le_refl _) (fun _ _ h => h)
end Go.Proofs.YtmegbllhidkmoaaGreat.Tb

/- A region that draws its order, that only reads, and whose callees leave all that lay there as it lay: walked once, in the order of the text. -/
namespace Go.Proofs.YtmegbllhidkmoaaGreat.Tb
open Go.RowKit
set_option linter.unusedVariables false
/-- A world in which all lies as it lay in w. -/
structure QW (w : World) where
  wd : World
  quiet : Quiet w wd
instance (w : World) : Inhabited (QW w) := ⟨⟨w, Kept.refl _ w⟩⟩
theorem wp_region_qw {P : Program} {id : Nat} {Q : Exit → Act → World → Prop} {a : Act} {w : World} {l : List Oper} (hm : P.follows .mixedOrders = true) (hB : Region.lexB .any l.toArray = true)
    (h : wpQuiet P l.toArray (fun w' => ∃ q : QW w, w' = q.wd) (fun a' => ∀ w', (∃ q : QW w, w' = q.wd) → Q .normal a' w') l a) : (Code.region id l.toArray true).wp P Q a w :=
  wp_region_quiet (C := fun w' => ∃ q : QW w, w' = q.wd) hm hB ⟨⟨w.drew, (Kept.refl _ w).drew⟩, rfl⟩ (by simpa using h)
theorem QW.cell {w : World} (q : QW w) {a : Addr} {v : Value} (h : w.cell? a = some v) : q.wd.cell? a = some v := q.quiet.cell h (fun h => h)
theorem quiet_qw {w w' : World} (h : ∃ q : QW w, w' = q.wd) : Quiet w w' := by
  obtain ⟨q, rfl⟩ := h
  exact q.quiet
theorem Calls.qw_of {P : Program} {f : FuncId} {args : Array Value} {w : World} {q : QW w} {v : Value}
    (h : Calls P f args q.wd fun e w' => e = .returned v ∧ Quiet q.wd w') : Calls P f args q.wd fun e w'' => e = .returned v ∧ ∃ p : QW w, w'' = p.wd :=
  h.mono fun _ w' ⟨he, hq⟩ => ⟨he, ⟨w', q.quiet.andThen hq (fun _ _ h => h)⟩, rfl⟩
end Go.Proofs.YtmegbllhidkmoaaGreat.Tb

/- The reference's addresses (tenancyref01): what its functions answer. -/
namespace Go.Proofs.YtmegbllhidkmoaaGreat.Tb
open Go.RowKit Go.Proofs.YtmegbllhidkmoaaGreatW.PrintWords Go.Proofs.YtmegbllhidkmoaaGreatW.PrintLast Go.Proofs.YtmegbllhidkmoaaGreatW.PrintMore
set_option linter.unusedVariables false
attribute [local go_sem] fldA_0 fldA_1 fldP_0 fldP_1
attribute [local go_sem high] eqA27
def tenancyref01_bit.f (a0_0 : Int) (a0_1 : Int) (a1 : Int) : Option (Int) := if a1 < 64 then (if 0 ≤ (IntKind.u64.wrap (wrap64 (63 - a1))) then (some (Go.bits .and .u64 (shr .u64 a0_0 (IntKind.u64.wrap (wrap64 (63 - a1)))) 1)) else (none)) else (if 0 ≤ (IntKind.u64.wrap (wrap64 (127 - a1))) then (some (Go.bits .and .u64 (shr .u64 a0_1 (IntKind.u64.wrap (wrap64 (127 - a1)))) 1)) else (none))
def tenancyref01_with.f (a0_0 : Int) (a0_1 : Int) (a1 : Int) : Option (Int × Int) := if a1 < 64 then (if 0 ≤ (IntKind.u64.wrap (wrap64 (63 - a1))) then (some (Go.bits .or .u64 a0_0 (shl .u64 1 (IntKind.u64.wrap (wrap64 (63 - a1)))), a0_1)) else (none)) else (if 0 ≤ (IntKind.u64.wrap (wrap64 (127 - a1))) then (some (a0_0, Go.bits .or .u64 a0_1 (shl .u64 1 (IntKind.u64.wrap (wrap64 (127 - a1)))))) else (none))
theorem wrap_sub {m i : Int} (h0 : 0 ≤ i) (h1 : i ≤ m) (hm : m ≤ 127) : IntKind.u64.wrap (wrap64 (m - i)) = m - i := by
  rw [show wrap64 (m - i) = m - i by unfold wrap64; omega]
  simp [IntKind.wrap, IntKind.bits, IntKind.signed]; omega
theorem shr_by (x : Int) {n : Int} (h2 : n ≤ 64) : shr .u64 x n = x / 2 ^ n.toNat := by unfold shr; rw [bits64, Nat.min_eq_left (by omega)]
theorem shl_by (x : Int) {n : Int} (h2 : n ≤ 64) : shl .u64 x n = IntKind.u64.wrap (x * 2 ^ n.toNat) := by unfold shl; rw [bits64, Nat.min_eq_left (by omega)]
set_option maxRecDepth 100000 in
theorem tenancyref01_bit.calls (h l i r : Int) (w : World) (h0 : 0 ≤ i) (h1 : i < 128) (e : tenancyref01_bit.f h l i = some r) : Calls Tryz.prog 95 #[.agg #[.int .u64 h, .int .u64 l], .int .i64 i] w fun e w' => e = .returned (.int .u64 r) ∧ Quiet w w' := by
  unfold tenancyref01_bit.f at e
  by_cases c : i < 64
  · rw [if_pos c, wrap_sub h0 (by omega) (by omega), if_pos (by omega), shr_by _ (by omega)] at e
    obtain rfl := Option.some.inj e
    clear e
    have n1 : 0 ≤ 63 - i := by omega
    have n2 : 63 - i ≤ 63 := by omega
    go_enter Tryz.func95, Tryz.ntmps95
    go_wp2_with fail
    go_ret
    exact ⟨rfl, by (repeat (first | exact Kept.refl _ _ | assumption | apply Kept.drew | apply Kept.drewN | apply Kept.alloc | refine Kept.setCell ?_ (fun hlt => absurd hlt (Nat.lt_irrefl _)) _ | refine Kept.andThen ?_ (by assumption) (fun _ _ h => h)))⟩
  · rw [if_neg c, wrap_sub h0 (by omega) (by omega), if_pos (by omega), shr_by _ (by omega)] at e
    obtain rfl := Option.some.inj e
    clear e
    have n1 : 0 ≤ 127 - i := by omega
    have n2 : 127 - i ≤ 63 := by omega
    go_enter Tryz.func95, Tryz.ntmps95
    go_wp2_with fail
    go_ret
    exact ⟨rfl, by (repeat (first | exact Kept.refl _ _ | assumption | apply Kept.drew | apply Kept.drewN | apply Kept.alloc | refine Kept.setCell ?_ (fun hlt => absurd hlt (Nat.lt_irrefl _)) _ | refine Kept.andThen ?_ (by assumption) (fun _ _ h => h)))⟩
set_option maxRecDepth 100000 in
theorem tenancyref01_with.calls (h l i r1 r2 : Int) (w : World) (h0 : 0 ≤ i) (h1 : i < 128) (e : tenancyref01_with.f h l i = some (r1, r2)) : Calls Tryz.prog 107 #[.agg #[.int .u64 h, .int .u64 l], .int .i64 i] w fun e w' => e = .returned (.agg #[.int .u64 r1, .int .u64 r2]) ∧ Quiet w w' := by
  unfold tenancyref01_with.f at e
  by_cases c : i < 64
  · rw [if_pos c, wrap_sub h0 (by omega) (by omega), if_pos (by omega), shl_by _ (by omega), Int.one_mul] at e
    obtain ⟨rfl, rfl⟩ := Prod.mk.inj (Option.some.inj e)
    clear e
    have n1 : 0 ≤ 63 - i := by omega
    have n2 : 63 - i ≤ 63 := by omega
    go_enter Tryz.func107, Tryz.ntmps107
    go_wp2_with fail
    refine bodyPost_ret (v := .agg #[.int .u64 (Go.bits .or .u64 h (IntKind.u64.wrap (2 ^ (63 - i).toNat))), .int .u64 l]) (by simp [results, Tryz.results107, go_sem]) rfl ⟨rfl, ?_⟩
    (repeat (first | exact Kept.refl _ _ | assumption | apply Kept.drew | apply Kept.drewN | apply Kept.alloc | refine Kept.setCell ?_ (fun hlt => absurd hlt (Nat.lt_irrefl _)) _ | refine Kept.andThen ?_ (by assumption) (fun _ _ h => h)))
  · rw [if_neg c, wrap_sub h0 (by omega) (by omega), if_pos (by omega), shl_by _ (by omega), Int.one_mul] at e
    obtain ⟨rfl, rfl⟩ := Prod.mk.inj (Option.some.inj e)
    clear e
    have n1 : 0 ≤ 127 - i := by omega
    have n2 : 127 - i ≤ 63 := by omega
    go_enter Tryz.func107, Tryz.ntmps107
    go_wp2_with fail
    refine bodyPost_ret (v := .agg #[.int .u64 h, .int .u64 (Go.bits .or .u64 l (IntKind.u64.wrap (2 ^ (127 - i).toNat)))]) (by simp [results, Tryz.results107, go_sem]) rfl ⟨rfl, ?_⟩
    (repeat (first | exact Kept.refl _ _ | assumption | apply Kept.drew | apply Kept.drewN | apply Kept.alloc | refine Kept.setCell ?_ (fun hlt => absurd hlt (Nat.lt_irrefl _)) _ | refine Kept.andThen ?_ (by assumption) (fun _ _ h => h)))

mutual
def tenancyref01_Clip.j0 : Nat → Int → Bool → Int → Int → Option (Int × Int × Int × Bool)
  | 0, _, _, _, _ => none
  | k + 1, x1, x13, x177000, x177001 => if x13 = true then (some (0, 0, 0, false)) else (tenancyref01_Clip.l0 k x1 0 x177000 x177001 0 0)
def tenancyref01_Clip.l0 : Nat → Int → Int → Int → Int → Int → Int → Option (Int × Int × Int × Bool)
  | 0, _, _, _, _, _, _ => none
  | k + 1, x1, x7, x177000, x177001, x179000, x179001 => if x7 < x1 then ((tenancyref01_bit.f x177000 x177001 x7).bind fun t179 => (if t179 = 1 then ((tenancyref01_with.f x179000 x179001 x7).bind fun bt180 => (tenancyref01_Clip.l0 k x1 (wrap64 (x7 + 1)) x177000 x177001 bt180.1 bt180.2)) else (tenancyref01_Clip.l0 k x1 (wrap64 (x7 + 1)) x177000 x177001 x179000 x179001))) else (some (x179000, x179001, x1, true))
end
def tenancyref01_Clip.f (k : Nat) (a0_0 : Int) (a0_1 : Int) (a1 : Int) : Option (Int × Int × Int × Bool) := if a1 < 0 then (tenancyref01_Clip.j0 k a1 true a0_0 a0_1) else (tenancyref01_Clip.j0 k a1 (decide (a1 > 128)) a0_0 a0_1)
theorem rclip_cases {k : Nat} {h l n r1 r2 r3 : Int} {r4 : Bool} (e : tenancyref01_Clip.f k h l n = some (r1, r2, r3, r4)) : ((n < 0 ∨ n > 128) ∧ r1 = 0 ∧ r2 = 0 ∧ r3 = 0 ∧ r4 = false) ∨ (0 ≤ n ∧ n ≤ 128 ∧ ∃ q, tenancyref01_Clip.l0 q n 0 h l 0 0 = some (r1, r2, r3, r4)) := by
  unfold tenancyref01_Clip.f at e
  cases k with
  | zero => simp only [tenancyref01_Clip.j0] at e; split at e <;> cases e
  | succ k =>
    by_cases c : n < 0
    · rw [if_pos c] at e
      simp only [tenancyref01_Clip.j0, if_true, Option.some.injEq, Prod.mk.injEq] at e
      obtain ⟨rfl, rfl, rfl, rfl⟩ := e
      exact .inl ⟨.inl c, rfl, rfl, rfl, rfl⟩
    · rw [if_neg c] at e
      by_cases c1 : n > 128
      · rw [decide_eq_true c1] at e
        simp only [tenancyref01_Clip.j0, if_true, Option.some.injEq, Prod.mk.injEq] at e
        obtain ⟨rfl, rfl, rfl, rfl⟩ := e
        exact .inl ⟨.inr c1, rfl, rfl, rfl, rfl⟩
      · rw [decide_eq_false c1] at e
        simp only [tenancyref01_Clip.j0, Bool.false_eq_true, if_false] at e
        exact .inr ⟨by omega, by omega, k, e⟩
theorem rclip_step {q : Nat} {n i h l o1 o2 r1 r2 r3 : Int} {r4 : Bool} (h0 : 0 ≤ i) (hn : n ≤ 128) (e : tenancyref01_Clip.l0 q n i h l o1 o2 = some (r1, r2, r3, r4)) : (n ≤ i ∧ r1 = o1 ∧ r2 = o2 ∧ r3 = n ∧ r4 = true) ∨
    (i < n ∧ ∃ p t, q = p + 1 ∧ tenancyref01_bit.f h l i = some t ∧ ((t = 1 ∧ ∃ u1 u2, tenancyref01_with.f o1 o2 i = some (u1, u2) ∧ tenancyref01_Clip.l0 p n (i + 1) h l u1 u2 = some (r1, r2, r3, r4)) ∨ ((t == 1) = false ∧ tenancyref01_Clip.l0 p n (i + 1) h l o1 o2 = some (r1, r2, r3, r4)))) := by
  cases q with
  | zero => rw [tenancyref01_Clip.l0] at e; cases e
  | succ p =>
    rw [tenancyref01_Clip.l0] at e
    by_cases c : i < n
    · rw [if_pos c, show wrap64 (i + 1) = i + 1 by unfold wrap64; omega] at e
      obtain ⟨t, ht, e⟩ := Option.bind_eq_some_iff.1 e
      refine .inr ⟨c, p, t, rfl, ht, ?_⟩
      by_cases h1 : t = 1
      · rw [if_pos h1] at e
        obtain ⟨⟨u1, u2⟩, hu, e⟩ := Option.bind_eq_some_iff.1 e
        exact .inl ⟨h1, u1, u2, hu, e⟩
      · rw [if_neg h1] at e
        exact .inr ⟨by simpa using h1, e⟩
    · rw [if_neg c] at e
      simp only [Option.some.injEq, Prod.mk.injEq] at e
      obtain ⟨rfl, rfl, rfl, rfl⟩ := e
      exact .inl ⟨by omega, rfl, rfl, rfl, rfl⟩
set_option maxHeartbeats 1600000 in
set_option maxRecDepth 100000 in
theorem tenancyref01_Clip.calls (k : Nat) (h l n r1 r2 r3 : Int) (r4 : Bool) (w : World) (e : tenancyref01_Clip.f k h l n = some (r1, r2, r3, r4)) : Calls Tryz.prog 93 #[.agg #[.int .u64 h, .int .u64 l], .int .i64 n] w fun e w' => e = .returned (.tuple #[.agg #[.int .u64 r1, .int .u64 r2, .int .i64 r3], .bool r4]) ∧ Quiet w w' := by
  rcases rclip_cases e with ⟨hn, rfl, rfl, rfl, rfl⟩ | ⟨h1, h2, q, hl⟩
  · clear e
    rcases hn with h1 | h1
    · go_enter Tryz.func93, Tryz.ntmps93
      go_wp2_with fail
      refine bodyPost_ret (v := .tuple #[.agg #[.int .u64 0, .int .u64 0, .int .i64 0], .bool false]) (by simp [results, Tryz.results93, go_sem]) rfl ⟨rfl, ?_⟩
      (repeat (first | exact Kept.refl _ _ | assumption | apply Kept.drew | apply Kept.drewN | apply Kept.alloc | refine Kept.setCell ?_ (fun hlt => absurd hlt (Nat.lt_irrefl _)) _ | refine Kept.andThen ?_ (by assumption) (fun _ _ h => h)))
    · have h2 : ¬ n < 0 := by omega
      go_enter Tryz.func93, Tryz.ntmps93
      go_wp2_with fail
      refine bodyPost_ret (v := .tuple #[.agg #[.int .u64 0, .int .u64 0, .int .i64 0], .bool false]) (by simp [results, Tryz.results93, go_sem]) rfl ⟨rfl, ?_⟩
      (repeat (first | exact Kept.refl _ _ | assumption | apply Kept.drew | apply Kept.drewN | apply Kept.alloc | refine Kept.setCell ?_ (fun hlt => absurd hlt (Nat.lt_irrefl _)) _ | refine Kept.andThen ?_ (by assumption) (fun _ _ h => h)))
  · have HL := Aside1.mk hl
    have hn1 : ¬ n < 0 := by omega
    have hn2 : ¬ n > 128 := by omega
    clear e hl
    go_enter Tryz.func93, Tryz.ntmps93
    go_wp2_with fail
    go_loopw [7] (fun v7 wr => ∃ (i o1 o2 : Int) (p : Nat), v7 = .int .i64 i ∧ 0 ≤ i ∧ i ≤ n ∧ Aside1 (tenancyref01_Clip.l0 p n i h l o1 o2 = some (r1, r2, r3, r4)) ∧ Aside1 (wr.heap[w.heap.size]? = some (.cells #[.int .u64 h, .int .u64 l] 25 (0, 0))) ∧ Aside1 (wr.heap[w.heap.size + 1]? = some (.cells #[.int .u64 0, .int .u64 0, .int .i64 0] 27 (0, 0))) ∧ Aside1 (wr.heap[w.heap.size + 1 + 1]? = some (.cells #[.int .u64 o1, .int .u64 o2] 25 (0, 0))) ∧ Aside1 (Quiet w wr)) (fun v7 _ => (n - RowKit.intOf v7).toNat)
    case atStart =>
      refine ⟨0, 0, 0, q, rfl, by omega, by omega, HL, ⟨?_⟩, ⟨?_⟩, ⟨?_⟩, ⟨by (repeat (first | exact Kept.refl _ _ | assumption | apply Kept.drew | apply Kept.drewN | apply Kept.alloc | refine Kept.setCell ?_ (fun hlt => absurd hlt (Nat.lt_irrefl _)) _ | refine Kept.andThen ?_ (by assumption) (fun _ _ h => h)))⟩⟩
      · exact blk (old1 w _ _) ((Kept.refl _ _).alloc _)
      · exact blk (new1 w _ _) ((Kept.refl _ _).alloc _)
      · have := heap_alloc_new ((w.alloc (.cells #[.int .u64 h, .int .u64 l] 25)).alloc (.cells #[.int .u64 0, .int .u64 0, .int .i64 0] 27)) (.cells #[.int .u64 0, .int .u64 0] 25)
        rw [World.size_alloc, World.size_alloc] at this
        exact this
    case round =>
      obtain ⟨i, o1, o2, p, rfl, hi0, hin, HE, HA, HB, HO, HQ⟩ := hrel
      obtain ⟨a0, a1, _⟩ := at2 HA.out
      rcases rclip_step hi0 (by omega) HE.out with ⟨hni, rfl, rfl, rfl, rfl⟩ | ⟨hlt, p, t, rfl, hb, ⟨rfl, u1, u2, hu, hl⟩ | ⟨ht, hl⟩⟩
      · have hno : ¬ i < r3 := by omega
        obtain ⟨b0, b1, b2, f0, f1, f2⟩ := at3 HB.out
        obtain ⟨c0, c1, _⟩ := at2 HO.out
        go_wp2_with fail
        obtain ⟨y0, y1, y2, _⟩ := at3 (put3 (x' := .int .u64 r1) (y' := .int .u64 r2) (z' := .int .i64 r3) HB.out)
        refine bodyPost_ret (v := .tuple #[.agg #[.int .u64 r1, .int .u64 r2, .int .i64 r3], .bool true]) (by simp [results, Tryz.results93, go_sem, y0, y1, y2]) rfl ⟨rfl, ?_⟩
        exact set3 HQ.out (by simp)
      · have HBT := Aside1.mk (fun W => tenancyref01_bit.calls _ _ _ _ W hi0 (by omega) hb)
        have HWT := Aside1.mk (fun W => tenancyref01_with.calls _ _ _ _ _ W hi0 (by omega) hu)
        have HL2 := Aside1.mk hl
        have hi1 : 0 ≤ i + 1 := by omega
        have hi2 : i + 1 ≤ 9223372036854775807 := by omega
        clear hb hu hl
        go_wp2_with fail
        refine (HBT.out _).mono ?_
        rintro e w1 ⟨rfl, hq1⟩
        have hO := blk HO.out hq1
        obtain ⟨c0, c1, f0, f1⟩ := at2 hO
        have lO := (Array.getElem?_eq_some_iff.1 hO).1
        go_wp2_with fail
        refine (HWT.out _).mono ?_
        rintro e w2 ⟨rfl, hq2⟩
        have hO2 := blk hO hq2
        obtain ⟨c0', c1', f0', f1'⟩ := at2 hO2
        have lO2 := (Array.getElem?_eq_some_iff.1 hO2).1
        go_wp2_with fail
        have hq := hq1.andThen hq2 (fun _ _ h => h)
        have hq' := HQ.out.andThen hq (fun _ _ h => h)
        have hp := put2 (x' := .int .u64 u1) (y' := .int .u64 u2) hO2
        have ks : Kept (fun b => b = w.heap.size + 1 + 1) w2 ((w2.setCell ⟨w.heap.size + 1 + 1, 0, none⟩ (.int .u64 u1)).setCell ⟨w.heap.size + 1 + 1, 1, none⟩ (.int .u64 u2)) := ((Kept.refl (fun b => b = w.heap.size + 1 + 1) w2).setCell (p := ⟨w.heap.size + 1 + 1, 0, none⟩) (fun _ => rfl) _).setCell (p := ⟨w.heap.size + 1 + 1, 1, none⟩) (fun _ => rfl) _
        have hA2 := blk HA.out hq
        have hB2 := blk HB.out hq
        refine ⟨⟨i + 1, u1, u2, p, rfl, by omega, by omega, HL2, ⟨?_⟩, ⟨?_⟩, ⟨hp⟩, ⟨set2 hq' (by omega)⟩⟩, by simp [RowKit.intOf]; omega⟩
        · exact (ks.block _ (Array.getElem?_eq_some_iff.1 hA2).1 (by omega)).trans hA2
        · exact (ks.block _ (Array.getElem?_eq_some_iff.1 hB2).1 (by omega)).trans hB2
      · have HBT := Aside1.mk (fun W => tenancyref01_bit.calls _ _ _ _ W hi0 (by omega) hb)
        have HL2 := Aside1.mk hl
        have hi1 : 0 ≤ i + 1 := by omega
        have hi2 : i + 1 ≤ 9223372036854775807 := by omega
        clear hb hl
        go_wp2_with fail
        refine (HBT.out _).mono ?_
        rintro e w1 ⟨rfl, hq1⟩
        go_wp2_with fail
        exact ⟨⟨i + 1, o1, o2, p, rfl, by omega, by omega, HL2, ⟨blk HA.out hq1⟩, ⟨blk HB.out hq1⟩, ⟨blk HO.out hq1⟩, ⟨HQ.out.andThen hq1 (fun _ _ h => h)⟩⟩, by simp [RowKit.intOf]; omega⟩

def tenancyref01_Sound.f (k : Nat) (a0_0 : Int) (a0_1 : Int) (a0_2 : Int) : Option (Bool) := (tenancyref01_Clip.f k a0_0 a0_1 a0_2).bind fun bt183 => (if bt183.2.2.2 = true then (some ((bt183.1 == a0_0 && (bt183.2.1 == a0_1)) && (bt183.2.2.1 == a0_2))) else (some false))
set_option maxRecDepth 100000 in
theorem tenancyref01_Sound.calls (k : Nat) (h l n : Int) (r : Bool) (w : World) (e : tenancyref01_Sound.f k h l n = some r) : Calls Tryz.prog 76 #[.agg #[.int .u64 h, .int .u64 l, .int .i64 n]] w fun e w' => e = .returned (.bool r) ∧ Quiet w w' := by
  unfold tenancyref01_Sound.f at e
  obtain ⟨⟨p1, p2, p3, ok⟩, hc, e⟩ := Option.bind_eq_some_iff.1 e
  have HC := Aside1.mk (fun W => tenancyref01_Clip.calls _ _ _ _ _ _ _ _ W hc)
  have HE := Aside1.mk e
  clear hc e
  cases ok
  all_goals
    go_enter Tryz.func76, Tryz.ntmps76
    go_wp2_with (go_at_call 93; refine (HC.out _).mono ?_; rintro e w1 ⟨rfl, hq1⟩; have hb := blk (new0 w _) hq1; obtain ⟨c0, c1, c2, _⟩ := at3 hb; have hlt : w.heap.size < w1.heap.size := (Array.getElem?_eq_some_iff.1 hb).1)
    go_ret
    have := HE.out
    simp only [if_true, Bool.false_eq_true, if_false, Option.some.injEq] at this
    exact ⟨by rw [← this]; first | rfl | simp, by (repeat (first | exact Kept.refl _ _ | assumption | apply Kept.drew | apply Kept.drewN | apply Kept.alloc | refine Kept.setCell ?_ (fun hlt => absurd hlt (Nat.lt_irrefl _)) _ | refine Kept.andThen ?_ (by assumption) (fun _ _ h => h)))⟩

def tenancyref01_Has.f (k : Nat) (a0_0 : Int) (a0_1 : Int) (a0_2 : Int) (a1_0 : Int) (a1_1 : Int) : Option (Bool) := (tenancyref01_Clip.f k a1_0 a1_1 a0_2).bind fun bt198 => ((tenancyref01_Sound.f k a0_0 a0_1 a0_2).bind fun t203 => (if t203 = true then (some ((bt198.1 == a0_0 && (bt198.2.1 == a0_1)) && (bt198.2.2.1 == a0_2))) else (some false)))
set_option maxHeartbeats 1600000 in
set_option maxRecDepth 100000 in
theorem tenancyref01_Has.calls (k : Nat) (h l n x y : Int) (r : Bool) (w : World) (e : tenancyref01_Has.f k h l n x y = some r) : Calls Tryz.prog 94 #[.agg #[.int .u64 h, .int .u64 l, .int .i64 n], .agg #[.int .u64 x, .int .u64 y]] w fun e w' => e = .returned (.bool r) ∧ Quiet w w' := by
  unfold tenancyref01_Has.f at e
  obtain ⟨⟨p1, p2, p3, ok⟩, hc, e⟩ := Option.bind_eq_some_iff.1 e
  obtain ⟨s, hs, e⟩ := Option.bind_eq_some_iff.1 e
  have HC := Aside1.mk (fun W => tenancyref01_Clip.calls _ _ _ _ _ _ _ _ W hc)
  have HS := Aside1.mk (fun W => tenancyref01_Sound.calls _ _ _ _ _ W hs)
  have HE := Aside1.mk e
  clear hc hs e
  cases s
  all_goals
    go_enter Tryz.func94, Tryz.ntmps94
    go_wp2_with (first
      | (go_at_call 93; refine (HC.out _).mono ?_; rintro e w1 ⟨rfl, hq1⟩; have hb := blk (old1 w _ _) hq1; obtain ⟨c0, c1, c2, _⟩ := at3 hb; have hlt : w.heap.size < w1.heap.size := (Array.getElem?_eq_some_iff.1 hb).1)
      | (go_at_call 76; refine (HS.out _).mono ?_; rintro e w2 ⟨rfl, hq2⟩; obtain ⟨d0, d1, d2, _⟩ := at3 (blk (new0 w1 _) hq2); obtain ⟨g0, g1, g2, _⟩ := at3 (blk hb (((Kept.refl _ w1).alloc _).andThen hq2 (fun _ _ h => h)))))
    go_ret
    have := HE.out
    simp only [if_true, Bool.false_eq_true, if_false, Option.some.injEq] at this
    exact ⟨by rw [← this]; first | rfl | simp, by (repeat (first | exact Kept.refl _ _ | assumption | apply Kept.drew | apply Kept.drewN | apply Kept.alloc | refine Kept.setCell ?_ (fun hlt => absurd hlt (Nat.lt_irrefl _)) _ | refine Kept.andThen ?_ (by assumption) (fun _ _ h => h)))⟩

def tenancyref01_Covers.f (k : Nat) (a0_0 : Int) (a0_1 : Int) (a0_2 : Int) (a1_0 : Int) (a1_1 : Int) (a1_2 : Int) : Option (Bool) := (tenancyref01_Sound.f k a1_0 a1_1 a1_2).bind fun t206 => (if t206 = true then (if a1_2 ≥ a0_2 then ((tenancyref01_Has.f k a0_0 a0_1 a0_2 a1_0 a1_1).bind fun t207 => (some t207)) else (some false)) else (some false))
set_option maxHeartbeats 1600000 in
set_option maxRecDepth 100000 in
theorem tenancyref01_Covers.calls (k : Nat) (h l n x y m : Int) (r : Bool) (w : World) (e : tenancyref01_Covers.f k h l n x y m = some r) : Calls Tryz.prog 77 #[.agg #[.int .u64 h, .int .u64 l, .int .i64 n], .agg #[.int .u64 x, .int .u64 y, .int .i64 m]] w fun e w' => e = .returned (.bool r) ∧ Quiet w w' := by
  unfold tenancyref01_Covers.f at e
  obtain ⟨s, hs, e⟩ := Option.bind_eq_some_iff.1 e
  have HS := Aside1.mk (fun W => tenancyref01_Sound.calls _ _ _ _ _ W hs)
  clear hs
  cases s with
  | false =>
    obtain rfl : false = r := by rw [if_neg (by decide)] at e; exact Option.some.inj e
    go_enter Tryz.func77, Tryz.ntmps77
    go_wp2_with fail
    refine (HS.out _).mono ?_
    rintro e w1 ⟨rfl, hq1⟩
    go_wp2_with fail
    go_ret
    exact ⟨rfl, by (repeat (first | exact Kept.refl _ _ | assumption | apply Kept.drew | apply Kept.drewN | apply Kept.alloc | refine Kept.setCell ?_ (fun hlt => absurd hlt (Nat.lt_irrefl _)) _ | refine Kept.andThen ?_ (by assumption) (fun _ _ h => h)))⟩
  | true =>
    rw [if_pos rfl] at e
    by_cases c : m ≥ n
    · rw [if_pos c] at e
      obtain ⟨t, ht, e⟩ := Option.bind_eq_some_iff.1 e
      obtain rfl : t = r := Option.some.inj e
      have HH := Aside1.mk (fun W => tenancyref01_Has.calls _ _ _ _ _ _ _ W ht)
      clear ht e
      go_enter Tryz.func77, Tryz.ntmps77
      go_wp2_with fail
      refine (HS.out _).mono ?_
      rintro e w1 ⟨rfl, hq1⟩
      obtain ⟨a0, a1, a2, _⟩ := at3 (blk (old1 w _ _) hq1)
      obtain ⟨b0, b1, b2, _⟩ := at3 (blk (new1 w _ _) hq1)
      go_wp2_with fail
      refine (HH.out _).mono ?_
      rintro e w2 ⟨rfl, hq2⟩
      go_wp2_with fail
      go_ret
      exact ⟨rfl, by (repeat (first | exact Kept.refl _ _ | assumption | apply Kept.drew | apply Kept.drewN | apply Kept.alloc | refine Kept.setCell ?_ (fun hlt => absurd hlt (Nat.lt_irrefl _)) _ | refine Kept.andThen ?_ (by assumption) (fun _ _ h => h)))⟩
    · obtain rfl : false = r := by rw [if_neg c] at e; exact Option.some.inj e
      go_enter Tryz.func77, Tryz.ntmps77
      go_wp2_with fail
      refine (HS.out _).mono ?_
      rintro e w1 ⟨rfl, hq1⟩
      obtain ⟨a0, a1, a2, _⟩ := at3 (blk (old1 w _ _) hq1)
      obtain ⟨b0, b1, b2, _⟩ := at3 (blk (new1 w _ _) hq1)
      go_wp2_with fail
      go_ret
      exact ⟨rfl, by (repeat (first | exact Kept.refl _ _ | assumption | apply Kept.drew | apply Kept.drewN | apply Kept.alloc | refine Kept.setCell ?_ (fun hlt => absurd hlt (Nat.lt_irrefl _)) _ | refine Kept.andThen ?_ (by assumption) (fun _ _ h => h)))⟩
def tenancyref01_Meets.f (k : Nat) (a0_0 : Int) (a0_1 : Int) (a0_2 : Int) (a1_0 : Int) (a1_1 : Int) (a1_2 : Int) : Option (Bool) := (tenancyref01_Covers.f k a0_0 a0_1 a0_2 a1_0 a1_1 a1_2).bind fun t210 => (if t210 = true then (some true) else ((tenancyref01_Covers.f k a1_0 a1_1 a1_2 a0_0 a0_1 a0_2).bind fun t211 => (some t211)))
set_option maxRecDepth 100000 in
theorem tenancyref01_Meets.calls (k : Nat) (h l n x y m : Int) (r : Bool) (w : World) (e : tenancyref01_Meets.f k h l n x y m = some r) : Calls Tryz.prog 65 #[.agg #[.int .u64 h, .int .u64 l, .int .i64 n], .agg #[.int .u64 x, .int .u64 y, .int .i64 m]] w fun e w' => e = .returned (.bool r) ∧ Quiet w w' := by
  unfold tenancyref01_Meets.f at e
  obtain ⟨o1, h1, e⟩ := Option.bind_eq_some_iff.1 e
  have H1 := Aside1.mk (fun W => tenancyref01_Covers.calls _ _ _ _ _ _ _ _ W h1)
  cases o1 with
  | true =>
    obtain rfl : true = r := by rw [if_pos rfl] at e; exact Option.some.inj e
    go_enter Tryz.func65, Tryz.ntmps65
    go_wp2_with fail
    refine (H1.out _).mono ?_
    rintro e w1 ⟨rfl, hq1⟩
    go_wp2_with fail
    go_ret
    exact ⟨rfl, by (repeat (first | exact Kept.refl _ _ | assumption | apply Kept.drew | apply Kept.drewN | apply Kept.alloc | refine Kept.setCell ?_ (fun hlt => absurd hlt (Nat.lt_irrefl _)) _ | refine Kept.andThen ?_ (by assumption) (fun _ _ h => h)))⟩
  | false =>
    rw [if_neg (by decide)] at e
    obtain ⟨o2, h2, e⟩ := Option.bind_eq_some_iff.1 e
    obtain rfl : o2 = r := Option.some.inj e
    have H2 := Aside1.mk (fun W => tenancyref01_Covers.calls _ _ _ _ _ _ _ _ W h2)
    go_enter Tryz.func65, Tryz.ntmps65
    go_wp2_with fail
    refine (H1.out _).mono ?_
    rintro e w1 ⟨rfl, hq1⟩
    obtain ⟨a0, a1, a2, _⟩ := at3 (blk (old1 w _ _) hq1)
    obtain ⟨b0, b1, b2, _⟩ := at3 (blk (new1 w _ _) hq1)
    go_wp2_with fail
    refine (H2.out _).mono ?_
    rintro e w2 ⟨rfl, hq2⟩
    go_wp2_with fail
    go_ret
    exact ⟨rfl, by (repeat (first | exact Kept.refl _ _ | assumption | apply Kept.drew | apply Kept.drewN | apply Kept.alloc | refine Kept.setCell ?_ (fun hlt => absurd hlt (Nat.lt_irrefl _)) _ | refine Kept.andThen ?_ (by assumption) (fun _ _ h => h)))⟩

def tenancyref01_Cmp.l0 : Nat → Int → Int → Int → Int → Int → Option (Int)
  | 0, _, _, _, _, _ => none
  | k + 1, x5, x218000, x218001, x219000, x219001 => if x5 < 128 then ((tenancyref01_bit.f x218000 x218001 x5).bind fun t219 => ((tenancyref01_bit.f x219000 x219001 x5).bind fun t220 => (if t219 < t220 then (some (-1)) else ((tenancyref01_bit.f x218000 x218001 x5).bind fun t221 => ((tenancyref01_bit.f x219000 x219001 x5).bind fun t222 => (if t221 > t222 then (some 1) else (tenancyref01_Cmp.l0 k (wrap64 (x5 + 1)) x218000 x218001 x219000 x219001))))))) else (some 0)
def tenancyref01_Cmp.f (k : Nat) (a0_0 : Int) (a0_1 : Int) (a1_0 : Int) (a1_1 : Int) : Option (Int) := tenancyref01_Cmp.l0 k 0 a0_0 a0_1 a1_0 a1_1
theorem rcmp_step {q : Nat} {i h l h' l' r : Int} (h0 : 0 ≤ i) (e : tenancyref01_Cmp.l0 q i h l h' l' = some r) : (128 ≤ i ∧ r = 0) ∨
    (i < 128 ∧ ∃ p t u, q = p + 1 ∧ tenancyref01_bit.f h l i = some t ∧ tenancyref01_bit.f h' l' i = some u ∧ ((t < u ∧ r = -1) ∨ (u < t ∧ r = 1) ∨ (t = u ∧ tenancyref01_Cmp.l0 p (i + 1) h l h' l' = some r))) := by
  cases q with
  | zero => rw [tenancyref01_Cmp.l0] at e; cases e
  | succ p =>
    rw [tenancyref01_Cmp.l0] at e
    by_cases c : i < 128
    · rw [if_pos c, show wrap64 (i + 1) = i + 1 by unfold wrap64; omega] at e
      obtain ⟨t, ht, e⟩ := Option.bind_eq_some_iff.1 e
      obtain ⟨u, hu, e⟩ := Option.bind_eq_some_iff.1 e
      refine .inr ⟨c, p, t, u, rfl, ht, hu, ?_⟩
      by_cases h1 : t < u
      · rw [if_pos h1] at e
        exact .inl ⟨h1, (Option.some.inj e).symm⟩
      · rw [if_neg h1, ht, Option.bind_some, hu, Option.bind_some] at e
        by_cases h2 : t > u
        · rw [if_pos h2] at e
          exact .inr (.inl ⟨h2, (Option.some.inj e).symm⟩)
        · rw [if_neg h2] at e
          exact .inr (.inr ⟨by omega, e⟩)
    · rw [if_neg c] at e
      exact .inl ⟨by omega, (Option.some.inj e).symm⟩
set_option maxHeartbeats 1600000 in
set_option maxRecDepth 100000 in
theorem tenancyref01_Cmp.calls (k : Nat) (h l h' l' r : Int) (w : World) (e : tenancyref01_Cmp.f k h l h' l' = some r) : Calls Tryz.prog 78 #[.agg #[.int .u64 h, .int .u64 l], .agg #[.int .u64 h', .int .u64 l']] w fun e w' => e = .returned (.int .i64 r) ∧ Quiet w w' := by
  have HL := Aside1.mk e
  unfold tenancyref01_Cmp.f at HL
  clear e
  go_enter Tryz.func78, Tryz.ntmps78
  go_wp2_with fail
  go_loopw [5] (fun v5 wr => ∃ (i : Int) (p : Nat), v5 = .int .i64 i ∧ 0 ≤ i ∧ i ≤ 128 ∧ Aside1 (tenancyref01_Cmp.l0 p i h l h' l' = some r) ∧ Aside1 (wr.heap[w.heap.size]? = some (.cells #[.int .u64 h, .int .u64 l] 25 (0, 0))) ∧ Aside1 (wr.heap[w.heap.size + 1]? = some (.cells #[.int .u64 h', .int .u64 l'] 25 (0, 0))) ∧ Aside1 (Quiet w wr)) (fun v5 _ => (128 - RowKit.intOf v5).toNat)
  case atStart => exact ⟨0, k, rfl, by omega, by omega, HL, ⟨old1 w _ _⟩, ⟨new1 w _ _⟩, ⟨by (repeat (first | exact Kept.refl _ _ | assumption | apply Kept.drew | apply Kept.drewN | apply Kept.alloc | refine Kept.setCell ?_ (fun hlt => absurd hlt (Nat.lt_irrefl _)) _ | refine Kept.andThen ?_ (by assumption) (fun _ _ h => h)))⟩⟩
  case round =>
    obtain ⟨i, p, rfl, hi0, hin, HE, HA, HB, HQ⟩ := hrel
    rcases rcmp_step hi0 HE.out with ⟨hni, rfl⟩ | ⟨hlt, p, t, u, rfl, ht, hu, hcase⟩
    · have hno : ¬ i < 128 := by omega
      go_wp2_with fail
      go_ret
      exact ⟨rfl, HQ.out⟩
    · have H1 := Aside1.mk (fun W => tenancyref01_bit.calls _ _ _ _ W hi0 hlt ht)
      have H2 := Aside1.mk (fun W => tenancyref01_bit.calls _ _ _ _ W hi0 hlt hu)
      obtain ⟨a0, a1, _⟩ := at2 HA.out
      obtain ⟨b0, b1, _⟩ := at2 HB.out
      have A0 := fun q : QW wr => q.cell a0
      have A1 := fun q : QW wr => q.cell a1
      have B0 := fun q : QW wr => q.cell b0
      have B1 := fun q : QW wr => q.cell b1
      clear ht hu a0 a1 b0 b1
      go_wp2_with fail
      refine wp_region_qw (by kernel_rfl) (by kernel_rfl) ?_
      repeat (go_big_quiet_step ((first | (go_at_call 95; (with_reducible exact Calls.qw_of (H1.out _))) | (go_at_call 95; (with_reducible exact Calls.qw_of (H2.out _))))))
      refine wpQuiet_nil ?_
      intro wq hw'
      have hqq := quiet_qw hw'
      clear hw' A0 A1 B0 B1
      rcases hcase with ⟨hc, rfl⟩ | ⟨hc, rfl⟩ | ⟨rfl, hl⟩
      · go_wp2_with fail
        go_ret
        exact ⟨rfl, HQ.out.andThen hqq (fun _ _ h => h)⟩
      · have hno : ¬ t < u := by omega
        obtain ⟨a0, a1, _⟩ := at2 (blk HA.out hqq)
        obtain ⟨b0, b1, _⟩ := at2 (blk HB.out hqq)
        have A0 := fun q : QW wq => q.cell a0
        have A1 := fun q : QW wq => q.cell a1
        have B0 := fun q : QW wq => q.cell b0
        have B1 := fun q : QW wq => q.cell b1
        clear a0 a1 b0 b1
        go_wp2_with fail
        refine wp_region_qw (by kernel_rfl) (by kernel_rfl) ?_
        repeat (go_big_quiet_step ((first | (go_at_call 95; (with_reducible exact Calls.qw_of (H1.out _))) | (go_at_call 95; (with_reducible exact Calls.qw_of (H2.out _))))))
        refine wpQuiet_nil ?_
        intro wz hw'
        have hqz := quiet_qw hw'
        clear hw'
        go_wp2_with fail
        go_ret
        exact ⟨rfl, (HQ.out.andThen hqq (fun _ _ h => h)).andThen hqz (fun _ _ h => h)⟩
      · have HL2 := Aside1.mk hl
        have hi1 : 0 ≤ i + 1 := by omega
        have hi2 : i + 1 ≤ 9223372036854775807 := by omega
        have hno : ¬ t < t := by omega
        obtain ⟨a0, a1, _⟩ := at2 (blk HA.out hqq)
        obtain ⟨b0, b1, _⟩ := at2 (blk HB.out hqq)
        have A0 := fun q : QW wq => q.cell a0
        have A1 := fun q : QW wq => q.cell a1
        have B0 := fun q : QW wq => q.cell b0
        have B1 := fun q : QW wq => q.cell b1
        clear a0 a1 b0 b1 hl
        go_wp2_with fail
        refine wp_region_qw (by kernel_rfl) (by kernel_rfl) ?_
        repeat (go_big_quiet_step ((first | (go_at_call 95; (with_reducible exact Calls.qw_of (H1.out _))) | (go_at_call 95; (with_reducible exact Calls.qw_of (H2.out _))))))
        refine wpQuiet_nil ?_
        intro wz hw'
        have hqz := quiet_qw hw'
        clear hw'
        go_wp2_with fail
        have hq2 := hqq.andThen hqz (fun _ _ h => h)
        exact ⟨⟨i + 1, p, rfl, by omega, by omega, HL2, ⟨blk HA.out hq2⟩, ⟨blk HB.out hq2⟩, ⟨HQ.out.andThen hq2 (fun _ _ h => h)⟩⟩, by simp [RowKit.intOf]; omega⟩
end Go.Proofs.YtmegbllhidkmoaaGreat.Tb

/- The reference's addresses, bit by bit, are the program's: Clip, Sound, Cmp. (Clip and Sound as in the Text laws' PureG.) -/
namespace Go.Proofs.YtmegbllhidkmoaaGreat.Tb
open Go.RowKit Go.Lib Go.Proofs.YtmegbllhidkmoaaGreatW.PrintWords Go.Proofs.YtmegbllhidkmoaaGreatW.PrintLast Go.Proofs.YtmegbllhidkmoaaGreatW.PrintMore
set_option linter.unusedVariables false
theorem w64_id (x : Int) (h0 : -9223372036854775808 ≤ x) (h : x ≤ 9223372036854775807) : wrap64 x = x := by unfold wrap64; omega
theorem wraps_u64 (n : Int) (h₀ : 0 ≤ n) (h₁ : n < 2 ^ 64) : IntKind.u64.wrap n = n := by
  simp [IntKind.wrap, IntKind.bits, IntKind.signed]; omega
theorem wrap_u64 (n : Int) : IntKind.u64.wrap n = n % 18446744073709551616 := by simp [IntKind.wrap, IntKind.bits, IntKind.signed]
theorem u64_or (i : Nat) (x y : Int) (hx₀ : 0 ≤ x) (hx : x % 2 ^ i = 0) (hx₁ : x < 18446744073709551616) (hy₀ : 0 ≤ y) (hy : y < 2 ^ i) (hi : i ≤ 64) : Go.bits .or .u64 x y = x + y :=
  bits_join .u64 64 (by decide) wraps_u64 i x y hx₀ hx (by omega) hy₀ hy (by
    have : (2 : Int) ^ i ≤ 2 ^ 64 := by exact_mod_cast Nat.pow_le_pow_right (by decide) hi
    omega)
theorem u64_or_comm (x y : Int) (hx₀ : 0 ≤ x) (hx₁ : x < 18446744073709551616) (hy₀ : 0 ≤ y) (hy : y < 18446744073709551616) : Go.bits .or .u64 x y = Go.bits .or .u64 y x := by
  obtain ⟨a, rfl⟩ := Int.eq_ofNat_of_zero_le hx₀
  obtain ⟨b, rfl⟩ := Int.eq_ofNat_of_zero_le hy₀
  rw [(bits_nat .u64 64 (by decide) wraps_u64 a b (by omega) (by omega)).2, (bits_nat .u64 64 (by decide) wraps_u64 b a (by omega) (by omega)).2, Nat.or_comm]
theorem shr64 (n : Int) (j : Nat) (hj : j ≤ 64) (sh : Int) (e : sh = (j : Int)) : shr .u64 n sh = n / 2 ^ j := by
  subst e
  unfold shr
  rw [Int.toNat_natCast, Nat.min_eq_left (by simpa [IntKind.bits] using hj)]
theorem shl64 (n : Int) (j : Nat) (hj : j ≤ 64) (sh : Int) (e : sh = (j : Int)) : shl .u64 n sh = (n * 2 ^ j) % 18446744073709551616 := by
  subst e
  unfold shl
  rw [Int.toNat_natCast, Nat.min_eq_left (by simpa [IntKind.bits] using hj), wrap_u64]
theorem down_far (hi lo s : Int) (j : Nat) (hs : 64 ≤ s) (hj : s = 64 + (j : Int)) (h64 : j ≤ 64) : addr_Down.f hi lo s = some (0, hi / 2 ^ j) := by
  have e : wrap64 (s - 64) = (j : Int) := by unfold wrap64; omega
  unfold addr_Down.f
  rw [if_neg (by omega), if_pos hs, e, if_pos (by omega), shr64 hi j h64 _ rfl]
theorem down_near (hi lo s : Int) (j : Nat) (hj : s = (j : Int)) (h0 : 0 < j) (h64 : j < 64) :
    addr_Down.f hi lo s = some (hi / 2 ^ j, Go.bits .or .u64 (lo / 2 ^ j) ((hi * 2 ^ (64 - j)) % 18446744073709551616)) := by
  have e : wrap64 (64 - s) = ((64 - j : Nat) : Int) := by unfold wrap64; omega
  unfold addr_Down.f
  rw [if_neg (by omega), if_neg (by omega), if_pos (by omega), e, if_pos (by omega), shr64 hi j (by omega) s hj, shr64 lo j (by omega) s hj, shl64 hi (64 - j) (by omega) _ rfl]
/-- An address cut to n bits. -/
def clipN (H L n : Nat) : Nat × Nat := if n ≤ 64 then (H / 2 ^ (64 - n) * 2 ^ (64 - n), 0) else (H, L / 2 ^ (128 - n) * 2 ^ (128 - n))
theorem pow_le64 (a : Nat) (h : a ≤ 64) : 2 ^ a ≤ 18446744073709551616 := Nat.le_trans (Nat.pow_le_pow_right (by decide) h) (by decide)
theorem div_mul_lt (H d : Nat) (hH : H < 18446744073709551616) : H / d * d < 18446744073709551616 := Nat.lt_of_le_of_lt (Nat.div_mul_le_self H d) hH

theorem or_nat (i a b : Nat) (ha : a % 2 ^ i = 0) (ha1 : a < 18446744073709551616) (hb : b < 2 ^ i) (hi : i ≤ 64) : Go.bits .or .u64 (a : Int) (b : Int) = ((a + b : Nat) : Int) := by
  have h1 : (a : Int) % 2 ^ i = 0 := by
    have : ((a % 2 ^ i : Nat) : Int) = 0 := by rw [ha]; rfl
    rw [Int.natCast_emod, Int.natCast_pow] at this
    exact this
  have h2 : (b : Int) < 2 ^ i := by
    have : ((b : Nat) : Int) < ((2 ^ i : Nat) : Int) := by exact_mod_cast hb
    rw [Int.natCast_pow] at this
    exact this
  rw [u64_or i _ _ (Int.natCast_nonneg a) h1 (by omega) (Int.natCast_nonneg b) h2 hi]
  rfl
theorem or_nat' (i a b : Nat) (ha : a % 2 ^ i = 0) (ha1 : a < 18446744073709551616) (hb : b < 2 ^ i) (hi : i ≤ 64) : Go.bits .or .u64 (b : Int) (a : Int) = ((a + b : Nat) : Int) := by
  have := pow_le64 i hi
  rw [u64_or_comm _ _ (Int.natCast_nonneg b) (by omega) (Int.natCast_nonneg a) (by omega)]
  exact or_nat i a b ha ha1 hb hi
theorem down_up (H L n : Nat) (hH : H < 18446744073709551616) (hL : L < 18446744073709551616) (hn : n ≤ 128) :
    ∃ x y : Int, addr_Down.f (H : Int) (L : Int) (128 - (n : Int)) = some (x, y) ∧ addr_Up.f x y (128 - (n : Int)) = some (((clipN H L n).1 : Int), ((clipN H L n).2 : Int)) := by
  by_cases h64 : n ≤ 64
  · refine ⟨0, (H : Int) / 2 ^ (64 - n), down_far (H : Int) (L : Int) _ (64 - n) (by omega) (by omega) (by omega), ?_⟩
    have e : wrap64 (128 - (n : Int) - 64) = ((64 - n : Nat) : Int) := by unfold wrap64; omega
    have hd : ((H : Int) / 2 ^ (64 - n)) * 2 ^ (64 - n) = ((H / 2 ^ (64 - n) * 2 ^ (64 - n) : Nat) : Int) := by rw [Int.natCast_mul, Int.natCast_ediv, Int.natCast_pow]; rfl
    have hlt := div_mul_lt H (2 ^ (64 - n)) hH
    unfold addr_Up.f clipN
    rw [if_neg (by omega), if_pos (by omega), e, if_pos (by omega), shl64 _ (64 - n) (by omega) _ rfl, hd, if_pos h64]
    simp only
    rw [Int.emod_eq_of_lt (by omega) (by omega)]
    rfl
  · by_cases h128 : n = 128
    · subst h128
      refine ⟨H, L, by unfold addr_Down.f; rw [if_pos (by omega)], ?_⟩
      unfold addr_Up.f clipN
      rw [if_pos (by omega), if_neg h64]
      simp
    · obtain ⟨s, hs⟩ : ∃ s, n + s = 128 := ⟨128 - n, by omega⟩
      have es : 128 - (n : Int) = (s : Int) := by omega
      have hDE : 2 ^ s * 2 ^ (64 - s) = 18446744073709551616 := by rw [← Nat.pow_add, show s + (64 - s) = 64 by omega]
      have hD0 : 0 < 2 ^ s := Nat.two_pow_pos s
      have hE0 : 0 < 2 ^ (64 - s) := Nat.two_pow_pos _
      have hm : (H * 2 ^ (64 - s)) % 18446744073709551616 = (H % 2 ^ s) * 2 ^ (64 - s) := by rw [← hDE, Nat.mul_mod_mul_right]
      have hLD : L / 2 ^ s < 2 ^ (64 - s) := by
        apply Nat.div_lt_of_lt_mul
        rw [hDE]; exact hL
      have hHD : H % 2 ^ s < 2 ^ s := Nat.mod_lt _ hD0
      have hprod : (H % 2 ^ s) * 2 ^ (64 - s) + 2 ^ (64 - s) ≤ 18446744073709551616 := by
        rw [← hDE, ← Nat.succ_mul]
        exact Nat.mul_le_mul_right _ hHD
      have hy : Go.bits .or .u64 ((L : Int) / 2 ^ s) (((H : Int) * 2 ^ (64 - s)) % 18446744073709551616) = (((H % 2 ^ s) * 2 ^ (64 - s) + L / 2 ^ s : Nat) : Int) := by
        have c1 : ((L : Int) / 2 ^ s) = ((L / 2 ^ s : Nat) : Int) := by rw [Int.natCast_ediv, Int.natCast_pow]; rfl
        have c2 : (((H : Int) * 2 ^ (64 - s)) % 18446744073709551616) = (((H % 2 ^ s) * 2 ^ (64 - s) : Nat) : Int) := by
          rw [← hm, Int.natCast_emod, Int.natCast_mul, Int.natCast_pow]; rfl
        rw [c1, c2]
        exact or_nat' (64 - s) _ _ (Nat.mul_mod_left _ _) (by omega) hLD (by omega)
      refine ⟨(H : Int) / 2 ^ s, (((H % 2 ^ s) * 2 ^ (64 - s) + L / 2 ^ s : Nat) : Int), ?_, ?_⟩
      · rw [down_near (H : Int) (L : Int) _ s es (by omega) (by omega), hy]
      · have e : wrap64 (64 - (s : Int)) = ((64 - s : Nat) : Int) := by unfold wrap64; omega
        have hHd := div_mul_lt H (2 ^ s) hH
        have hLd := div_mul_lt L (2 ^ s) hL
        have a1 : ((H : Int) / 2 ^ s * 2 ^ s) % 18446744073709551616 = ((H / 2 ^ s * 2 ^ s : Nat) : Int) := by
          have : (H : Int) / 2 ^ s * 2 ^ s = ((H / 2 ^ s * 2 ^ s : Nat) : Int) := by push_cast; rfl
          rw [this, Int.emod_eq_of_lt (by omega) (by omega)]
        have a2 : ((((H % 2 ^ s) * 2 ^ (64 - s) + L / 2 ^ s : Nat) : Int) / 2 ^ (64 - s)) = ((H % 2 ^ s : Nat) : Int) := by
          have : (((H % 2 ^ s) * 2 ^ (64 - s) + L / 2 ^ s : Nat) : Int) / 2 ^ (64 - s) = ((((H % 2 ^ s) * 2 ^ (64 - s) + L / 2 ^ s) / 2 ^ (64 - s) : Nat) : Int) := by push_cast; rfl
          rw [this, Nat.add_comm, Nat.add_mul_div_right _ _ hE0, Nat.div_eq_of_lt hLD, Nat.zero_add]
        have a3 : ((((H % 2 ^ s) * 2 ^ (64 - s) + L / 2 ^ s : Nat) : Int) * 2 ^ s) % 18446744073709551616 = ((L / 2 ^ s * 2 ^ s : Nat) : Int) := by
          have c : (((H % 2 ^ s) * 2 ^ (64 - s) + L / 2 ^ s : Nat) : Int) * 2 ^ s = (((((H % 2 ^ s) * 2 ^ (64 - s) + L / 2 ^ s) * 2 ^ s : Nat)) : Int) := by push_cast; rfl
          have d : ((H % 2 ^ s) * 2 ^ (64 - s) + L / 2 ^ s) * 2 ^ s = L / 2 ^ s * 2 ^ s + 18446744073709551616 * (H % 2 ^ s) := by
            rw [Nat.add_mul, Nat.mul_assoc, Nat.mul_comm (2 ^ (64 - s)), hDE, Nat.mul_comm (H % 2 ^ s)]; omega
          rw [c, d]
          have : (((L / 2 ^ s * 2 ^ s + 18446744073709551616 * (H % 2 ^ s) : Nat)) : Int) % 18446744073709551616 = (((L / 2 ^ s * 2 ^ s + 18446744073709551616 * (H % 2 ^ s)) % 18446744073709551616 : Nat) : Int) := by rw [Int.natCast_emod]; rfl
          rw [this, Nat.add_mul_mod_self_left, Nat.mod_eq_of_lt hLd]
        have hor : Go.bits .or .u64 ((H / 2 ^ s * 2 ^ s : Nat) : Int) ((H % 2 ^ s : Nat) : Int) = (H : Int) := by
          rw [or_nat s _ _ (Nat.mul_mod_left _ _) hHd hHD (by omega)]
          have := Nat.div_add_mod H (2 ^ s)
          rw [Nat.mul_comm] at this
          omega
        unfold addr_Up.f clipN
        rw [es, if_neg (by omega), if_neg (by omega), if_pos (by omega), e, if_pos (by omega), shl64 _ s (by omega) _ rfl, shr64 _ (64 - s) (by omega) _ rfl, shl64 _ s (by omega) _ rfl, a1, a2, a3, hor, if_neg h64, show 128 - n = s by omega]

theorem u64_and1 (x : Nat) (h : x < 18446744073709551616) : Go.bits .and .u64 (x : Int) 1 = ((x % 2 : Nat) : Int) := by
  have := bits_mask .u64 64 (by decide) wraps_u64 1 (by decide) (x : Int) (by omega) (by omega)
  rw [show (2 : Int) ^ 1 - 1 = 1 from rfl] at this
  rw [this]
  omega
theorem half_step (H D : Nat) : H / D * D = H / (2 * D) * (2 * D) + (H / D % 2) * D := by
  have e : H / (2 * D) = H / D / 2 := by rw [Nat.mul_comm, Nat.div_div_eq_div_mul]
  have q := Nat.div_add_mod (H / D) 2
  rw [e]
  calc H / D * D = (2 * (H / D / 2) + H / D % 2) * D := by rw [q]
    _ = H / D / 2 * (2 * D) + H / D % 2 * D := by rw [Nat.add_mul, Nat.mul_comm 2 (H / D / 2), Nat.mul_assoc]
theorem clip_step (H L i : Nat) (hL : L < 18446744073709551616) (hi : i < 128) :
    clipN H L (i + 1) = if i < 64 then ((clipN H L i).1 + (H / 2 ^ (63 - i) % 2) * 2 ^ (63 - i), (clipN H L i).2) else ((clipN H L i).1, (clipN H L i).2 + (L / 2 ^ (127 - i) % 2) * 2 ^ (127 - i)) := by
  by_cases h : i < 64
  · rw [if_pos h]
    unfold clipN
    rw [if_pos (by omega), if_pos (by omega)]
    have hs := half_step H (2 ^ (63 - i))
    have e : 2 * 2 ^ (63 - i) = 2 ^ (64 - i) := by rw [show 64 - i = (63 - i) + 1 by omega, Nat.pow_succ, Nat.mul_comm]
    rw [e] at hs
    rw [show 64 - (i + 1) = 63 - i by omega, hs]
  · rw [if_neg h]
    have hs := half_step L (2 ^ (127 - i))
    have e : 2 * 2 ^ (127 - i) = 2 ^ (128 - i) := by rw [show 128 - i = (127 - i) + 1 by omega, Nat.pow_succ, Nat.mul_comm]
    rw [e] at hs
    by_cases h64 : i = 64
    · subst h64
      unfold clipN
      rw [if_neg (by omega), if_pos (by omega), show 128 - (64 + 1) = 127 - 64 by omega, hs]
      have : L / 2 ^ (128 - 64) = 0 := Nat.div_eq_of_lt hL
      rw [this]
      simp
    · unfold clipN
      rw [if_neg (by omega), if_neg (by omega), show 128 - (i + 1) = 127 - i by omega, hs]
theorem clip_lt (H L i : Nat) (hH : H < 18446744073709551616) (hL : L < 18446744073709551616) : (clipN H L i).1 < 18446744073709551616 ∧ (clipN H L i).2 < 18446744073709551616 := by
  unfold clipN
  split
  · exact ⟨div_mul_lt _ _ hH, show 0 < 18446744073709551616 by decide⟩
  · exact ⟨hH, div_mul_lt _ _ hL⟩
theorem wrap_cnt (x : Int) (j : Nat) (h : x = (j : Int)) (hj : j ≤ 200) : IntKind.u64.wrap (wrap64 x) = (j : Int) := by
  subst h
  rw [w64_id _ (by omega) (by omega), wrap_u64]; omega
theorem bit_at (H L i : Nat) (hH : H < 18446744073709551616) (hL : L < 18446744073709551616) (hi : i < 128) :
    tenancyref01_bit.f (H : Int) (L : Int) (i : Int) = some (((if i < 64 then H / 2 ^ (63 - i) % 2 else L / 2 ^ (127 - i) % 2 : Nat)) : Int) := by
  unfold tenancyref01_bit.f
  by_cases h : i < 64
  · rw [if_pos (by omega), wrap_cnt (63 - (i : Int)) (63 - i) (by omega) (by omega), if_pos (by omega), shr64 _ (63 - i) (by omega) _ rfl, if_pos h]
    have c : ((H : Int) / 2 ^ (63 - i)) = ((H / 2 ^ (63 - i) : Nat) : Int) := by rw [Int.natCast_ediv, Int.natCast_pow]; rfl
    rw [c, u64_and1 _ (Nat.lt_of_le_of_lt (Nat.div_le_self _ _) hH)]
  · rw [if_neg (by omega), wrap_cnt (127 - (i : Int)) (127 - i) (by omega) (by omega), if_pos (by omega), shr64 _ (127 - i) (by omega) _ rfl, if_neg h]
    have c : ((L : Int) / 2 ^ (127 - i)) = ((L / 2 ^ (127 - i) : Nat) : Int) := by rw [Int.natCast_ediv, Int.natCast_pow]; rfl
    rw [c, u64_and1 _ (Nat.lt_of_le_of_lt (Nat.div_le_self _ _) hL)]
theorem shl_one (j : Nat) (hj : j < 64) : shl .u64 1 (j : Int) = ((2 ^ j : Nat) : Int) := by
  have h := pow_le64 j (by omega)
  have h2 : 2 ^ j < 18446744073709551616 := Nat.lt_of_lt_of_le (Nat.pow_lt_pow_right (by decide) hj) (by decide)
  rw [shl64 _ j (by omega) _ rfl, Int.one_mul]
  have : (2 : Int) ^ j = ((2 ^ j : Nat) : Int) := by rw [Int.natCast_pow]; rfl
  have h3 : ((2 ^ j : Nat) : Int) < 18446744073709551616 := Int.lt_of_lt_of_le (Int.ofNat_lt.2 h2) (Int.le_of_eq rfl)
  rw [this, Int.emod_eq_of_lt (Int.natCast_nonneg _) h3]
theorem with_at (H L i : Nat) (hH : H < 18446744073709551616) (hL : L < 18446744073709551616) (hi : i < 128) :
    tenancyref01_with.f ((clipN H L i).1 : Int) ((clipN H L i).2 : Int) (i : Int) = some (((if i < 64 then (clipN H L i).1 + 2 ^ (63 - i) else (clipN H L i).1 : Nat) : Int), ((if i < 64 then (clipN H L i).2 else (clipN H L i).2 + 2 ^ (127 - i) : Nat) : Int)) := by
  obtain ⟨b1, b2⟩ := clip_lt H L i hH hL
  unfold tenancyref01_with.f
  by_cases h : i < 64
  · rw [if_pos (by omega), wrap_cnt (63 - (i : Int)) (63 - i) (by omega) (by omega), if_pos (by omega), shl_one _ (by omega), if_pos h, if_pos h]
    have hm : (clipN H L i).1 % 2 ^ (64 - i) = 0 := by
      unfold clipN
      rw [if_pos (by omega)]
      exact Nat.mul_mod_left _ _
    rw [or_nat (64 - i) _ _ hm b1 (Nat.pow_lt_pow_right (by decide) (by omega)) (by omega)]
  · rw [if_neg (by omega), wrap_cnt (127 - (i : Int)) (127 - i) (by omega) (by omega), if_pos (by omega), shl_one _ (by omega), if_neg h, if_neg h]
    have hm : (clipN H L i).2 % 2 ^ (128 - i) = 0 := by
      unfold clipN
      split
      · simp
      · exact Nat.mul_mod_left _ _
    rw [or_nat (128 - i) _ _ hm b2 (Nat.pow_lt_pow_right (by decide) (by omega)) (by omega)]
theorem clip_go (H L n : Nat) (hH : H < 18446744073709551616) (hL : L < 18446744073709551616) (hn : n ≤ 128) : ∀ (m i k : Nat), i + m = n → m + 1 ≤ k →
    tenancyref01_Clip.l0 k (n : Int) (i : Int) (H : Int) (L : Int) ((clipN H L i).1 : Int) ((clipN H L i).2 : Int) = some (((clipN H L n).1 : Int), ((clipN H L n).2 : Int), (n : Int), true)
  | m, i, 0, hi, hk => by omega
  | 0, i, k + 1, hi, hk => by
    obtain rfl : i = n := by omega
    rw [tenancyref01_Clip.l0, if_neg (by omega)]
  | m + 1, i, k + 1, hi, hk => by
    have ih := clip_go H L n hH hL hn m (i + 1) k (by omega) (by omega)
    have ew : wrap64 ((i : Int) + 1) = ((i + 1 : Nat) : Int) := by rw [w64_id _ (by omega) (by omega)]; omega
    have hs := clip_step H L i hL (by omega)
    rw [tenancyref01_Clip.l0, if_pos (by omega), bit_at H L i hH hL (by omega), Option.bind_some, ew]
    by_cases h : i < 64
    · rw [if_pos h] at hs ⊢
      have hb : H / 2 ^ (63 - i) % 2 = 0 ∨ H / 2 ^ (63 - i) % 2 = 1 := by omega
      rcases hb with hb | hb
      · rw [hb] at hs ⊢
        rw [if_neg (by decide)]
        rw [hs] at ih
        simpa using ih
      · rw [hb] at hs ⊢
        rw [if_pos (by decide), with_at H L i hH hL (by omega), Option.bind_some, if_pos h, if_pos h]
        rw [hs, Nat.one_mul] at ih
        exact ih
    · rw [if_neg h] at hs ⊢
      have hb : L / 2 ^ (127 - i) % 2 = 0 ∨ L / 2 ^ (127 - i) % 2 = 1 := by omega
      rcases hb with hb | hb
      · rw [hb] at hs ⊢
        rw [if_neg (by decide)]
        rw [hs] at ih
        simpa using ih
      · rw [hb] at hs ⊢
        rw [if_pos (by decide), with_at H L i hH hL (by omega), Option.bind_some, if_neg h, if_neg h]
        rw [hs, Nat.one_mul] at ih
        exact ih
/-- The program's Sound and the reference's. -/
theorem sound_same (hi lo n : Int) (h0 : 0 ≤ hi) (h1 : hi < 18446744073709551616) (h2 : 0 ≤ lo) (h3 : lo < 18446744073709551616) (hn0 : -9223372036854775808 ≤ n) (hn1 : n ≤ 9223372036854775807) (k k' : Nat) (hk : 1 ≤ k) (hk' : 200 ≤ k') :
    tenancyref01_Sound.f k' hi lo n = addr_Sound.f k hi lo n := by
  obtain ⟨H, rfl⟩ := Int.eq_ofNat_of_zero_le h0
  obtain ⟨L, rfl⟩ := Int.eq_ofNat_of_zero_le h2
  obtain ⟨k, rfl⟩ : ∃ j, k = j + 1 := ⟨k - 1, by omega⟩
  obtain ⟨k', rfl⟩ : ∃ j, k' = j + 1 := ⟨k' - 1, by omega⟩
  unfold tenancyref01_Sound.f addr_Sound.f tenancyref01_Clip.f addr_Clip.f
  by_cases hneg : n < 0
  · rw [if_pos hneg, if_pos hneg, tenancyref01_Clip.j0, if_pos rfl, addr_Clip.j0, if_pos rfl]
  · rw [if_neg hneg, if_neg hneg]
    by_cases hb : n > 128
    · rw [decide_eq_true hb, tenancyref01_Clip.j0, if_pos rfl, addr_Clip.j0, if_pos rfl]
    · obtain ⟨N, rfl⟩ := Int.eq_ofNat_of_zero_le (show 0 ≤ n by omega)
      obtain ⟨x, y, e1, e2⟩ := down_up H L N (by omega) (by omega) (by omega)
      have hg := clip_go H L N (by omega) (by omega) (by omega) N 0 k' (by omega) (by omega)
      have c0 : clipN H L 0 = (0, 0) := by
        unfold clipN
        rw [if_pos (by decide), Nat.div_eq_of_lt (show H < 2 ^ (64 - 0) by omega)]
      rw [c0] at hg
      rw [decide_eq_false hb, tenancyref01_Clip.j0, if_neg (by decide), addr_Clip.j0, if_neg (by decide), w64_id _ (by omega) (by omega), e1, Option.bind_some]
      simp only
      rw [e2, Option.bind_some]
      have hg' : tenancyref01_Clip.l0 k' (N : Int) 0 (H : Int) (L : Int) 0 0 = some (((clipN H L N).1 : Int), ((clipN H L N).2 : Int), (N : Int), true) := hg
      rw [hg']
end Go.Proofs.YtmegbllhidkmoaaGreat.Tb

/- The reference's Cmp, bit by bit, is the program's. -/
namespace Go.Proofs.YtmegbllhidkmoaaGreat.Tb
open Go.RowKit Go.Lib Go.Proofs.YtmegbllhidkmoaaGreatW.PrintWords Go.Proofs.YtmegbllhidkmoaaGreatW.PrintLast Go.Proofs.YtmegbllhidkmoaaGreatW.PrintMore
set_option linter.unusedVariables false
theorem cmpA_below {h l h' l' : Int} (hlt : h < h' ∨ h = h' ∧ l < l') : cmpA h l h' l' = -1 := by
  unfold cmpA cmpI
  rcases hlt with h1 | ⟨h1, h2⟩
  · rw [if_pos h1]; simp [orI]
  · subst h1; rw [if_neg (by omega), if_neg (by omega), if_pos h2]; simp [orI]
theorem cmpA_above {h l h' l' : Int} (hlt : h' < h ∨ h' = h ∧ l' < l) : cmpA h l h' l' = 1 := by
  unfold cmpA cmpI
  rcases hlt with h1 | ⟨h1, h2⟩
  · rw [if_neg (by omega), if_pos h1]; simp [orI]
  · subst h1; rw [if_neg (by omega), if_neg (by omega), if_neg (by omega), if_pos h2]; simp [orI]
theorem cmpA_equal (h l : Int) : cmpA h l h l = 0 := by
  unfold cmpA cmpI
  rw [if_neg (by omega), if_neg (by omega), if_neg (by omega), if_neg (by omega)]; simp [orI]
/-- The highest i bits are the same. -/
structure Pre (H L H' L' i : Nat) : Prop where
  near : i ≤ 64 → H / 2 ^ (64 - i) = H' / 2 ^ (64 - i)
  far : 64 ≤ i → H = H' ∧ L / 2 ^ (128 - i) = L' / 2 ^ (128 - i)
def bitN (H L i : Nat) : Nat := if i < 64 then H / 2 ^ (63 - i) % 2 else L / 2 ^ (127 - i) % 2
theorem half_div (X i : Nat) : X / 2 ^ (i + 1) = X / 2 ^ i / 2 := by rw [Nat.pow_succ, ← Nat.div_div_eq_div_mul]
theorem lt_of_div {a b : Nat} (k : Nat) (h : a / k < b / k) : a < b := Nat.lt_of_not_le fun hle => by
  have := Nat.div_le_div_right (c := k) hle
  omega
theorem pre_next {H L H' L' i : Nat} (hL : L < 18446744073709551616) (hL' : L' < 18446744073709551616) (hi : i < 128) (h : Pre H L H' L' i) :
    (bitN H L i < bitN H' L' i → H < H' ∨ H = H' ∧ L < L') ∧ (bitN H' L' i < bitN H L i → H' < H ∨ H' = H ∧ L' < L) ∧ (bitN H L i = bitN H' L' i → Pre H L H' L' (i + 1)) := by
  by_cases h64 : i < 64
  · have e := h.near (by omega)
    rw [show 64 - i = (63 - i) + 1 by omega, half_div, half_div] at e
    unfold bitN
    rw [if_pos h64, if_pos h64]
    refine ⟨fun hb => .inl ?_, fun hb => .inl ?_, fun hb => ?_⟩
    · exact lt_of_div (2 ^ (63 - i)) (by omega)
    · exact lt_of_div (2 ^ (63 - i)) (by omega)
    · have hx : H / 2 ^ (63 - i) = H' / 2 ^ (63 - i) := by omega
      refine ⟨fun _ => by rw [show 64 - (i + 1) = 63 - i by omega]; exact hx, fun h1 => ?_⟩
      obtain rfl : i = 63 := by omega
      rw [show 63 - 63 = 0 by omega, Nat.pow_zero, Nat.div_one, Nat.div_one] at hx
      refine ⟨hx, ?_⟩
      rw [show 128 - (63 + 1) = 64 by omega, Nat.div_eq_of_lt (by omega), Nat.div_eq_of_lt (by omega)]
  · obtain ⟨eH, eL⟩ := h.far (by omega)
    rw [show 128 - i = (127 - i) + 1 by omega, half_div, half_div] at eL
    unfold bitN
    rw [if_neg h64, if_neg h64]
    refine ⟨fun hb => .inr ⟨eH, ?_⟩, fun hb => .inr ⟨eH.symm, ?_⟩, fun hb => ?_⟩
    · exact lt_of_div (2 ^ (127 - i)) (by omega)
    · exact lt_of_div (2 ^ (127 - i)) (by omega)
    · refine ⟨fun h1 => absurd h1 (by omega), fun _ => ⟨eH, ?_⟩⟩
      rw [show 128 - (i + 1) = 127 - i by omega]
      omega
theorem cmp_go (H L H' L' : Nat) (hH : H < 18446744073709551616) (hL : L < 18446744073709551616) (hH' : H' < 18446744073709551616) (hL' : L' < 18446744073709551616) : ∀ (m i k : Nat), i + m = 128 → m + 1 ≤ k → Pre H L H' L' i →
    tenancyref01_Cmp.l0 k (i : Int) (H : Int) (L : Int) (H' : Int) (L' : Int) = some (cmpA H L H' L')
  | m, i, 0, hi, hk, hp => by omega
  | 0, i, k + 1, hi, hk, hp => by
    obtain rfl : i = 128 := by omega
    obtain ⟨rfl, e⟩ := hp.far (by omega)
    rw [show 128 - 128 = 0 by omega, Nat.pow_zero, Nat.div_one, Nat.div_one] at e
    subst e
    rw [tenancyref01_Cmp.l0, if_neg (by omega), cmpA_equal]
  | m + 1, i, k + 1, hi, hk, hp => by
    obtain ⟨h1, h2, h3⟩ := pre_next hL hL' (by omega) hp
    have b1 : tenancyref01_bit.f (H : Int) (L : Int) (i : Int) = some ((bitN H L i : Nat) : Int) := bit_at H L i hH hL (by omega)
    have b2 : tenancyref01_bit.f (H' : Int) (L' : Int) (i : Int) = some ((bitN H' L' i : Nat) : Int) := bit_at H' L' i hH' hL' (by omega)
    have ew : wrap64 ((i : Int) + 1) = ((i + 1 : Nat) : Int) := by rw [w64_id _ (by omega) (by omega)]; omega
    rw [tenancyref01_Cmp.l0, if_pos (by omega), b1, Option.bind_some, b2, Option.bind_some]
    by_cases hlt : bitN H L i < bitN H' L' i
    · rw [if_pos (by omega), cmpA_below (by have := h1 hlt; omega)]
    · rw [if_neg (by omega), Option.bind_some, Option.bind_some]
      by_cases hgt : bitN H' L' i < bitN H L i
      · rw [if_pos (by omega), cmpA_above (by have := h2 hgt; omega)]
      · rw [if_neg (by omega), ew]
        exact cmp_go H L H' L' hH hL hH' hL' m (i + 1) k (by omega) (by omega) (h3 (by omega))
theorem refCmp (h l h' l' : Int) (h0 : 0 ≤ h ∧ h < 18446744073709551616) (l0 : 0 ≤ l ∧ l < 18446744073709551616) (h0' : 0 ≤ h' ∧ h' < 18446744073709551616) (l0' : 0 ≤ l' ∧ l' < 18446744073709551616) (k : Nat) (hk : 200 ≤ k) :
    tenancyref01_Cmp.f k h l h' l' = some (cmpA h l h' l') := by
  obtain ⟨H, rfl⟩ := Int.eq_ofNat_of_zero_le h0.1
  obtain ⟨L, rfl⟩ := Int.eq_ofNat_of_zero_le l0.1
  obtain ⟨H', rfl⟩ := Int.eq_ofNat_of_zero_le h0'.1
  obtain ⟨L', rfl⟩ := Int.eq_ofNat_of_zero_le l0'.1
  refine cmp_go H L H' L' (by omega) (by omega) (by omega) (by omega) 128 0 k (by omega) (by omega) ⟨fun _ => ?_, fun h => by omega⟩
  rw [Nat.div_eq_of_lt (show H < 2 ^ (64 - 0) by omega), Nat.div_eq_of_lt (show H' < 2 ^ (64 - 0) by omega)]
end Go.Proofs.YtmegbllhidkmoaaGreat.Tb

/- The reference's Has, Covers, Meets are the program's. -/
namespace Go.Proofs.YtmegbllhidkmoaaGreat.Tb
open Go.RowKit Go.Lib Go.Proofs.YtmegbllhidkmoaaGreatW.PrintWords Go.Proofs.YtmegbllhidkmoaaGreatW.PrintLast Go.Proofs.YtmegbllhidkmoaaGreatW.PrintMore
set_option linter.unusedVariables false
/-- An address as one number. -/
def vN (H L : Nat) : Nat := H * 18446744073709551616 + L
theorem v_inj {H L H' L' : Nat} (hL : L < 18446744073709551616) (hL' : L' < 18446744073709551616) : vN H L = vN H' L' ↔ H = H' ∧ L = L' := by
  unfold vN; omega
theorem near_v (T H L n : Nat) (hT : T = 2 ^ 64) (hL : L < T) (hn : n ≤ 64) : H / 2 ^ (64 - n) * 2 ^ (64 - n) * T + 0 = (H * T + L) / 2 ^ (128 - n) * 2 ^ (128 - n) := by
  have e : 2 ^ (128 - n) = T * 2 ^ (64 - n) := by rw [hT, ← Nat.pow_add, show 64 + (64 - n) = 128 - n by omega]
  have hT0 : 0 < T := by omega
  have q : (H * T + L) / T = H := by rw [Nat.add_comm, Nat.add_mul_div_right _ _ hT0, Nat.div_eq_of_lt hL, Nat.zero_add]
  rw [e, ← Nat.div_div_eq_div_mul, q, Nat.add_zero, Nat.mul_comm T, Nat.mul_assoc]
theorem far_v (T H L n : Nat) (hT : T = 2 ^ 64) (hn : 64 < n) (hn' : n ≤ 128) : H * T + L / 2 ^ (128 - n) * 2 ^ (128 - n) = (H * T + L) / 2 ^ (128 - n) * 2 ^ (128 - n) := by
  have e : T = 2 ^ (n - 64) * 2 ^ (128 - n) := by rw [hT, ← Nat.pow_add, show n - 64 + (128 - n) = 64 by omega]
  have hD : 0 < 2 ^ (128 - n) := Nat.two_pow_pos _
  generalize 2 ^ (128 - n) = D at e hD ⊢
  subst e
  have q : (H * (2 ^ (n - 64) * D) + L) / D = H * 2 ^ (n - 64) + L / D := by
    rw [← Nat.mul_assoc, Nat.add_comm, Nat.add_mul_div_right _ _ hD, Nat.add_comm]
  rw [q, Nat.add_mul, Nat.mul_assoc]
theorem clip_v (H L n : Nat) (hL : L < 18446744073709551616) (hn : n ≤ 128) : vN (clipN H L n).1 (clipN H L n).2 = vN H L / 2 ^ (128 - n) * 2 ^ (128 - n) := by
  have hT : 18446744073709551616 = 2 ^ 64 := by decide
  unfold clipN vN
  by_cases h : n ≤ 64
  · rw [if_pos h]
    exact near_v _ H L n hT hL h
  · rw [if_neg h]
    exact far_v _ H L n hT (by omega) hn
/-- Whether (H, L) is cut to n bits. -/
def cutB (H L n : Nat) : Bool := decide (vN H L / 2 ^ (128 - n) * 2 ^ (128 - n) = vN H L)
theorem clip_is (A B H L n : Nat) (hB : B < 18446744073709551616) (hA : A < 18446744073709551616) (hL : L < 18446744073709551616) (hn : n ≤ 128) :
    (((clipN A B n).1 : Int) == (H : Int) && (((clipN A B n).2 : Int) == (L : Int))) = decide (vN A B / 2 ^ (128 - n) * 2 ^ (128 - n) = vN H L) := by
  rw [← clip_v A B n hB hn, Bool.eq_iff_iff, decide_eq_true_eq, v_inj (clip_lt A B n hA hB).2 hL]
  simp only [Bool.and_eq_true, beq_iff_eq]
  omega
theorem refClip (A B n k : Nat) (hA : A < 18446744073709551616) (hB : B < 18446744073709551616) (hn : n ≤ 128) (hk : 200 ≤ k) : tenancyref01_Clip.f k (A : Int) (B : Int) (n : Int) = some (((clipN A B n).1 : Int), ((clipN A B n).2 : Int), (n : Int), true) := by
  obtain ⟨k, rfl⟩ : ∃ j, k = j + 1 := ⟨k - 1, by omega⟩
  unfold tenancyref01_Clip.f
  have hg := clip_go A B n hA hB hn n 0 k (by omega) (by omega)
  have c0 : clipN A B 0 = (0, 0) := by
    unfold clipN
    rw [if_pos (by decide), Nat.div_eq_of_lt (show A < 2 ^ (64 - 0) by omega)]
  rw [c0] at hg
  rw [if_neg (by omega), decide_eq_false (by omega), tenancyref01_Clip.j0, if_neg (by decide)]
  exact hg
theorem refSound (H L n k : Nat) (hH : H < 18446744073709551616) (hL : L < 18446744073709551616) (hn : n ≤ 128) (hk : 200 ≤ k) : tenancyref01_Sound.f k (H : Int) (L : Int) (n : Int) = some (cutB H L n) := by
  unfold tenancyref01_Sound.f
  rw [refClip H L n k hH hL hn hk, Option.bind_some]
  simp only [if_true, beq_self_eq_true, Bool.and_true]
  rw [clip_is H L H L n hL hH hL hn]; rfl
theorem refHas (H L n A B k : Nat) (hH : H < 18446744073709551616) (hL : L < 18446744073709551616) (hA : A < 18446744073709551616) (hB : B < 18446744073709551616) (hn : n ≤ 128) (hk : 200 ≤ k) :
    tenancyref01_Has.f k (H : Int) (L : Int) (n : Int) (A : Int) (B : Int) = some (cutB H L n && decide (vN A B / 2 ^ (128 - n) * 2 ^ (128 - n) = vN H L)) := by
  unfold tenancyref01_Has.f
  rw [refClip A B n k hA hB hn hk, Option.bind_some, refSound H L n k hH hL hn hk, Option.bind_some]
  cases hc : cutB H L n with
  | false => simp
  | true =>
    simp only [if_true, beq_self_eq_true, Bool.and_true, Bool.true_and]
    rw [clip_is A B H L n hB hA hL hn]
theorem refCovers (H L n A B m k : Nat) (hH : H < 18446744073709551616) (hL : L < 18446744073709551616) (hA : A < 18446744073709551616) (hB : B < 18446744073709551616) (hn : n ≤ 128) (hm : m ≤ 128) (hk : 200 ≤ k) :
    tenancyref01_Covers.f k (H : Int) (L : Int) (n : Int) (A : Int) (B : Int) (m : Int) = some (cutB A B m && (decide (n ≤ m) && (cutB H L n && decide (vN A B / 2 ^ (128 - n) * 2 ^ (128 - n) = vN H L)))) := by
  unfold tenancyref01_Covers.f
  rw [refSound A B m k hA hB hm hk, Option.bind_some]
  cases hc : cutB A B m with
  | false => simp
  | true =>
    rw [if_pos rfl]
    by_cases h : n ≤ m
    · rw [if_pos (by omega), refHas H L n A B k hH hL hA hB hn hk, Option.bind_some, decide_eq_true h]; simp
    · rw [if_neg (by omega), decide_eq_false h]; simp
end Go.Proofs.YtmegbllhidkmoaaGreat.Tb

/- The program's Sound and Span in numbers. -/
namespace Go.Proofs.YtmegbllhidkmoaaGreat.Tb
open Go.RowKit Go.Lib Go.Proofs.YtmegbllhidkmoaaGreatW.PrintWords Go.Proofs.YtmegbllhidkmoaaGreatW.PrintLast Go.Proofs.YtmegbllhidkmoaaGreatW.PrintMore
set_option linter.unusedVariables false
theorem progSound (H L n k : Nat) (hH : H < 18446744073709551616) (hL : L < 18446744073709551616) (hn : n ≤ 128) (hk : 1 ≤ k) : addr_Sound.f k (H : Int) (L : Int) (n : Int) = some (cutB H L n) := by
  rw [← sound_same (H : Int) (L : Int) (n : Int) (by omega) (by omega) (by omega) (by omega) (by omega) (by omega) k 200 hk (by omega), refSound H L n 200 hH hL hn (by omega)]
theorem cut_eq {H L n : Nat} (hH : H < 18446744073709551616) (hL : L < 18446744073709551616) (hn : n ≤ 128) (hc : cutB H L n = true) : clipN H L n = (H, L) := by
  unfold cutB at hc
  rw [decide_eq_true_eq, ← clip_v H L n hL hn, v_inj (clip_lt H L n hH hL).2 hL] at hc
  exact Prod.ext hc.1 hc.2
theorem cut_near {H L n : Nat} (hH : H < 18446744073709551616) (hL : L < 18446744073709551616) (hn : n ≤ 64) (hc : cutB H L n = true) : L = 0 ∧ H % 2 ^ (64 - n) = 0 := by
  have := cut_eq hH hL (by omega) hc
  unfold clipN at this
  rw [if_pos hn] at this
  simp only [Prod.mk.injEq] at this
  refine ⟨this.2.symm, ?_⟩
  rw [← this.1]; exact Nat.mul_mod_left _ _
theorem cut_far {H L n : Nat} (hH : H < 18446744073709551616) (hL : L < 18446744073709551616) (hn : 64 < n) (hn' : n ≤ 128) (hc : cutB H L n = true) : L % 2 ^ (128 - n) = 0 := by
  have := cut_eq hH hL hn' hc
  unfold clipN at this
  rw [if_neg (by omega)] at this
  simp only [Prod.mk.injEq] at this
  rw [← this.2]; exact Nat.mul_mod_left _ _
theorem less_div (a b : Nat) (ha : 0 < a) (hb : 0 < b) : (a * b - 1) / b = a - 1 := by
  obtain ⟨a, rfl⟩ : ∃ x, a = x + 1 := ⟨a - 1, by omega⟩
  rw [show (a + 1) * b - 1 = (b - 1) + a * b by rw [Nat.add_mul]; omega, Nat.add_mul_div_right _ _ hb, Nat.div_eq_of_lt (by omega)]
  omega
theorem ones_div (T j : Nat) (hT : T = 2 ^ 64) (hj : j ≤ 64) : (T - 1) / 2 ^ j = 2 ^ (64 - j) - 1 := by
  have e : T = 2 ^ (64 - j) * 2 ^ j := by rw [hT, ← Nat.pow_add, show 64 - j + j = 64 by omega]
  rw [e]
  exact less_div _ _ (Nat.two_pow_pos _) (Nat.two_pow_pos _)
theorem onesI (j : Nat) (hj : j ≤ 64) : (18446744073709551615 : Int) / 2 ^ j = ((2 ^ (64 - j) - 1 : Nat) : Int) := by
  have h := ones_div 18446744073709551616 j (by decide) hj
  rw [← h, Int.natCast_ediv, Int.natCast_pow]; rfl
theorem two_le (j : Nat) (hj : j ≤ 64) : 0 < 2 ^ j ∧ 2 ^ j ≤ 18446744073709551616 := ⟨Nat.two_pow_pos j, pow_le64 j hj⟩
theorem or_zero (b : Nat) (hb : b < 18446744073709551616) : Go.bits .or .u64 ((0 : Nat) : Int) (b : Int) = (b : Int) := by
  have h := or_nat 64 0 b (by decide) (by decide) (by omega) (by decide)
  rw [Nat.zero_add] at h
  exact h
theorem or_none (a : Nat) (ha : a < 18446744073709551616) : Go.bits .or .u64 (a : Int) ((0 : Nat) : Int) = (a : Int) := by
  have h := or_nat 0 a 0 (by rw [Nat.pow_zero, Nat.mod_one]) ha (by decide) (by decide)
  rw [Nat.add_zero] at h
  exact h
theorem high_ones (T n : Nat) (hT : T = 2 ^ 64) (h0 : 0 < n) (hn : n ≤ 64) : ((T - 1) * 2 ^ (64 - n)) % T = T - 2 ^ (64 - n) ∧ (T - 2 ^ (64 - n)) % 2 ^ (64 - n) = 0 ∧ 2 ^ (64 - n) < T := by
  have e : T = 2 ^ n * 2 ^ (64 - n) := by rw [hT, ← Nat.pow_add, show n + (64 - n) = 64 by omega]
  have h2 : 2 ≤ 2 ^ n := Nat.le_trans (show 2 ≤ 2 ^ 1 by decide) (Nat.pow_le_pow_right (by decide) h0)
  have hx := Nat.two_pow_pos (64 - n)
  generalize 2 ^ (64 - n) = x at e hx ⊢
  generalize 2 ^ n = y at e h2
  have hlt : x < T := by
    rw [e]
    have := Nat.mul_le_mul_right x h2
    omega
  obtain ⟨x', rfl⟩ : ∃ x', x = x' + 1 := ⟨x - 1, by omega⟩
  obtain ⟨y', rfl⟩ : ∃ y', y = y' + 1 := ⟨y - 1, by omega⟩
  refine ⟨?_, ?_, hlt⟩
  · have e2 : (T - 1) * (x' + 1) = T - (x' + 1) + T * x' := by
      have h3 : (T - 1) * (x' + 1) = T * (x' + 1) - (x' + 1) := by rw [Nat.sub_mul, Nat.one_mul]
      rw [h3, Nat.mul_add, Nat.mul_one]
      omega
    rw [e2, Nat.add_mul_mod_self_left, Nat.mod_eq_of_lt (by omega)]
  · rw [e, Nat.add_mul, Nat.one_mul, Nat.add_sub_cancel]
    exact Nat.mul_mod_left _ _
theorem span_v (H L n k : Nat) (hH : H < 18446744073709551616) (hL : L < 18446744073709551616) (hn : n ≤ 128) (hk : 1 ≤ k) (hc : cutB H L n = true) :
    ∃ E F : Nat, addr_Span.f k (H : Int) (L : Int) (n : Int) = some ((H : Int), (L : Int), (E : Int), (F : Int)) ∧ E < 18446744073709551616 ∧ F < 18446744073709551616 ∧ vN E F + 1 = vN H L + 2 ^ (128 - n) := by
  unfold addr_Span.f
  rw [progSound H L n k hH hL hn hk, hc, Option.bind_some, if_pos rfl]
  by_cases h0 : n = 0
  · subst h0
    obtain ⟨rfl, h2⟩ := cut_near hH hL (by omega) hc
    obtain rfl : H = 0 := by rw [Nat.mod_eq_of_lt (show H < 2 ^ (64 - 0) by omega)] at h2; exact h2
    have hd : addr_Down.f 18446744073709551615 18446744073709551615 ((0 : Nat) : Int) = some (18446744073709551615, 18446744073709551615) := by unfold addr_Down.f; rw [if_pos (by omega)]
    refine ⟨18446744073709551615, 18446744073709551615, ?_, by decide, by decide, by decide⟩
    rw [hd, Option.bind_some]
    have h := or_zero 18446744073709551615 (by decide)
    simp only
    rw [show (18446744073709551615 : Int) = ((18446744073709551615 : Nat) : Int) from rfl, h]
  · by_cases h64 : n < 64
    · obtain ⟨rfl, h2⟩ := cut_near hH hL (by omega) hc
      obtain ⟨m1, m2, m3⟩ := high_ones 18446744073709551616 n (by decide) (by omega) (by omega)
      have hpos := Nat.two_pow_pos (64 - n)
      have hT : 2 ^ (128 - n) = 2 ^ (64 - n) * 18446744073709551616 := by
        have := Nat.pow_add 2 (64 - n) 64
        rw [show 64 - n + 64 = 128 - n by omega] at this
        exact this
      have hhi : (18446744073709551615 * 2 ^ (64 - n)) % 18446744073709551616 = ((18446744073709551616 - 2 ^ (64 - n) : Nat) : Int) := by
        rw [← m1, Int.natCast_emod, Int.natCast_mul, Int.natCast_pow]; rfl
      have hHb : H + 2 ^ (64 - n) ≤ 18446744073709551616 := by
        obtain ⟨t, ht⟩ := Nat.dvd_of_mod_eq_zero h2
        obtain ⟨u, hu⟩ : ∃ u, 18446744073709551616 = 2 ^ (64 - n) * u := ⟨2 ^ n, by
          have := Nat.pow_add 2 (64 - n) n
          rw [show 64 - n + n = 64 by omega] at this
          exact this⟩
        have htu : t < u := by
          apply Nat.lt_of_mul_lt_mul_left (a := 2 ^ (64 - n))
          omega
        have := Nat.mul_le_mul_left (2 ^ (64 - n)) (show t + 1 ≤ u from htu)
        rw [Nat.mul_add, Nat.mul_one] at this
        omega
      rw [down_near _ _ _ n rfl (by omega) h64, onesI n (by omega), hhi, Option.bind_some]
      simp only
      rw [or_nat' (64 - n) _ _ m2 (by omega) (by omega) (by omega), or_nat (64 - n) H _ h2 hH (by omega) (by omega)]
      refine ⟨H + (2 ^ (64 - n) - 1), 18446744073709551616 - 2 ^ (64 - n) + (2 ^ (64 - n) - 1), ?_, by omega, by omega, ?_⟩
      · have h := or_zero (18446744073709551616 - 2 ^ (64 - n) + (2 ^ (64 - n) - 1)) (by omega)
        rw [h]
      · rw [hT]
        unfold vN
        omega
    · have hb : L % 2 ^ (128 - n) = 0 := by
        by_cases h : n = 64
        · rw [(cut_near hH hL (by omega) hc).1]; exact Nat.zero_mod _
        · exact cut_far hH hL (by omega) hn hc
      have hpos := Nat.two_pow_pos (128 - n)
      have hle : 2 ^ (128 - n) ≤ 18446744073709551616 := pow_le64 _ (by omega)
      have hLb : L + 2 ^ (128 - n) ≤ 18446744073709551616 := by
        obtain ⟨t, ht⟩ := Nat.dvd_of_mod_eq_zero hb
        obtain ⟨u, hu⟩ : ∃ u, 18446744073709551616 = 2 ^ (128 - n) * u := ⟨2 ^ (n - 64), by
          have := Nat.pow_add 2 (128 - n) (n - 64)
          rw [show 128 - n + (n - 64) = 64 by omega] at this
          exact this⟩
        have htu : t < u := by
          apply Nat.lt_of_mul_lt_mul_left (a := 2 ^ (128 - n))
          omega
        have := Nat.mul_le_mul_left (2 ^ (128 - n)) (show t + 1 ≤ u from htu)
        rw [Nat.mul_add, Nat.mul_one] at this
        omega
      rw [down_far _ _ _ (n - 64) (by omega) (by omega) (by omega), onesI (n - 64) (by omega), Option.bind_some]
      simp only
      rw [show 64 - (n - 64) = 128 - n by omega, or_nat (128 - n) L _ hb hL (by omega) (by omega)]
      refine ⟨H, L + (2 ^ (128 - n) - 1), ?_, hH, by omega, ?_⟩
      · have h := or_none H hH
        rw [show (0 : Int) = ((0 : Nat) : Int) from rfl, h]
      · unfold vN; omega
end Go.Proofs.YtmegbllhidkmoaaGreat.Tb

/- The program's Has and Covers are the reference's. -/
namespace Go.Proofs.YtmegbllhidkmoaaGreat.Tb
open Go.RowKit Go.Lib Go.Proofs.YtmegbllhidkmoaaGreatW.PrintWords Go.Proofs.YtmegbllhidkmoaaGreatW.PrintLast Go.Proofs.YtmegbllhidkmoaaGreatW.PrintMore
set_option linter.unusedVariables false
theorem cmpA_v (A B C D : Nat) (hB : B < 18446744073709551616) (hD : D < 18446744073709551616) : cmpA (A : Int) (B : Int) (C : Int) (D : Int) ≤ 0 ↔ vN A B ≤ vN C D := by
  unfold vN
  rcases Nat.lt_trichotomy A C with h | h | h
  · rw [cmpA_below (.inl (by omega))]; omega
  · subst h
    rcases Nat.lt_trichotomy B D with h | h | h
    · rw [cmpA_below (.inr ⟨rfl, by omega⟩)]; omega
    · subst h; rw [cmpA_equal]; omega
    · rw [cmpA_above (.inr ⟨rfl, by omega⟩)]; omega
  · rw [cmpA_above (.inl (by omega))]; omega
theorem floor_is {D P X : Nat} (hD : 0 < D) (hP : P / D * D = P) : X / D * D = P ↔ P ≤ X ∧ X + 1 ≤ P + D := by
  have h1 := Nat.div_add_mod X D
  have h2 := Nat.mod_lt X hD
  rw [Nat.mul_comm] at h1
  constructor
  · intro h; omega
  · rintro ⟨h3, h4⟩
    have h5 : X / D = P / D := by
      apply Nat.div_eq_of_lt_le
      · omega
      · rw [Nat.add_mul, Nat.one_mul]; omega
    rw [h5, hP]
theorem progHas (H L n A B k : Nat) (hH : H < 18446744073709551616) (hL : L < 18446744073709551616) (hA : A < 18446744073709551616) (hB : B < 18446744073709551616) (hn : n ≤ 128) :
    addr_Has.f (k + 3) (H : Int) (L : Int) (n : Int) (A : Int) (B : Int) = some (cutB H L n && decide (vN A B / 2 ^ (128 - n) * 2 ^ (128 - n) = vN H L)) := by
  unfold addr_Has.f
  cases hc : cutB H L n with
  | false =>
    obtain ⟨s, hs⟩ := span_total (k + 2) (H : Int) (L : Int) (n : Int)
    rw [hs, Option.bind_some, progSound H L n (k + 3) hH hL hn (by omega), hc, Option.bind_some, if_neg (by decide)]; rfl
  | true =>
    obtain ⟨E, F, hs, hE, hF, hv⟩ := span_v H L n (k + 3) hH hL hn (by omega) hc
    rw [hs, Option.bind_some, progSound H L n (k + 3) hH hL hn (by omega), hc, Option.bind_some, if_pos rfl, cmp_f, Option.bind_some]
    have hf := floor_is (X := vN A B) (Nat.two_pow_pos (128 - n)) (by unfold cutB at hc; exact of_decide_eq_true hc)
    have c1 := cmpA_v H L A B hL hB
    have c2 := cmpA_v A B E F hB hF
    by_cases h1 : vN H L ≤ vN A B
    · rw [if_pos (c1.2 h1), cmp_f, Option.bind_some, Bool.true_and]
      refine congrArg some ?_
      rw [Bool.eq_iff_iff, decide_eq_true_eq, decide_eq_true_eq, hf]
      simp only
      rw [c2]
      omega
    · rw [if_neg (fun h => h1 (c1.1 h)), Bool.true_and, decide_eq_false (fun h => h1 (hf.1 h).1)]
theorem inner_last {D Dm P Q t : Nat} (hD : D = Dm * t) (hm : 0 < Dm) (ht : 0 < t) (hP : P / D * D = P) (hQ : Q / Dm * Dm = Q) (h : Q / D * D = P) : Q + Dm ≤ P + D := by
  have hD0 : 0 < D := by rw [hD]; exact Nat.mul_pos hm ht
  have h1 := ((floor_is hD0 hP).1 h).2
  have e1 : P + D = (P / D * t + t) * Dm := by rw [Nat.add_mul, Nat.mul_assoc, Nat.mul_comm t, ← hD, hP]
  have h2 : Q / Dm < P / D * t + t := by
    apply Nat.lt_of_mul_lt_mul_right (a := Dm)
    rw [hQ, ← e1]; omega
  have h3 := Nat.mul_le_mul_right Dm (show Q / Dm + 1 ≤ P / D * t + t from h2)
  rw [Nat.add_mul, Nat.one_mul, hQ, ← e1] at h3
  exact h3
theorem progCovers (H L n A B m k : Nat) (hH : H < 18446744073709551616) (hL : L < 18446744073709551616) (hA : A < 18446744073709551616) (hB : B < 18446744073709551616) (hn : n ≤ 128) (hm : m ≤ 128) :
    addr_Covers.f (k + 3) (H : Int) (L : Int) (n : Int) (A : Int) (B : Int) (m : Int) = some (cutB A B m && (decide (n ≤ m) && (cutB H L n && decide (vN A B / 2 ^ (128 - n) * 2 ^ (128 - n) = vN H L)))) := by
  unfold addr_Covers.f
  cases hc : cutB A B m with
  | false =>
    obtain ⟨s, hs⟩ := span_total (k + 2) (A : Int) (B : Int) (m : Int)
    rw [hs, Option.bind_some, progSound A B m (k + 3) hA hB hm (by omega), hc, Option.bind_some, if_neg (by decide)]; rfl
  | true =>
    obtain ⟨E, F, hs, hE, hF, hv⟩ := span_v A B m (k + 3) hA hB hm (by omega) hc
    rw [hs, Option.bind_some, progSound A B m (k + 3) hA hB hm (by omega), hc, Option.bind_some, if_pos rfl]
    simp only
    rw [progHas H L n A B k hH hL hA hB hn, Option.bind_some]
    cases hp : cutB H L n with
    | false => simp
    | true =>
      have hP : vN H L / 2 ^ (128 - n) * 2 ^ (128 - n) = vN H L := by unfold cutB at hp; exact of_decide_eq_true hp
      have hQ : vN A B / 2 ^ (128 - m) * 2 ^ (128 - m) = vN A B := by unfold cutB at hc; exact of_decide_eq_true hc
      have hD := Nat.two_pow_pos (128 - n)
      have hDm := Nat.two_pow_pos (128 - m)
      by_cases h1 : vN A B / 2 ^ (128 - n) * 2 ^ (128 - n) = vN H L
      · rw [decide_eq_true h1]
        simp only [Bool.and_self, if_true, Bool.true_and, Bool.and_true]
        rw [progHas H L n E F k hH hL hE hF hn, hp, Option.bind_some, Bool.true_and]
        refine congrArg some ?_
        rw [Bool.eq_iff_iff, decide_eq_true_eq, decide_eq_true_eq, floor_is hD hP]
        have h2 := (floor_is hD hP).1 h1
        constructor
        · rintro ⟨h3, h4⟩
          refine Nat.le_of_not_lt fun hlt => ?_
          have h5 : 2 ^ (128 - n) < 2 ^ (128 - m) := Nat.pow_lt_pow_right (by decide) (by omega)
          omega
        · intro hle
          have e : 2 ^ (128 - n) = 2 ^ (128 - m) * 2 ^ (m - n) := by rw [← Nat.pow_add, show 128 - m + (m - n) = 128 - n by omega]
          have h3 := inner_last e hDm (Nat.two_pow_pos _) hP hQ h1
          omega
      · rw [decide_eq_false h1]
        simp
end Go.Proofs.YtmegbllhidkmoaaGreat.Tb

/- The reference's Sound and Covers of prefixes are the program's. -/
namespace Go.Proofs.YtmegbllhidkmoaaGreat.Tb
open Go.RowKit Go.Lib Go.Proofs.YtmegbllhidkmoaaGreatW.PrintWords Go.Proofs.YtmegbllhidkmoaaGreatW.PrintLast Go.Proofs.YtmegbllhidkmoaaGreatW.PrintMore
set_option linter.unusedVariables false
theorem wf_u64 {n : Int} (h : (Lit.int .u64 n).wf = true) : 0 ≤ n ∧ n < 18446744073709551616 := by
  have h1 : IntKind.u64.min ≤ n ∧ n ≤ IntKind.u64.max := by simpa [Lit.wf] using h
  have e1 : IntKind.u64.min = 0 := rfl
  have e2 : IntKind.u64.max = 18446744073709551615 := rfl
  omega
theorem wf_i64 {n : Int} (h : (Lit.int .i64 n).wf = true) : -9223372036854775808 ≤ n ∧ n ≤ 9223372036854775807 := by
  have h1 : IntKind.i64.min ≤ n ∧ n ≤ IntKind.i64.max := by simpa [Lit.wf] using h
  have e1 : IntKind.i64.min = -9223372036854775808 := rfl
  have e2 : IntKind.i64.max = 9223372036854775807 := rfl
  omega
theorem refSoundP (K : Key) (hk : K.ok) (k : Nat) (h : 200 ≤ k) : tenancyref01_Sound.f k K.hi K.lo K.bits = some (soundP K) ∧ (K.bits = 128 → soundP K = true) := by
  obtain ⟨h1, h2⟩ := wf_u64 hk.2.1
  obtain ⟨h3, h4⟩ := wf_u64 hk.2.2.1
  obtain ⟨h5, h6⟩ := wf_i64 hk.2.2.2
  obtain ⟨b, hb, _⟩ := sound_total 18 K.hi K.lo K.bits
  have e : soundP K = b := by unfold soundP; rw [hb]; rfl
  refine ⟨by rw [sound_same _ _ _ h1 h2 h3 h4 h5 h6 19 k (by omega) h, hb, e], fun h128 => ?_⟩
  obtain ⟨H, hH⟩ := Int.eq_ofNat_of_zero_le h1
  obtain ⟨L, hL⟩ := Int.eq_ofNat_of_zero_le h3
  have hp := progSound H L 128 19 (by omega) (by omega) (by omega) (by omega)
  have hc : cutB H L 128 = true := by
    unfold cutB
    rw [show 128 - 128 = 0 by omega, Nat.pow_zero, Nat.div_one, Nat.mul_one, decide_eq_true rfl]
  rw [e]
  rw [hH, hL, h128] at hb
  rw [hc] at hp
  exact Option.some.inj (hb.symm.trans hp)
theorem right_bits {K : Key} (h : rightB K = true) : 1 ≤ K.bits ∧ K.bits ≤ 128 := by
  unfold rightB at h
  split at h
  · simp only [Bool.and_eq_true, decide_eq_true_eq] at h; omega
  · split at h
    · simp only [decide_eq_true_eq] at h; omega
    · split at h
      · simp only [Bool.and_eq_true, decide_eq_true_eq] at h; omega
      · cases h
theorem refCoversP (a b : Key) (ha : a.ok) (hb : b.ok) (ra : rightB a = true) (rb : rightB b = true) (k : Nat) (h : 200 ≤ k) : tenancyref01_Covers.f k a.hi a.lo a.bits b.hi b.lo b.bits = some (coversP a b) := by
  obtain ⟨h1, h2⟩ := wf_u64 ha.2.1
  obtain ⟨h3, h4⟩ := wf_u64 ha.2.2.1
  obtain ⟨g1, g2⟩ := wf_u64 hb.2.1
  obtain ⟨g3, g4⟩ := wf_u64 hb.2.2.1
  obtain ⟨n1, n2⟩ := right_bits ra
  obtain ⟨m1, m2⟩ := right_bits rb
  obtain ⟨H, hH⟩ := Int.eq_ofNat_of_zero_le h1
  obtain ⟨L, hL⟩ := Int.eq_ofNat_of_zero_le h3
  obtain ⟨A, hA⟩ := Int.eq_ofNat_of_zero_le g1
  obtain ⟨B, hB⟩ := Int.eq_ofNat_of_zero_le g3
  obtain ⟨n, hn⟩ := Int.eq_ofNat_of_zero_le (show 0 ≤ a.bits by omega)
  obtain ⟨m, hm⟩ := Int.eq_ofNat_of_zero_le (show 0 ≤ b.bits by omega)
  have e1 : H < 18446744073709551616 := by omega
  have e2 : L < 18446744073709551616 := by omega
  have e3 : A < 18446744073709551616 := by omega
  have e4 : B < 18446744073709551616 := by omega
  have e5 : n ≤ 128 := by omega
  have e6 : m ≤ 128 := by omega
  unfold coversP
  rw [hH, hL, hA, hB, hn, hm, progCovers H L n A B m 16 e1 e2 e3 e4 e5 e6, refCovers H L n A B m k e1 e2 e3 e4 e5 e6 h, Option.getD_some]
theorem refMeetsP (a b : Key) (ha : a.ok) (hb : b.ok) (ra : rightB a = true) (rb : rightB b = true) (k : Nat) (h : 200 ≤ k) : tenancyref01_Meets.f k a.hi a.lo a.bits b.hi b.lo b.bits = some (coversP a b || coversP b a) := by
  unfold tenancyref01_Meets.f
  rw [refCoversP a b ha hb ra rb k h, Option.bind_some]
  cases coversP a b with
  | true => rfl
  | false => rw [if_neg (by decide), refCoversP b a hb ha rb ra k h]; rfl
end Go.Proofs.YtmegbllhidkmoaaGreat.Tb
