/- The reference's table in memory: All, Apply. -/
import Derived.Test.YtmegbllhidkmoaaGreatPe4
import Derived.Sort.Lot0
import Derived.Test.YtmegbllhidkmoaaGreatProg
import Derived.Shelf.SlSortCmp.HeapSortK
import Derived.KernelRfl
import Derived.WalkKit
import Derived.Lib.Hide
import Derived.Deep.DeepCutAuto
import Derived.Test.YtmegbllhidkmoaaGreatPe3
namespace Go.Proofs.YtmegbllhidkmoaaGreat.Tb
open Go.RowKit Go.Maps Go.Shelf
set_option linter.unusedVariables false
theorem flat_one {R : List Lease} : ∀ u ∈ R.flatMap Lease.cells, u.oneCell' = true := fun u hu => by
  obtain ⟨l, _, hl⟩ := List.mem_flatMap.1 hu
  exact lone l u hl
theorem append_leases {ops : Array Oper} {rest : List Oper} {o : Oper} {a : Act} {Q : Exit → Act → World → Prop} (hgd : o.guard = none) (s x : Operand)
    (ho : o.op = .call { callee := .builtin .append, args := #[s, x], argTypes := #[43, 43] }) (W : World) (B : Nat) (v : Value) (hs : a.eval s = v) (h : LeasesIs W B v []) (B' : Nat) (g n cap : Nat) (R : List Lease)
    (hx : a.eval x = .slice (some ⟨g, 0, none⟩) n cap) (hR : LeasesIs W B' (.slice (some ⟨g, 0, none⟩) n cap) R) (hlen : R.length ≤ 1000000000) (hB : B ≤ W.heap.size)
    (hk : ∀ v' w', LeasesIs w' B v' R → Kept (fun k => v.ownBlock = some k) W w' → wpList Tryz.prog ops Q rest (a.put o.dst v') w') :
    wpList Tryz.prog ops Q (o :: rest) a W := by
  obtain ⟨i0, hi0, hz0, hz1, hz2⟩ := info_parts info_lease
  obtain ⟨p, c, hv⟩ := leases_shape hR
  simp only [Value.slice.injEq] at hv
  obtain ⟨_, rfl, _⟩ := hv
  have hnews : ∀ j u, (R.flatMap Lease.cells)[j]? = some u → W.cell? ((⟨g, 0, none⟩ : Addr).add j) = some u := fun j u hj => by
    have hjl : j < R.length * 8 := by
      have := (List.getElem?_eq_some_iff.1 hj).1
      rwa [flat_length _ 8 lcells] at this
    have h1 : j / 8 < R.length := by omega
    obtain ⟨g', cap', hv', _, _, hc⟩ := leases_cell hR (j / 8) h1
    simp only [Value.slice.injEq, Option.some.injEq, Addr.mk.injEq] at hv'
    obtain ⟨⟨rfl, _⟩, _⟩ := hv'
    have h2 := (hc (j % 8) (Nat.mod_lt _ (by omega))).1
    have h3 := flat_idx Lease.cells 8 lcells (j % 8) (Nat.mod_lt _ (by omega)) R (j / 8) h1
    rw [Nat.div_add_mod'] at h3 h2
    rw [Addr.add_lit, Nat.zero_add, h2, ← h3, hj]
  refine wpList_append_own_at _ hgd s x 43 ho B 30 i0 _ 8 72 Tryz.underlying43 hi0 hz0 hz1 hz2 rfl (by omega) v 0 [] hs h ⟨g, 0, none⟩ R.length cap (R.flatMap Lease.cells) hx (flat_length _ 8 lcells R) hnews flat_one (by unfold maxLen; omega) (by omega) hB ?_
  intro v' w' hown hgrow _ _
  refine hk v' w' ?_ (Kept.grown (S := fun k => v.ownBlock = some k) hgrow (fun k hk => hk))
  unfold LeasesIs
  rw [Nat.zero_add, List.nil_append] at hown
  exact hown
set_option maxHeartbeats 800000 in
set_option maxRecDepth 100000 in
theorem rall_run (w : World) (bu B : Nat) (v : Value) (L : List Lease) (h : RTab w bu B v L) :
    Calls Tryz.prog 12 #[.pointer (some ⟨bu, 0, none⟩)] w fun e w' => ∃ v', e = .returned v' ∧ LeasesIs w' w.heap.size v' L ∧ Quiet w w' := by
  have hc := h.cell
  have hlen := h.len
  have HT := Aside1.mk h
  obtain ⟨p, c, rfl⟩ := leases_shape h.row
  have hq : Quiet w (w.alloc (.cells #[] 30)) := (Kept.refl _ w).alloc _
  have hE : LeasesIs (w.alloc (.cells #[] 30)) w.heap.size (.slice (some ⟨w.heap.size, 0, none⟩) 0 0) [] := leases_made [] (Nat.le_refl _) (new0 w _) (Nat.zero_le _)
  have hrow := h.row.old hq (fun _ _ h => h)
  have h' := h.row
  have hb := (Array.getElem?_eq_some_iff.1 h.blk).1
  obtain ⟨h1, h2⟩ := h'
  rcases h2 with ⟨hv, h0⟩ | ⟨g, cap, cur, hv, hg, hh, _⟩
  · simp only [Value.slice.injEq] at hv
    obtain ⟨rfl, h0', rfl⟩ := hv
    obtain rfl : L = [] := List.length_eq_zero_iff.1 h0'
    clear h hrow h1 h0 h0'
    have HE := Aside1.mk hE
    clear hE
    go_enter Tryz.func12, Tryz.ntmps12
    go_wp2_with fail
    go_ret
    exact ⟨_, rfl, HE.out, hq⟩
  · simp only [Value.slice.injEq, Option.some.injEq] at hv
    obtain ⟨rfl, _, rfl⟩ := hv
    have HE := Aside1.mk hE
    have HR := Aside1.mk hrow
    clear h hrow h1 hE hh
    go_enter Tryz.func12, Tryz.ntmps12
    go_wp2_with (at_builtin; (refine append_leases rfl _ _ rfl _ w.heap.size (.slice (some ⟨w.heap.size, 0, none⟩) 0 0) rfl HE.out B g _ c L rfl HR.out (by omega) (by simp) ?_; intro v' w' hl hk))
    go_ret
    exact ⟨_, rfl, hl, hq.andThen hk (fun i hi e => by have := (HE.out.lt e).1; omega)⟩
/-- All changes, or the first one's error. -/
def rapplyE : List Lease → List Change → Int
  | _, [] => 0
  | L, c :: cs => if oneE L c = 0 then rapplyE (changeL L c) cs else oneE L c
theorem one_sorted {L : List Lease} (h : Sorted L) (c : Change) : Sorted (changeL L c) := changeL_sorted h c
theorem one_oks {L : List Lease} (h : ∀ l ∈ L, l.ok) {c : Change} (hc : c.lease.ok) : ∀ l ∈ changeL L c, l.ok := by
  unfold changeL
  split
  · exact fun l hl => h l (mem_without.1 hl).1
  · intro l hl
    rcases mem_putL.1 hl with rfl | hl
    · exact hc
    · exact h l hl.1
theorem one_len {L : List Lease} (h : L.length ≤ 1024) {c : Change} (he : oneE L c = 0) : (changeL L c).length ≤ 1024 := by
  have hw : (without L c.lease.key).length ≤ L.length := List.length_filter_le _ _
  rcases oneE_ways L c with ⟨_, h1⟩ | ⟨_, ⟨h0, h1⟩ | ⟨h0, ⟨_, h1⟩ | ⟨_, ⟨_, h1⟩ | ⟨_, ⟨_, h1⟩ | ⟨h2, _⟩⟩⟩⟩⟩
  · rw [h1] at he; cases he
  · unfold changeL; rw [if_pos h0]; omega
  · rw [h1] at he; cases he
  · rw [h1] at he; cases he
  · rw [h1] at he; cases he
  · unfold changeL putL; rw [h0, if_neg Bool.false_ne_true, insertK_len]; omega
set_option maxHeartbeats 1600000 in
set_option maxRecDepth 100000 in
theorem rapply_run (w : World) (bu B : Nat) (v : Value) (L : List Lease) (h : RTab w bu B v L) (hB : B ≤ w.heap.size) (vc : Value) (cs : List Change) (hc : ChangesAt w vc cs) :
    Calls Tryz.prog 8 #[.pointer (some ⟨bu, 0, none⟩), vc] w fun e w' => e = .returned (.int .i64 (rapplyE L cs)) ∧ Kept (fun k => k = bu) w w' ∧
      (rapplyE L cs ≠ 0 → RTab w' bu B v L ∧ Quiet w w') ∧ (rapplyE L cs = 0 → ∃ v', RTab w' bu B v' (applyL L cs) ∧ ∀ k, v'.ownBlock = some k → v.ownBlock = some k ∨ w.heap.size ≤ k) := by
  have hc0 := h.cell
  have HT := Aside1.mk h
  have hl := (Array.getElem?_eq_some_iff.1 h.blk).1
  obtain ⟨p, cap, rfl, hn, hm, hcell, hoks⟩ := hc
  have HX := Aside1.mk hcell
  have HO := Aside1.mk hoks
  have hcs : (cs.length : Int) ≤ 9223372036854775807 := by unfold maxLen at hm; omega
  obtain ⟨pv, cv, hv⟩ := leases_shape h.row
  subst hv
  clear h hcell hoks
  go_enter Tryz.func8, Tryz.ntmps8
  go_wp2_with fail
  go_loopw [5, 6] (fun v5 v6 wr => ∃ (j : Nat) (Lj : List Lease), v6 = .int .i64 j ∧ j ≤ cs.length ∧ Aside1 (LeasesIs wr B v5 Lj ∧ (∀ l ∈ Lj, l.ok) ∧ Sorted Lj ∧ Lj.length ≤ 1024 ∧ ∀ k, v5.ownBlock = some k → (Value.slice pv L.length cv).ownBlock = some k ∨ w.heap.size ≤ k) ∧ Aside1 (rapplyE Lj (cs.drop j) = rapplyE L cs ∧ applyL Lj (cs.drop j) = applyL L cs) ∧ Aside1 (Quiet w wr)) (fun _ v6 _ => cs.length - (RowKit.intOf v6).toNat)
  case atStart => exact ⟨0, L, rfl, Nat.zero_le _, ⟨HT.out.row, HT.out.oks, HT.out.sorted, HT.out.len, fun k hk => .inl hk⟩, ⟨rfl, rfl⟩, ⟨Kept.refl _ _⟩⟩
  case round =>
    obtain ⟨j, Lj, rfl, hj, HJ, HA, HQ⟩ := hrel
    by_cases hlt : j < cs.length
    · have hij : (j : Int) < (cs.length : Int) := by omega
      obtain ⟨g, off, hp, hcc⟩ := HX.out j hlt
      subst hp
      have hok := HO.out _ (List.getElem_mem hlt)
      have hstep := HA.out
      rw [List.drop_eq_getElem_cons hlt] at hstep
      simp only [rapplyE, applyL] at hstep
      obtain ⟨c, HC⟩ : ∃ x, Aside1 (cs[j] = x) := ⟨_, ⟨rfl⟩⟩
      rw [HC.out] at hcc hok hstep
      have hone := fun W (hq : Quiet wr W) => rone_run W B u5 Lj (HJ.out.1.old hq (fun _ _ h => h)) (by have := HJ.out.2.2.2.1; omega) c hok HJ.out.2.1
      have HON := Aside1.mk (hone wr (Kept.refl _ _))
      have HST := Aside1.mk hstep
      have HOK := Aside1.mk (fun he : oneE Lj c = 0 => And.intro (one_oks HJ.out.2.1 hok) (And.intro (one_sorted HJ.out.2.2.1 c) (one_len HJ.out.2.2.2.1 he)))
      clear hone hstep hok
      have a0 := HQ.out.cell (hcc 0 (by omega)) (fun h => h)
      have a1 := HQ.out.cell (hcc 1 (by omega)) (fun h => h)
      have a2 := HQ.out.cell (hcc 2 (by omega)) (fun h => h)
      have a3 := HQ.out.cell (hcc 3 (by omega)) (fun h => h)
      have a4 := HQ.out.cell (hcc 4 (by omega)) (fun h => h)
      have a5 := HQ.out.cell (hcc 5 (by omega)) (fun h => h)
      have a6 := HQ.out.cell (hcc 6 (by omega)) (fun h => h)
      have a7 := HQ.out.cell (hcc 7 (by omega)) (fun h => h)
      have a8 := HQ.out.cell (hcc 8 (by omega)) (fun h => h)
      simp only [Nat.add_zero] at a0
      generalize changeL Lj c = Ln at HON HST HOK
      generalize oneE Lj c = r at HON HST HOK
      obtain ⟨gn, ⟨⟨lk, lh, ll, lb⟩, s, cl, ia, ti⟩⟩ := c
      simp only [Change.val] at *
      clear hcc HX
      go_wp2_with (go_at_call 22; refine HON.out.mono ?_; rintro e w2 ⟨v2, rfl, hl2, hq2⟩)
      all_goals
        have hq := HQ.out.andThen hq2 (fun _ _ h => h)
      · rename_i hne
        have hne' : ¬ r = 0 := by simpa using hne
        have hst := HST.out.1
        rw [if_neg hne'] at hst
        rw [← hst]
        go_ret
        exact ⟨rfl, hq.mono (fun _ h => h.elim), (fun _ => ⟨HT.out.quiet hq, hq⟩), fun h => absurd h hne'⟩
      · rename_i hne
        have hne' : r = 0 := by simpa using hne
        have hst := HST.out.1
        rw [if_pos hne'] at hst
        obtain ⟨k1, k2, k3⟩ := HOK.out hne'
        have hr2 := hl2 hne'
        have hsz := HQ.out.size
        exact ⟨⟨j + 1, Ln, by rw [Int.natCast_add]; rfl, hlt, ⟨hr2.mono (by omega), k1, k2, k3, fun k hk => .inr (by have := (hr2.lt hk).1; omega)⟩, ⟨hst, HST.out.2⟩, ⟨hq⟩⟩, by simp [RowKit.intOf]; omega⟩
    · have hje : ¬ (j : Int) < (cs.length : Int) := by omega
      obtain rfl : j = cs.length := by omega
      have hd := HA.out
      rw [List.drop_length] at hd
      simp only [rapplyE, applyL] at hd
      have HD := Aside1.mk hd
      clear hd HA
      obtain ⟨p5, c5, hv5⟩ := leases_shape HJ.out.1
      subst hv5
      have hb := blk HT.out.blk HQ.out
      have z0 := (cell_of hb 0).1
      have f0 := (cell_of hb 0).2
      simp only [List.getElem?_toArray, List.getElem?_cons_zero] at z0
      clear HX
      go_wp2_with fail
      go_ret
      have hk : Kept (fun k => k = bu) w (wr.setCell ⟨bu, 0, none⟩ (.slice p5 Lj.length c5)) := (HQ.out.mono (S' := fun k => k = bu) (fun _ h => h.elim)).setCell (p := ⟨bu, 0, none⟩) (fun _ => rfl) _
      have hne : ∀ k, (Value.slice p5 Lj.length c5).ownBlock = some k → k ≠ bu := fun k hk' e => by
        subst e
        rcases HJ.out.2.2.2.2 k hk' with h | h
        · exact HT.out.ne h
        · omega
      refine ⟨by rw [← HD.out.1]; rfl, hk, (fun h => absurd HD.out.1.symm h), fun _ => ⟨_, ⟨?_, ?_, ?_, ?_, ?_, ?_⟩, HJ.out.2.2.2.2⟩⟩
      · exact heap_setCell_same _ bu 0 #[_] _ _ hb
      · rw [← HD.out.2]
        exact HJ.out.1.old ((Kept.refl (fun k => k = bu) wr).setCell (p := ⟨bu, 0, none⟩) (fun _ => rfl) _) (fun k hk e => hne k hk e)
      · exact fun e => hne bu e rfl
      · rw [← HD.out.2]; exact HJ.out.2.1
      · rw [← HD.out.2]; exact HJ.out.2.2.1
      · rw [← HD.out.2]; exact HJ.out.2.2.2.1
end Go.Proofs.YtmegbllhidkmoaaGreat.Tb

/- Merging in place, as slices.SortStableFunc does it: the plain part. -/
namespace Go.Proofs.YtmegbllhidkmoaaGreat.Tb
open Go.Sort
set_option linter.unusedVariables false
section
variable {α : Type} [Inhabited α]

theorem arr_at {d : Array α} {L : List α} (h : d.toList = L) {i : Nat} (hi : i < L.length) : d[i]! = L[i] := by
  subst h
  rw [getElem!_pos d i (by simpa using hi)]; simp
theorem swp_toList (d : Array α) (i j : Nat) : (swp d i j).toList = (d.toList.set i d[j]!).set j d[i]! := by
  unfold swp; simp
theorem swp_list {d : Array α} {P M Q : List α} {x y : α} (h : d.toList = P ++ x :: (M ++ y :: Q)) : (swp d P.length (P.length + 1 + M.length)).toList = P ++ y :: (M ++ x :: Q) := by
  have h1 : d[P.length]! = x := by rw [arr_at h (by simp)]; simp
  have h2 : d[P.length + 1 + M.length]! = y := by
    rw [arr_at h (by simp; omega)]
    rw [List.getElem_append_right (by omega)]
    simp only [show P.length + 1 + M.length - P.length = M.length + 1 by omega, List.getElem_cons_succ]
    simp
  rw [swp_toList, h1, h2, h, List.set_append_right _ _ (Nat.le_refl _), Nat.sub_self, List.set_cons_zero]
  rw [List.set_append_right _ _ (by omega), show P.length + 1 + M.length - P.length = M.length + 1 by omega, List.set_cons_succ, List.set_append_right _ _ (Nat.le_refl _), Nat.sub_self, List.set_cons_zero]
theorem swp_comm {d : Array α} {i j : Nat} (h : i ≠ j) : swp d i j = swp d j i := by
  apply Array.toList_inj.1
  rw [swp_toList, swp_toList, List.set_comm _ _ h]
theorem swp_list' {d : Array α} {P M Q : List α} {x y : α} (h : d.toList = P ++ x :: (M ++ y :: Q)) : (swp d (P.length + 1 + M.length) P.length).toList = P ++ y :: (M ++ x :: Q) := by
  rw [swp_comm (by omega)]; exact swp_list h
/-- Neighbours. -/
theorem swp_next {d : Array α} {P Q : List α} {x y : α} {i : Nat} (h : d.toList = P ++ x :: y :: Q) (hi : i = P.length) : (swp d i (i + 1)).toList = P ++ y :: x :: Q := by
  subst hi; exact swp_list (M := []) h
theorem swp_prev {d : Array α} {P Q : List α} {x y : α} {i : Nat} (h : d.toList = P ++ x :: y :: Q) (hi : i = P.length) : (swp d (i + 1) i).toList = P ++ y :: x :: Q := by
  subst hi; exact swp_list' (M := []) h

/-- One exchange of a run of exchanges. -/
theorem swap_step {d : Array α} {X U M V Y : List α} {i p q : Nat} (hi : i < U.length) (hUV : U.length = V.length) (h : d.toList = X ++ (V.take i ++ (U.drop i ++ (M ++ (U.take i ++ (V.drop i ++ Y)))))) (hp : p = X.length + i) (hq : q = X.length + U.length + M.length + i) :
    (swp d p q).toList = X ++ (V.take (i + 1) ++ (U.drop (i + 1) ++ (M ++ (U.take (i + 1) ++ (V.drop (i + 1) ++ Y))))) := by
  have hi' : i < V.length := by omega
  rw [List.drop_eq_getElem_cons hi, List.drop_eq_getElem_cons hi'] at h
  have h' : d.toList = (X ++ V.take i) ++ U[i] :: ((U.drop (i + 1) ++ (M ++ U.take i)) ++ V[i] :: (V.drop (i + 1) ++ Y)) := by rw [h]; simp only [List.append_assoc, List.cons_append]
  have e1 : p = (X ++ V.take i).length := by rw [hp, List.length_append, List.length_take]; omega
  have e2 : q = (X ++ V.take i).length + 1 + (U.drop (i + 1) ++ (M ++ U.take i)).length := by
    rw [hq]; simp only [List.length_append, List.length_take, List.length_drop]; omega
  rw [e1, e2, swp_list h', List.take_succ_eq_append_getElem hi, List.take_succ_eq_append_getElem hi']
  simp only [List.append_assoc, List.cons_append, List.nil_append]
end
/-! the order: by cf, then by place -/
section
variable {α : Type}
variable (cf : α → α → Int) (bl : α → α → Prop)
def lt2 (x y : α) : Prop := cf x y < 0 ∨ ¬ cf y x < 0 ∧ bl x y
structure Ordered : Prop where
  swo : SWO (fun x y => decide (cf x y < 0))
  btrans : ∀ x y z, bl x y → bl y z → bl x z
variable {cf bl}
theorem Ordered.trans (O : Ordered cf bl) {x y z : α} (h : lt2 cf bl x y) (k : lt2 cf bl y z) : lt2 cf bl x z := by
  have nt : ∀ a b c, ¬ cf a b < 0 → ¬ cf b c < 0 → ¬ cf a c < 0 := fun a b c h1 h2 => by
    have := O.swo.ntrans a b c (decide_eq_false h1) (decide_eq_false h2)
    simpa using this
  rcases h with h | ⟨h, hb⟩
  · rcases k with k | ⟨k, kb⟩
    · exact .inl (by have := O.swo.trans x y z (decide_eq_true h) (decide_eq_true k); simpa using this)
    · refine .inl (Classical.byContradiction fun hn => ?_)
      exact nt x z y hn k h
  · rcases k with k | ⟨k, kb⟩
    · refine .inl (Classical.byContradiction fun hn => ?_)
      exact nt y x z h hn k
    · exact .inr ⟨nt z y x k h, O.btrans _ _ _ hb kb⟩
variable (cf bl) in
abbrev S2 (l : List α) : Prop := l.Pairwise (lt2 cf bl)
variable (bl) in
/-- All of A stood ahead of all of B. -/
def Ahead (A B : List α) : Prop := ∀ x ∈ A, ∀ y ∈ B, bl x y
theorem Ahead.perm {A B A' B' : List α} (h : Ahead bl A B) (ha : A'.Perm A) (hb : B'.Perm B) : Ahead bl A' B' := fun x hx y hy => h x (ha.mem_iff.1 hx) y (hb.mem_iff.1 hy)
theorem Ahead.sub {A B A' B' : List α} (h : Ahead bl A B) (ha : ∀ x ∈ A', x ∈ A) (hb : ∀ x ∈ B', x ∈ B) : Ahead bl A' B' := fun x hx y hy => h x (ha x hx) y (hb y hy)
theorem S2.last {A : List α} (h : S2 cf bl A) {z x : α} (hz : A.getLast? = some z) (hx : x ∈ A) : x = z ∨ lt2 cf bl x z := by
  obtain ⟨A', rfl⟩ := List.getLast?_eq_some_iff.1 hz
  rcases List.mem_append.1 hx with hx | hx
  · exact .inr ((List.pairwise_append.1 h).2.2 x hx z (by simp))
  · exact .inl (by simpa using hx)
theorem S2.head {A : List α} (h : S2 cf bl A) {z x : α} (hz : A.head? = some z) (hx : x ∈ A) : x = z ∨ lt2 cf bl z x := by
  cases A with
  | nil => cases hz
  | cons a A =>
    obtain rfl : a = z := by simpa using hz
    rcases List.mem_cons.1 hx with rfl | hx
    · exact .inl rfl
    · exact .inr ((List.pairwise_cons.1 h).1 x hx)
theorem last_of_mem {A : List α} {x : α} (h : x ∈ A) : ∃ z, A.getLast? = some z := by
  cases A with
  | nil => cases h
  | cons a A => exact ⟨_, List.getLast?_eq_some_getLast (by simp)⟩
theorem head_of_mem {A : List α} {x : α} (h : x ∈ A) : ∃ z, A.head? = some z := by
  cases A with
  | nil => cases h
  | cons a A => exact ⟨a, rfl⟩
/-- What the search of a merge finds parts both rows alike. -/
theorem merge_cross (O : Ordered cf bl) {A1 A2 B1 B2 : List α} (hA : S2 cf bl (A1 ++ A2)) (hB : S2 cf bl (B1 ++ B2)) (hx : Ahead bl (A1 ++ A2) (B1 ++ B2))
    (h1 : ∀ x y, A1.getLast? = some x → B2.head? = some y → ¬ cf y x < 0) (h2 : ∀ x y, A2.head? = some x → B1.getLast? = some y → cf y x < 0) : ∀ x ∈ A1 ++ B1, ∀ y ∈ A2 ++ B2, lt2 cf bl x y := by
  obtain ⟨a1, a2, a3⟩ := List.pairwise_append.1 hA
  obtain ⟨b1, b2, b3⟩ := List.pairwise_append.1 hB
  intro x hx1 y hy1
  rcases List.mem_append.1 hx1 with hx1 | hx1
  · rcases List.mem_append.1 hy1 with hy1 | hy1
    · exact a3 x hx1 y hy1
    · obtain ⟨z, hz⟩ := last_of_mem hx1
      obtain ⟨u, hu⟩ := head_of_mem hy1
      have hzu : lt2 cf bl z u := .inr ⟨h1 z u hz hu, hx z (List.mem_append_left _ (List.mem_of_getLast? hz)) u (List.mem_append_right _ (List.mem_of_head? hu))⟩
      have hxu : lt2 cf bl x u := by
        rcases S2.last a1 hz hx1 with rfl | h
        · exact hzu
        · exact O.trans h hzu
      rcases S2.head b2 hu hy1 with rfl | h
      · exact hxu
      · exact O.trans hxu h
  · rcases List.mem_append.1 hy1 with hy1 | hy1
    · obtain ⟨z, hz⟩ := head_of_mem hy1
      obtain ⟨u, hu⟩ := last_of_mem hx1
      have huz : lt2 cf bl u z := .inl (h2 z u hz hu)
      have hxz : lt2 cf bl x z := by
        rcases S2.last b1 hu hx1 with rfl | h
        · exact huz
        · exact O.trans h huz
      rcases S2.head a2 hz hy1 with rfl | h
      · exact hxz
      · exact O.trans hxz h
    · exact b3 x hx1 y hy1
theorem S2.sub {A B : List α} (h : S2 cf bl A) (hs : B.Sublist A) : S2 cf bl B := List.Pairwise.sublist hs h
/-- Both halves merged. -/
theorem merge_done (O : Ordered cf bl) {A1 A2 B1 B2 C1 C2 : List α} (hA : S2 cf bl (A1 ++ A2)) (hB : S2 cf bl (B1 ++ B2)) (hx : Ahead bl (A1 ++ A2) (B1 ++ B2))
    (h1 : ∀ x y, A1.getLast? = some x → B2.head? = some y → ¬ cf y x < 0) (h2 : ∀ x y, A2.head? = some x → B1.getLast? = some y → cf y x < 0)
    (p1 : C1.Perm (A1 ++ B1)) (p2 : C2.Perm (A2 ++ B2)) (s1 : S2 cf bl C1) (s2 : S2 cf bl C2) : S2 cf bl (C1 ++ C2) ∧ (C1 ++ C2).Perm ((A1 ++ A2) ++ (B1 ++ B2)) := by
  refine ⟨List.pairwise_append.2 ⟨s1, s2, fun x hx' y hy' => merge_cross O hA hB hx h1 h2 x (p1.mem_iff.1 hx') y (p2.mem_iff.1 hy')⟩, ?_⟩
  refine (p1.append p2).trans ?_
  rw [List.append_assoc, List.append_assoc]
  refine List.Perm.append_left A1 ?_
  rw [← List.append_assoc, ← List.append_assoc]
  exact List.Perm.append_right B2 (List.perm_append_comm)
/-- One element ahead of a row. -/
theorem insert_first (O : Ordered cf bl) {x : α} {B1 B2 : List α} (hB : S2 cf bl (B1 ++ B2)) (hx : Ahead bl [x] (B1 ++ B2)) (h1 : ∀ y, B2.head? = some y → ¬ cf y x < 0) (h2 : ∀ y, B1.getLast? = some y → cf y x < 0) :
    S2 cf bl (B1 ++ x :: B2) ∧ (B1 ++ x :: B2).Perm ([x] ++ (B1 ++ B2)) := by
  obtain ⟨b1, b2, b3⟩ := List.pairwise_append.1 hB
  have s2 : S2 cf bl (x :: B2) := by
    rw [S2, List.pairwise_cons]
    refine ⟨fun y hy => ?_, b2⟩
    obtain ⟨u, hu⟩ := head_of_mem hy
    have hxu : lt2 cf bl x u := .inr ⟨h1 u hu, hx x (by simp) u (List.mem_append_right _ (List.mem_of_head? hu))⟩
    rcases S2.head b2 hu hy with rfl | h
    · exact hxu
    · exact O.trans hxu h
  have := merge_done (A1 := []) (A2 := [x]) (B1 := B1) (B2 := B2) (C1 := B1) (C2 := x :: B2) O (by simp [S2]) hB hx (fun a b h _ => by cases h) (fun a b ha hb => by
    obtain rfl : x = a := by simpa using ha
    exact h2 b hb) (by simp) (by simp) b1 s2
  exact this
/-- One element behind a row. -/
theorem insert_last (O : Ordered cf bl) {y : α} {A1 A2 : List α} (hA : S2 cf bl (A1 ++ A2)) (hx : Ahead bl (A1 ++ A2) [y]) (h1 : ∀ x, A1.getLast? = some x → ¬ cf y x < 0) (h2 : ∀ x, A2.head? = some x → cf y x < 0) :
    S2 cf bl (A1 ++ y :: A2) ∧ (A1 ++ y :: A2).Perm ((A1 ++ A2) ++ [y]) := by
  obtain ⟨a1, a2, a3⟩ := List.pairwise_append.1 hA
  have s2 : S2 cf bl (y :: A2) := by
    rw [S2, List.pairwise_cons]
    refine ⟨fun x hx' => ?_, a2⟩
    obtain ⟨u, hu⟩ := head_of_mem hx'
    have hyu : lt2 cf bl y u := .inl (h2 u hu)
    rcases S2.head a2 hu hx' with rfl | h
    · exact hyu
    · exact O.trans hyu h
  refine ⟨List.pairwise_append.2 ⟨a1, s2, fun x hx' z hz => ?_⟩, ?_⟩
  · rcases List.mem_cons.1 hz with rfl | hz
    · obtain ⟨u, hu⟩ := last_of_mem hx'
      have huy : lt2 cf bl u z := .inr ⟨h1 u hu, hx u (List.mem_append_left _ (List.mem_of_getLast? hu)) z (by simp)⟩
      rcases S2.last a1 hu hx' with rfl | h
      · exact huy
      · exact O.trans h huy
    · exact a3 x hx' z hz
  · rw [List.append_assoc]
    exact List.Perm.append_left A1 (List.perm_append_comm (l₁ := [y]))

end
/-! where a merge's search has come to -/
section
variable {α : Type} [Inhabited α] {cf : α → α → Int} {bl : α → α → Prop}
theorem at_left {d : Array α} {X A Y : List α} (h : d.toList = X ++ (A ++ Y)) {c : Nat} (h1 : X.length ≤ c) (h2 : c < X.length + A.length) : d[c]! = A[c - X.length]'(by omega) := by
  have hl : c < (X ++ (A ++ Y)).length := by simp only [List.length_append]; omega
  rw [arr_at h hl, List.getElem_append_right h1, List.getElem_append_left (by omega)]
omit [Inhabited α] in
theorem last_take {A : List α} {t : Nat} {z : α} (ht : t ≤ A.length) (h : (A.take t).getLast? = some z) : 0 < t ∧ ∃ h' : t - 1 < A.length, A[t - 1] = z := by
  have h0 : 0 < t := by
    rcases Nat.eq_zero_or_pos t with rfl | h0
    · simp at h
    · exact h0
  refine ⟨h0, by omega, ?_⟩
  rw [List.getLast?_eq_getElem?, List.length_take, Nat.min_eq_left ht, List.getElem?_take_of_lt (by omega), List.getElem?_eq_getElem (by omega)] at h
  exact Option.some.inj h
omit [Inhabited α] in
theorem head_drop {A : List α} {t : Nat} {z : α} (h : (A.drop t).head? = some z) : ∃ h' : t < A.length, A[t] = z := by
  rw [List.head?_drop] at h
  obtain ⟨h1, h2⟩ := List.getElem?_eq_some_iff.1 h
  exact ⟨h1, h2⟩
theorem first_done (O : Ordered cf bl) {d : Array α} {X B Y : List α} {x : α} {i a m b : Nat} (h : d.toList = X ++ (x :: (B ++ Y))) (ha : X.length = a) (hm : a + 1 = m) (hb : m + B.length = b) (h1 : m ≤ i) (h2 : i ≤ b) (hB : S2 cf bl B) (hA : Ahead bl [x] B)
    (c1 : m < i → cf d[i - 1]! d[a]! < 0) (c2 : i < b → ¬ cf d[i]! d[a]! < 0) : S2 cf bl (B.take (i - m) ++ x :: B.drop (i - m)) ∧ (B.take (i - m) ++ x :: B.drop (i - m)).Perm ([x] ++ B) := by
  have hx : d[a]! = x := by
    have h' : d.toList = X ++ ([x] ++ (B ++ Y)) := h
    rw [at_left h' (by omega) (by simp; omega)]
    simp [ha]
  have hBB : d.toList = (X ++ [x]) ++ (B ++ Y) := by rw [h]; simp
  have hl : (X ++ [x]).length = m := by simp; omega
  have key := insert_first (x := x) (B1 := B.take (i - m)) (B2 := B.drop (i - m)) O (by rw [List.take_append_drop]; exact hB) (by rw [List.take_append_drop]; exact hA) (fun y hy => ?_) (fun y hy => ?_)
  · rw [List.take_append_drop] at key; exact key
  · obtain ⟨r1, r2⟩ := head_drop hy
    have := c2 (by omega)
    rw [hx, at_left hBB (by omega) (by omega)] at this
    simp only [hl] at this
    rw [r2] at this; exact this
  · obtain ⟨r0, r1, r2⟩ := last_take (by omega) hy
    have := c1 (by omega)
    rw [hx, at_left hBB (by omega) (by omega)] at this
    simp only [hl, show i - 1 - m = i - m - 1 by omega] at this
    rw [r2] at this; exact this
theorem last_done (O : Ordered cf bl) {d : Array α} {X A Y : List α} {y : α} {i a m : Nat} (h : d.toList = X ++ (A ++ (y :: Y))) (ha : X.length = a) (hm : a + A.length = m) (h1 : a ≤ i) (h2 : i ≤ m) (hA : S2 cf bl A) (hx : Ahead bl A [y])
    (c1 : a < i → ¬ cf d[m]! d[i - 1]! < 0) (c2 : i < m → cf d[m]! d[i]! < 0) : S2 cf bl (A.take (i - a) ++ y :: A.drop (i - a)) ∧ (A.take (i - a) ++ y :: A.drop (i - a)).Perm (A ++ [y]) := by
  have hy : d[m]! = y := by
    have h' : d.toList = (X ++ A) ++ ([y] ++ Y) := by rw [h]; simp
    rw [at_left h' (by simp; omega) (by simp; omega)]
    simp only [List.length_append, ha, hm, Nat.sub_self]
    rfl
  have key := insert_last (y := y) (A1 := A.take (i - a)) (A2 := A.drop (i - a)) O (by rw [List.take_append_drop]; exact hA) (by rw [List.take_append_drop]; exact hx) (fun x hx' => ?_) (fun x hx' => ?_)
  · rw [List.take_append_drop] at key; exact key
  · obtain ⟨r0, r1, r2⟩ := last_take (by omega) hx'
    have := c1 (by omega)
    rw [hy, at_left h (by omega) (by omega)] at this
    simp only [ha, show i - 1 - a = i - a - 1 by omega] at this
    rw [r2] at this; exact this
  · obtain ⟨r1, r2⟩ := head_drop hx'
    have := c2 (by omega)
    rw [hy, at_left h (by omega) (by omega)] at this
    simp only [ha] at this
    rw [r2] at this; exact this
/-- Where the search of a merge ends both rows are parted alike. -/
theorem gen_parts {d : Array α} {X A B Y : List α} {a m b mid s e s0 r0 : Nat} (h : d.toList = X ++ (A ++ (B ++ Y))) (ha : X.length = a) (hm : a + A.length = m) (hb : m + B.length = b) (hmid : mid = (a + b) / 2)
    (hs0 : s0 = if mid < m then mid + m - b else a) (hr0 : r0 = if mid < m then mid else m) (h1 : s0 ≤ s) (h2 : s ≤ r0) (he : e + s = mid + m)
    (c1 : s0 < s → ¬ cf d[mid + m - 1 - (s - 1)]! d[s - 1]! < 0) (c2 : s < r0 → cf d[mid + m - 1 - s]! d[s]! < 0) :
    (∀ x y, (A.take (s - a)).getLast? = some x → (B.drop (e - m)).head? = some y → ¬ cf y x < 0) ∧ (∀ x y, (A.drop (s - a)).head? = some x → (B.take (e - m)).getLast? = some y → cf y x < 0) := by
  have hBB : d.toList = (X ++ A) ++ (B ++ Y) := by rw [h]; simp
  have hl : (X ++ A).length = m := by simp; omega
  have hsa : a ≤ s := by
    by_cases hc : mid < m
    · rw [if_pos hc] at hs0; omega
    · rw [if_neg hc] at hs0; omega
  have hsm : s ≤ m := by
    by_cases hc : mid < m
    · rw [if_pos hc] at hr0; omega
    · rw [if_neg hc] at hr0; omega
  have heb : m ≤ e ∧ e ≤ b := by
    by_cases hc : mid < m
    · rw [if_pos hc] at hs0 hr0; omega
    · rw [if_neg hc] at hs0 hr0; omega
  refine ⟨fun x y hx hy => ?_, fun x y hx hy => ?_⟩
  · obtain ⟨r0', r1, r2⟩ := last_take (by omega) hx
    obtain ⟨q1, q2⟩ := head_drop hy
    have hlt : s0 < s := by
      by_cases hc : mid < m
      · rw [if_pos hc] at hs0; omega
      · rw [if_neg hc] at hs0; omega
    have := c1 hlt
    rw [show mid + m - 1 - (s - 1) = e by omega, at_left hBB (by omega) (by omega), at_left h (by omega) (by omega)] at this
    simp only [hl, ha, show s - 1 - a = s - a - 1 by omega] at this
    rw [r2, q2] at this; exact this
  · obtain ⟨q1, q2⟩ := head_drop hx
    obtain ⟨r0', r1, r2⟩ := last_take (by omega) hy
    have hlt : s < r0 := by
      by_cases hc : mid < m
      · rw [if_pos hc] at hr0; omega
      · rw [if_neg hc] at hr0; omega
    have := c2 hlt
    rw [show mid + m - 1 - s = e - 1 by omega, at_left hBB (by omega) (by omega), at_left h (by omega) (by omega)] at this
    simp only [hl, ha, show e - 1 - m = e - m - 1 by omega] at this
    rw [r2, q2] at this; exact this
theorem gen_split (O : Ordered cf bl) {d : Array α} {X A B Y : List α} {a m b mid s e s0 r0 p : Nat} (h : d.toList = X ++ (A ++ (B ++ Y))) (ha : X.length = a) (hm : a + A.length = m) (hb : m + B.length = b) (hA : S2 cf bl A) (hB : S2 cf bl B) (hx : Ahead bl A B) (h2a : 2 ≤ A.length) (h2b : 2 ≤ B.length) (hmid : mid = (a + b) / 2)
    (hs0 : s0 = if mid < m then mid + m - b else a) (hr0 : r0 = if mid < m then mid else m) (h1 : s0 ≤ s) (h2 : s ≤ r0) (he : e + s = mid + m) (hp : p + 1 = mid + m)
    (c1 : s0 < s → ¬ cf d[p - (s - 1)]! d[s - 1]! < 0) (c2 : s < r0 → cf d[p - s]! d[s]! < 0) :
    ∃ A1 A2 B1 B2, A = A1 ++ A2 ∧ B = B1 ++ B2 ∧ a + A1.length = s ∧ s + A2.length = m ∧ m + B1.length = e ∧ e + B2.length = b ∧ s ≤ mid ∧ m ≤ e ∧ mid < b ∧ a < mid ∧ a ≤ s ∧ s ≤ m ∧ e ≤ b ∧
      (∀ C1 C2 : List α, C1.Perm (A1 ++ B1) → C2.Perm (A2 ++ B2) → S2 cf bl C1 → S2 cf bl C2 → S2 cf bl (C1 ++ C2) ∧ (C1 ++ C2).Perm (A ++ B)) := by
  have hp' : p = mid + m - 1 := by omega
  rw [hp'] at c1 c2
  obtain ⟨g1, g2⟩ := gen_parts h ha hm hb hmid hs0 hr0 h1 h2 he c1 c2
  have b1 : a ≤ s ∧ s ≤ m ∧ m ≤ e ∧ e ≤ b := by
    by_cases hc : mid < m
    · rw [if_pos hc] at hs0 hr0; omega
    · rw [if_neg hc] at hs0 hr0; omega
  refine ⟨A.take (s - a), A.drop (s - a), B.take (e - m), B.drop (e - m), (List.take_append_drop _ _).symm, (List.take_append_drop _ _).symm, by rw [List.length_take]; omega, by rw [List.length_drop]; omega, by rw [List.length_take]; omega, by rw [List.length_drop]; omega, by omega, by omega, by omega, by omega, by omega, by omega, by omega, fun C1 C2 p1 p2 q1 q2 => ?_⟩
  have := merge_done (A1 := A.take (s - a)) (A2 := A.drop (s - a)) (B1 := B.take (e - m)) (B2 := B.drop (e - m)) O (by rw [List.take_append_drop]; exact hA) (by rw [List.take_append_drop]; exact hB) (by rw [List.take_append_drop, List.take_append_drop]; exact hx) g1 g2 p1 p2 q1 q2
  rwa [List.take_append_drop, List.take_append_drop] at this
end
/-! the insertion sort keeps places -/
section
variable {α : Type} [Inhabited α] {cf : α → α → Int} {bl : α → α → Prop}
theorem insInner_list (O : Ordered cf bl) (lt : α → α → Bool) (hlt : ∀ x y, lt x y = decide (cf x y < 0)) (P : List α) : ∀ (j : Nat) (d : Array α) (S Q : List α) (y : α), d.toList = P ++ (S ++ y :: Q) → P.length + S.length = j → S2 cf bl S → Ahead bl S [y] →
    ∃ S', (insInner lt P.length j d).toList = P ++ (S' ++ Q) ∧ S'.Perm (S ++ [y]) ∧ S2 cf bl S'
  | 0, d, S, Q, y, h, hj, hS, hA => by
    obtain rfl : S = [] := List.length_eq_zero_iff.1 (by omega)
    exact ⟨[y], by unfold insInner; simpa using h, by simp, by simp [S2]⟩
  | j + 1, d, S, Q, y, h, hj, hS, hA => by
    unfold insInner
    cases hr : S.getLast? with
    | none =>
      obtain rfl : S = [] := by simpa using hr
      rw [List.length_nil, Nat.add_zero] at hj
      rw [if_neg (by simp; omega)]
      exact ⟨[y], by simpa using h, by simp, by simp [S2]⟩
    | some s =>
      obtain ⟨S0, rfl⟩ := List.getLast?_eq_some_iff.1 hr
      rw [List.length_append, List.length_singleton] at hj
      have hj' : P.length + S0.length = j := by omega
      have h' : d.toList = (P ++ S0) ++ s :: y :: Q := by rw [h]; simp
      have e1 : d[j]! = s := by rw [arr_at h' (by simp; omega)]; rw [List.getElem_append_right (by simp; omega)]; simp [← hj']
      have e2 : d[j + 1]! = y := by
        rw [arr_at h' (by simp; omega), List.getElem_append_right (by simp; omega)]
        simp only [List.length_append, show j + 1 - (P.length + S0.length) = 1 by omega]
        rfl
      obtain ⟨s1, s2, s3⟩ := List.pairwise_append.1 hS
      by_cases hc : cf y s < 0
      · rw [if_pos (by rw [e1, e2, hlt]; simp [hc]; omega)]
        have hsw := swp_prev (i := j) h' (by simp; omega)
        obtain ⟨S', r1, r2, r3⟩ := insInner_list O lt hlt P j (swp d (j + 1) j) S0 (s :: Q) y (by rw [hsw]; simp) hj' s1 (fun x hx z hz => hA x (List.mem_append_left _ hx) z hz)
        refine ⟨S' ++ [s], by rw [r1]; simp, ?_, ?_⟩
        · refine (r2.append_right [s]).trans ?_
          rw [List.append_assoc, List.append_assoc]
          exact List.Perm.append_left S0 (List.perm_append_comm)
        · refine List.pairwise_append.2 ⟨r3, by simp, fun x hx z hz => ?_⟩
          obtain rfl : z = s := by simpa using hz
          rcases List.mem_append.1 (r2.mem_iff.1 hx) with hx | hx
          · exact s3 x hx z (by simp)
          · obtain rfl : x = y := by simpa using hx
            exact .inl hc
      · rw [if_neg (by rw [e1, e2, hlt]; simp [hc])]
        refine ⟨S0 ++ [s] ++ [y], by rw [h]; simp, List.Perm.refl _, ?_⟩
        refine List.pairwise_append.2 ⟨hS, by simp, fun x hx z hz => ?_⟩
        obtain rfl : z = y := by simpa using hz
        have hsy : lt2 cf bl s z := .inr ⟨hc, hA s (by simp) z (by simp)⟩
        rcases S2.last hS hr hx with rfl | h
        · exact hsy
        · exact O.trans h hsy
theorem insOuter_list (O : Ordered cf bl) (lt : α → α → Bool) (hlt : ∀ x y, lt x y = decide (cf x y < 0)) (P Q : List α) (b : Nat) : ∀ (T : List α) (i : Nat) (d : Array α) (S : List α), d.toList = P ++ (S ++ (T ++ Q)) → P.length + S.length = i → i + T.length = b → S2 cf bl S → Ahead bl S T → T.Pairwise bl →
    ∃ S', (insOuter lt P.length b i d).toList = P ++ (S' ++ Q) ∧ S'.Perm (S ++ T) ∧ S2 cf bl S'
  | [], i, d, S, h, hi, hb, hS, hA, hT => by
    rw [insOuter, if_neg (by simp at hb; omega)]
    exact ⟨S, by simpa using h, by simp, hS⟩
  | y :: T, i, d, S, h, hi, hb, hS, hA, hT => by
    rw [List.length_cons] at hb
    rw [insOuter, if_pos (by omega)]
    rw [List.pairwise_cons] at hT
    obtain ⟨S1, r1, r2, r3⟩ := insInner_list O lt hlt P i d S (T ++ Q) y (by rw [h]; simp) hi hS (fun x hx z hz => hA x hx z (by simp at hz; simp [hz]))
    have hl := r2.length_eq
    rw [List.length_append, List.length_singleton] at hl
    obtain ⟨S2', q1, q2, q3⟩ := insOuter_list O lt hlt P Q b T (i + 1) _ S1 r1 (by omega) (by omega) r3 (fun x hx z hz => by
      rcases List.mem_append.1 (r2.mem_iff.1 hx) with hx | hx
      · exact hA x hx z (List.mem_cons_of_mem _ hz)
      · obtain rfl : x = y := by simpa using hx
        exact hT.1 z hz) hT.2
    refine ⟨S2', q1, q2.trans ?_, q3⟩
    refine (r2.append_right T).trans ?_
    rw [List.append_assoc]; exact List.Perm.refl _
theorem insertionSort_list (O : Ordered cf bl) (lt : α → α → Bool) (hlt : ∀ x y, lt x y = decide (cf x y < 0)) (d : Array α) (P T Q : List α) (a b : Nat) (h : d.toList = P ++ (T ++ Q)) (ha : P.length = a) (hb : a + T.length = b) (hT : T.Pairwise bl) :
    ∃ S', (insertionSort lt d a b).toList = P ++ (S' ++ Q) ∧ S'.Perm T ∧ S2 cf bl S' := by
  unfold insertionSort
  subst ha
  cases T with
  | nil =>
    rw [insOuter, if_neg (by simp at hb; omega)]
    exact ⟨[], by simpa using h, List.Perm.refl _, List.Pairwise.nil⟩
  | cons y T =>
    rw [List.length_cons] at hb
    rw [List.pairwise_cons] at hT
    obtain ⟨S', r1, r2, r3⟩ := insOuter_list O lt hlt P Q b T (P.length + 1) d [y] (by rw [h]; simp) (by simp) (by omega) (by simp [S2]) (fun x hx z hz => by
      obtain rfl : x = y := by simpa using hx
      exact hT.1 z hz) hT.2
    exact ⟨S', r1, r2, r3⟩

end
/-! rows of sorted pieces -/
section
variable {α : Type} {cf : α → α → Int} {bl : α → α → Prop}
variable (cf bl) in
/-- cur holds what orig holds, sorted in pieces of s. -/
inductive Chunks (s : Nat) : List α → List α → Prop where
  | last {o c : List α} : o.length ≤ s → c.Perm o → S2 cf bl c → Chunks s o c
  | more {o c o' c' : List α} : o.length = s → c.Perm o → S2 cf bl c → Chunks s o' c' → Chunks s (o ++ o') (c ++ c')
variable (cf bl) in
/-- Whole pieces alone. -/
inductive Pieces (s : Nat) : List α → List α → Prop where
  | nil : Pieces s [] []
  | snoc {o c o' c' : List α} : Pieces s o' c' → o.length = s → c.Perm o → S2 cf bl c → Pieces s (o' ++ o) (c' ++ c)
theorem Pieces.len {s : Nat} {o c : List α} (h : Pieces cf bl s o c) : c.length = o.length := by
  induction h with
  | nil => rfl
  | snoc h1 h2 h3 h4 ih => rw [List.length_append, List.length_append, ih, h3.length_eq]
theorem Chunks.perm {s : Nat} {o c : List α} (h : Chunks cf bl s o c) : c.Perm o := by
  induction h with
  | last h1 h2 h3 => exact h2
  | more h1 h2 h3 h4 ih => exact h2.append ih
theorem Pieces.perm {s : Nat} {o c : List α} (h : Pieces cf bl s o c) : c.Perm o := by
  induction h with
  | nil => exact List.Perm.refl _
  | snoc h1 h2 h3 h4 ih => exact ih.append h3
theorem Pieces.chunks {s : Nat} {o c o' c' : List α} (h : Pieces cf bl s o c) (k : Chunks cf bl s o' c') : Chunks cf bl s (o ++ o') (c ++ c') := by
  induction h generalizing o' c' with
  | nil => exact k
  | snoc h1 h2 h3 h4 ih =>
    rw [List.append_assoc, List.append_assoc]
    exact ih (.more h2 h3 h4 k)
/-- A piece's worth off the front, where more than one piece is left. -/
theorem Chunks.front {s : Nat} {o c : List α} (h : Chunks cf bl s o c) (hl : s < o.length) : ∃ o1 c1 o2 c2, o = o1 ++ o2 ∧ c = c1 ++ c2 ∧ o1.length = s ∧ c1.Perm o1 ∧ S2 cf bl c1 ∧ Chunks cf bl s o2 c2 ∧ 0 < o2.length := by
  cases h with
  | last h1 h2 h3 => omega
  | more h1 h2 h3 h4 => exact ⟨_, _, _, _, rfl, rfl, h1, h2, h3, h4, by rw [List.length_append] at hl; omega⟩
/-- A piece's worth off the front. -/
theorem Chunks.off {s : Nat} {o c : List α} (h : Chunks cf bl s o c) (hl : s ≤ o.length) : ∃ o1 c1 o2 c2, o = o1 ++ o2 ∧ c = c1 ++ c2 ∧ o1.length = s ∧ c1.Perm o1 ∧ S2 cf bl c1 ∧ Chunks cf bl s o2 c2 := by
  cases h with
  | last h1 h2 h3 => exact ⟨o, c, [], [], by simp, by simp, by omega, h2, h3, .last (by simp) (List.Perm.refl _) List.Pairwise.nil⟩
  | more h1 h2 h3 h4 => exact ⟨_, _, _, _, rfl, rfl, h1, h2, h3, h4⟩
theorem Chunks.one {s : Nat} {o c : List α} (h : Chunks cf bl s o c) (hs : 0 < s) (hl : o.length ≤ s) : S2 cf bl c := by
  cases h with
  | last h1 h2 h3 => exact h3
  | @more o c o' c' h1 h2 h3 h4 =>
    rw [List.length_append] at hl
    have hp := h4.perm.length_eq
    have h0 : c' = [] := List.length_eq_zero_iff.1 (by omega)
    rw [h0, List.append_nil]; exact h3
end
end Go.Proofs.YtmegbllhidkmoaaGreat.Tb

/- slices.swapRangeCmpFunc, rotateCmpFunc over leases. -/
namespace Go.Proofs.YtmegbllhidkmoaaGreat.Tb
open Go.Shelf Go.RowKit Go.Lib Go.Sort
set_option linter.unusedVariables false
/-- What the walks of the merges ask of a program. -/
structure StabLays (P : Program) : Prop where
  mixed : P.follows .mixedOrders = true
  fsw : P.funcs[104]? = some Tryz.f104
  fro : P.funcs[91]? = some Tryz.f91
  fsy : P.funcs[72]? = some Tryz.f72
  t0 : P.underlying 0 = some (TypeDesc.tuple #[])
  a0 : ∀ w, (isAgg 0).run P w = .ok false w
  z0 : ∀ w, (Go.sizeOf 0).run P w = .ok 1 w
  v0 : ∀ w, (zeroValue 0).run P w = .ok (Value.tuple #[]) w
  t3 : P.underlying 3 = some (TypeDesc.int IntKind.i64)
  a3 : ∀ w, (isAgg 3).run P w = .ok false w
  z3 : ∀ w, (Go.sizeOf 3).run P w = .ok 1 w
  v3 : ∀ w, (zeroValue 3).run P w = .ok (Value.int IntKind.i64 0) w
  t4 : P.underlying 4 = some (TypeDesc.bool)
  a4 : ∀ w, (isAgg 4).run P w = .ok false w
  z4 : ∀ w, (Go.sizeOf 4).run P w = .ok 1 w
  v4 : ∀ w, (zeroValue 4).run P w = .ok (Value.bool false) w
  t22 : P.underlying 43 = some (TypeDesc.slice 30)
  a22 : ∀ w, (isAgg 43).run P w = .ok false w
  z22 : ∀ w, (Go.sizeOf 43).run P w = .ok 1 w
  v22 : ∀ w, (zeroValue 43).run P w = .ok (Value.slice none 0 0) w
  t25 : P.underlying 83 = some (TypeDesc.func #[30, 30] #[3] false)
  a25 : ∀ w, (isAgg 83).run P w = .ok false w
  z25 : ∀ w, (Go.sizeOf 83).run P w = .ok 1 w
  v25 : ∀ w, (zeroValue 83).run P w = .ok (Value.nilFunc) w
  t9 : P.underlying 106 = some (TypeDesc.int IntKind.u64)
  a9 : ∀ w, (isAgg 106).run P w = .ok false w
  z9 : ∀ w, (Go.sizeOf 106).run P w = .ok 1 w
  v9 : ∀ w, (zeroValue 106).run P w = .ok (Value.int IntKind.u64 0) w
variable {P : Program} {α : Type} [Inhabited α]
theorem ntSw : Tryz.f104.ntmps = 38 := by kernel_rfl

set_option maxHeartbeats 4000000 in
set_option maxRecDepth 1000000 in
theorem swapRange_any (L : StabLays P) (k : Nat) (aE : ∀ w, (isAgg 30).run P w = .ok true w) (zE : ∀ w, (Go.sizeOf 30).run P w = .ok k w) (enc : α → List Value) (cf : Value) (blk off cap : Nat) (d0 d : Array α) (w0 w : World)
    (R : RowK enc k w0 blk off d0) (hs : d0.size = d.size) (S : SWK enc k w0 blk off d w) (hsz : d.size < 4611686018427387904) (X U M V Y : List α) (hd : d.toList = X ++ (U ++ (M ++ (V ++ Y)))) (hUV : U.length = V.length) (a b n : Nat) (ha : X.length = a) (hb : X.length + U.length + M.length = b) (hn : U.length = n) :
    Calls P 104 #[.slice (some ⟨blk, off, none⟩) d.size cap, .int .i64 a, .int .i64 b, .int .i64 n, cf] w fun e w' =>
      e = .returned (.tuple #[]) ∧ ∃ d' : Array α, d'.toList = X ++ (V ++ (M ++ (U ++ Y))) ∧ d'.size = d.size ∧ SWK enc k w0 blk off d' w' := by
  have mixed := L.mixed; have t0 := L.t0; have a0 := L.a0; have z0 := L.z0; have v0 := L.v0; have t3 := L.t3; have a3 := L.a3; have z3 := L.z3; have v3 := L.v3; have t4 := L.t4; have a4 := L.a4; have z4 := L.z4; have v4 := L.v4; have t22 := L.t22; have a22 := L.a22; have z22 := L.z22; have v22 := L.v22; have t25 := L.t25; have a25 := L.a25; have z25 := L.z25; have v25 := L.v25
  have hlen : d.size = X.length + (U.length + (M.length + (V.length + Y.length))) := by
    have := congrArg List.length hd
    simpa using this
  have HD : Aside (d.toList = X ++ (V.take 0 ++ (U.drop 0 ++ (M ++ (U.take 0 ++ (V.drop 0 ++ Y)))))) := by show _ = _; rw [hd]; simp
  have HL : Aside (d.size = X.length + (U.length + (M.length + (V.length + Y.length)))) := hlen
  have hab : a + n ≤ b := by omega
  have hbn : b + n ≤ d.size := by omega
  have HA : Aside (X.length = a) := ha
  have HB : Aside (X.length + U.length + M.length = b) := hb
  have HN : Aside (U.length = n) := hn
  have HUV : Aside (U.length = V.length) := hUV
  have S0 : Aside (SWK enc k w0 blk off d w) := S
  clear hlen hd S ha hb hn hUV
  go_enter L.fsw, ntSw
  go_wp2
  go_loopg [10] n (fun kx s10 wr => ∃ i : Nat, s10 = .int .i64 i ∧ i ≤ n ∧ n - i ≤ kx ∧ ∃ dk : Array α, dk.size = d.size ∧ Aside (SWK enc k w0 blk off dk wr) ∧ Aside (dk.toList = X ++ (V.take i ++ (U.drop i ++ (M ++ (U.take i ++ (V.drop i ++ Y)))))))
  case atStart => exact ⟨0, rfl, Nat.zero_le _, by omega, d, rfl, S0, HD⟩
  case round =>
    clear S0 HD
    obtain ⟨i, rfl, hin, hg1, dk, hdk, S1, HDk⟩ := hrel
    by_cases hlt : i < n
    · have hltz : (i : Int) < (n : Int) := by omega
      have hq : Aside ((swp dk (a + i) (b + i)).toList = X ++ (V.take (i + 1) ++ (U.drop (i + 1) ++ (M ++ (U.take (i + 1) ++ (V.drop (i + 1) ++ Y)))))) := swap_step (by rw [HN]; exact hlt) HUV HDk (by rw [HA]) (by rw [HB])
      clear HDk
      have ea : ((a : Int) + (i : Int)).toNat = a + i := by omega
      have pa : (0 : Int) ≤ (a : Int) + (i : Int) := by omega
      have ba : (a : Int) + (i : Int) < (d.size : Int) := by omega
      have ra : IntKind.i64.wrap ((a : Int) + (i : Int)) = (a : Int) + (i : Int) := by rw [IntKind.wrap_i64]; omega
      have ec : ((b : Int) + (i : Int)).toNat = b + i := by omega
      have pc : (0 : Int) ≤ (b : Int) + (i : Int) := by omega
      have bc : (b : Int) + (i : Int) < (d.size : Int) := by omega
      have rc : IntKind.i64.wrap ((b : Int) + (i : Int)) = (b : Int) + (i : Int) := by rw [IntKind.wrap_i64]; omega
      have S2 : Aside (SWK enc k w0 blk off (swp dk (a + i) (b + i)) ((wr.drew.setCells blk (off + (a + i) * k) (enc dk[b + i]!)).setCells blk (off + (b + i) * k) (enc dk[a + i]!))) := SWK.swapped S1 R (a + i) (b + i) (by omega) (by omega)
      have la := SWK.ld1 S1 R (by omega) P (a + i) (by omega)
      have lb := SWK.ld1 S1 R (by omega) P (b + i) (by omega)
      have sa := SWK.st1 S1 R (by omega) P (a + i) (by omega) dk[b + i]!
      have sb := SWK.st2 S1 R (by omega) P (a + i) (b + i) (by omega) (by omega) dk[b + i]! dk[a + i]!
      have na : (enc dk[a + i]!).length = k := R.hk _
      have nb : (enc dk[b + i]!).length = k := R.hk _
      generalize enc dk[a + i]! = cI at S2 la sb na
      generalize enc dk[b + i]! = cJ at S2 lb sa sb nb
      clear S1
      go_wp2_with fail
      go_big_region_o
      all_goals go_wp2
      clear la lb sa sb
      go_roundg (n - (i + 1))
      case measure => omega
      case rel => exact ⟨i + 1, by go_num, by omega, by omega, swp dk (a + i) (b + i), by rw [size_swp]; exact hdk, S2, hq⟩
    · have hltz : ¬ (i : Int) < (n : Int) := by omega
      obtain rfl : i = n := by omega
      have hfin : Aside (dk.toList = X ++ (V ++ (M ++ (U ++ Y)))) := by
        have h := HDk
        have hu : U.length = i := HN
        have hv : V.length = i := by rw [← HUV]; exact hu
        rw [List.take_of_length_le (by omega), List.drop_eq_nil_of_le (by omega), List.take_of_length_le (by omega), List.drop_eq_nil_of_le (by omega)] at h
        simpa using h
      clear HDk
      go_wp2
      go_end0
      exact ⟨rfl, dk, hfin, hdk, S1⟩
theorem ntRo : Tryz.f91.ntmps = 58 := by kernel_rfl
set_option maxHeartbeats 4000000 in
set_option maxRecDepth 1000000 in
theorem rotate_any (L : StabLays P) (k : Nat) (aE : ∀ w, (isAgg 30).run P w = .ok true w) (zE : ∀ w, (Go.sizeOf 30).run P w = .ok k w) (enc : α → List Value) (cf : Value) (blk off cap : Nat) (d0 d : Array α) (w0 w : World)
    (R : RowK enc k w0 blk off d0) (hs : d0.size = d.size) (S : SWK enc k w0 blk off d w) (hsz : d.size < 4611686018427387904) (X U V Y : List α) (hd : d.toList = X ++ (U ++ (V ++ Y))) (hU : 0 < U.length) (hV : 0 < V.length) (a m b : Nat) (ha : X.length = a) (hm : a + U.length = m) (hb : m + V.length = b) :
    Calls P 91 #[.slice (some ⟨blk, off, none⟩) d.size cap, .int .i64 a, .int .i64 m, .int .i64 b, cf] w fun e w' =>
      e = .returned (.tuple #[]) ∧ ∃ d' : Array α, d'.toList = X ++ (V ++ (U ++ Y)) ∧ d'.size = d.size ∧ SWK enc k w0 blk off d' w' := by
  have esw : ∀ args w, (callFunc 104 args).run P w = .ok (.enter 104 args) w := enters_of L.fsw (by kernel_rfl) rfl
  have mixed := L.mixed; have t0 := L.t0; have a0 := L.a0; have z0 := L.z0; have v0 := L.v0; have t3 := L.t3; have a3 := L.a3; have z3 := L.z3; have v3 := L.v3; have t4 := L.t4; have a4 := L.a4; have z4 := L.z4; have v4 := L.v4; have t22 := L.t22; have a22 := L.a22; have z22 := L.z22; have v22 := L.v22; have t25 := L.t25; have a25 := L.a25; have z25 := L.z25; have v25 := L.v25
  have hlen : d.size = X.length + (U.length + (V.length + Y.length)) := by
    have := congrArg List.length hd
    simpa using this
  have hbd : b ≤ d.size := by omega
  have ham : a < m := by omega
  have hmb : m < b := by omega
  have e1 : (m : Int) - (a : Int) = ((m - a : Nat) : Int) := by omega
  have e2 : (b : Int) - (m : Int) = ((b - m : Nat) : Int) := by omega
  have START : Aside (∃ (dk : Array α) (X' U' V' Y' : List α), dk.size = d.size ∧ SWK enc k w0 blk off dk w ∧ dk.toList = X' ++ (U' ++ (V' ++ Y')) ∧ U'.length = m - a ∧ V'.length = b - m ∧ X'.length + (m - a) = m ∧ X' ++ (V' ++ (U' ++ Y')) = X ++ (V ++ (U ++ Y))) := ⟨d, X, U, V, Y, rfl, S, hd, by omega, by omega, by omega, rfl⟩
  clear hlen hd S ha hm hb hU hV
  go_enter L.fro, ntRo
  go_wp2
  go_loopg [10, 11] (b - a) (fun kx s10 s11 wr => ∃ i j : Nat, s10 = .int .i64 i ∧ s11 = .int .i64 j ∧ 0 < i ∧ 0 < j ∧ i ≤ m ∧ m + j ≤ b ∧ i + j ≤ kx ∧ Aside (∃ (dk : Array α) (X' U' V' Y' : List α), dk.size = d.size ∧ SWK enc k w0 blk off dk wr ∧ dk.toList = X' ++ (U' ++ (V' ++ Y')) ∧ U'.length = i ∧ V'.length = j ∧ X'.length + i = m ∧ X' ++ (V' ++ (U' ++ Y')) = X ++ (V ++ (U ++ Y))))
  case atStart => exact ⟨m - a, b - m, rfl, rfl, by omega, by omega, by omega, by omega, by omega, START⟩
  case round =>
    clear START
    obtain ⟨i, j, rfl, rfl, hi0, hj0, him, hjb, hg1, dk, X', U', V', Y', hdk, S1, hl, hu, hv, hx, hres⟩ := hrel
    have HRES : Aside (X' ++ (V' ++ (U' ++ Y')) = X ++ (V ++ (U ++ Y))) := hres
    have HX : Aside (X'.length + i = m) := hx
    have HU : Aside (U'.length = i) := hu
    have HV : Aside (V'.length = j) := hv
    clear hres
    rcases Nat.lt_trichotomy i j with hc | hc | hc
    · have hne : ((i : Int) != (j : Int)) = true := by rw [bne_iff_ne]; omega
      have hgt : ¬ (i : Int) > (j : Int) := by omega
      have hcall := swapRange_any L k aE zE enc cf blk off cap d0 dk w0 wr R (by omega) S1 (by omega) X' U' (V'.take (j - i)) (V'.drop (j - i)) Y' (by rw [hl, ← List.append_assoc (V'.take _), List.take_append_drop]) (by rw [List.length_drop]; omega) (m - i) (m + j - i) i (by omega) (by rw [List.length_take]; omega) hu
      have c1 : ((m - i : Nat) : Int) = (m : Int) - (i : Int) := by omega
      have c2 : ((m + j - i : Nat) : Int) = (m : Int) + (j : Int) - (i : Int) := by omega
      have c3 : (j : Int) - (i : Int) = ((j - i : Nat) : Int) := by omega
      rw [c1, c2, hdk] at hcall
      have C3 : Aside _ := c3
      clear c1 c2 c3 hl hu hv hx S1
      go_wp2_with (go_at_fn 104; refine hcall.mono ?_; rintro e w1 ⟨rfl, hS2⟩)
      obtain ⟨d', hl', hs', S3⟩ := hS2
      go_roundg j
      case measure => omega
      case rel =>
        refine ⟨i, j - i, rfl, by rw [C3], hi0, by omega, him, by omega, by omega, d', X', V'.drop (j - i), V'.take (j - i), U' ++ Y', hs', S3, by rw [hl'], by rw [List.length_drop, HV]; omega, by rw [List.length_take, HV]; omega, HX, ?_⟩
        rw [← HRES]
        conv => rhs; rw [← List.take_append_drop (j - i) V']
        simp only [List.append_assoc]
    · subst hc
      have hne : ((i : Int) != (i : Int)) = false := by simp
      have hcall := swapRange_any L k aE zE enc cf blk off cap d0 dk w0 wr R (by omega) S1 (by omega) X' U' [] V' Y' hl (by omega) (m - i) m i (by omega) (by simp; omega) hu
      have c1 : ((m - i : Nat) : Int) = (m : Int) - (i : Int) := by omega
      rw [c1, hdk] at hcall
      clear c1 hl hu hv hx S1
      go_wp2_with (go_at_fn 104; refine hcall.mono ?_; rintro e w1 ⟨rfl, hS2⟩)
      obtain ⟨d', hl', hs', S3⟩ := hS2
      go_end0
      exact ⟨rfl, d', by rw [hl', ← HRES]; rfl, hs', S3⟩
    · have hne : ((i : Int) != (j : Int)) = true := by rw [bne_iff_ne]; omega
      have hgt : (i : Int) > (j : Int) := by omega
      have hcall := swapRange_any L k aE zE enc cf blk off cap d0 dk w0 wr R (by omega) S1 (by omega) X' (U'.take j) (U'.drop j) V' Y' (by rw [hl, ← List.append_assoc (U'.take _), List.take_append_drop]) (by rw [List.length_take]; omega) (m - i) m j (by omega) (by rw [List.length_take, List.length_drop]; omega) (by rw [List.length_take]; omega)
      have c1 : ((m - i : Nat) : Int) = (m : Int) - (i : Int) := by omega
      have c3 : (i : Int) - (j : Int) = ((i - j : Nat) : Int) := by omega
      rw [c1, hdk] at hcall
      have C3 : Aside _ := c3
      clear c1 c3 hl hu hv hx S1
      go_wp2_with (go_at_fn 104; refine hcall.mono ?_; rintro e w1 ⟨rfl, hS2⟩)
      obtain ⟨d', hl', hs', S3⟩ := hS2
      go_roundg i
      case measure => omega
      case rel =>
        refine ⟨i - j, j, by rw [C3], rfl, by omega, hj0, by omega, hjb, by omega, d', X' ++ V', U'.drop j, U'.take j, Y', hs', S3, by rw [hl']; simp only [List.append_assoc], by rw [List.length_drop, HU], by rw [List.length_take, HU]; omega, by have h1 : V'.length = j := HV; have h2 : X'.length + i = m := HX; rw [List.length_append]; omega, ?_⟩
        rw [← HRES]
        conv => rhs; rw [← List.take_append_drop j U']
        simp only [List.append_assoc]
end Go.Proofs.YtmegbllhidkmoaaGreat.Tb

/- slices.symMergeCmpFunc over leases. -/
namespace Go.Proofs.YtmegbllhidkmoaaGreat.Tb
open Go.Shelf Go.RowKit Go.Lib Go.Sort
set_option linter.unusedVariables false
variable {P : Program} {α : Type} [Inhabited α]
theorem ntSy : Tryz.f72.ntmps = 220 := by kernel_rfl
set_option maxHeartbeats 4000000 in
set_option maxRecDepth 1000000 in
theorem sym_first (L : StabLays P) (k : Nat) (aE : ∀ w, (isAgg 30).run P w = .ok true w) (zE : ∀ w, (Go.sizeOf 30).run P w = .ok k w) (enc : α → List Value) (cf : α → α → Int) (bl : α → α → Prop) (O : Ordered cf bl) (g : Nat) (cb : Array Value) (blk off cap : Nat) (d0 d : Array α) (w0 w : World)
    (eg : ∀ args w, (callFunc g args).run P w = .ok (.enter g args) w) (hcmp : CmpLays P g cb enc k cf blk off d0.size w0) (R : RowK enc k w0 blk off d0) (hs : d0.size = d.size) (S : SWK enc k w0 blk off d w) (hsz : d.size < 4611686018427387904) (X B Y : List α) (x : α) (hd : d.toList = X ++ (x :: (B ++ Y))) (hB : S2 cf bl B) (hA : Ahead bl [x] B) (hB0 : 0 < B.length) (a m b : Nat) (ha : X.length = a) (hm : a + 1 = m) (hb : m + B.length = b) :
    Calls P 72 #[.slice (some ⟨blk, off, none⟩) d.size cap, .int .i64 a, .int .i64 m, .int .i64 b, .func (.func g) #[] cb] w fun e w' =>
      e = .returned (.tuple #[]) ∧ ∃ (d' : Array α) (C : List α), d'.toList = X ++ (C ++ Y) ∧ d'.size = d.size ∧ C.Perm ([x] ++ B) ∧ S2 cf bl C ∧ SWK enc k w0 blk off d' w' := by
  have mixed := L.mixed; have t0 := L.t0; have a0 := L.a0; have z0 := L.z0; have v0 := L.v0; have t3 := L.t3; have a3 := L.a3; have z3 := L.z3; have v3 := L.v3; have t4 := L.t4; have a4 := L.a4; have z4 := L.z4; have v4 := L.v4; have t22 := L.t22; have a22 := L.a22; have z22 := L.z22; have v22 := L.v22; have t25 := L.t25; have a25 := L.a25; have z25 := L.z25; have v25 := L.v25; have t9 := L.t9; have a9 := L.a9; have z9 := L.z9; have v9 := L.v9
  have hlen : d.size = X.length + (B.length + Y.length + 1) := by
    have := congrArg List.length hd
    simpa using this
  have HB1 : Aside (a + 1 = m) := hm
  have HB2 : Aside (m + B.length = b) := hb
  have HX : Aside (X.length = a) := ha
  have HD : Aside (d.toList = X ++ (x :: (B ++ Y))) := hd
  have hbd : b ≤ d.size := by omega
  have hmb : m < b := by omega
  have ham : a < m := by omega
  have e1 : ((m : Int) - (a : Int) == 1) = true := by rw [beq_iff_eq]; omega
  have S0 : Aside (SWK enc k w0 blk off d w) := S
  have HC := Lib.hid hcmp
  clear hlen hd S ha hm hb hcmp
  go_enter L.fsy, ntSy
  go_wp2_with fail
  go_loopg [10, 11] (b - m) (fun kx s10 s11 wr => ∃ i j : Nat, s10 = .int .i64 i ∧ s11 = .int .i64 j ∧ m ≤ i ∧ i ≤ j ∧ j ≤ b ∧ j - i ≤ kx ∧ Aside (SWK enc k w0 blk off d wr) ∧ Aside ((m < i → cf d[i - 1]! d[a]! < 0) ∧ (j < b → ¬ cf d[j]! d[a]! < 0)))
  case atStart => exact ⟨m, b, rfl, rfl, Nat.le_refl _, by omega, Nat.le_refl _, by omega, S0, ⟨fun h => absurd h (Nat.lt_irrefl _), fun h => absurd h (Nat.lt_irrefl _)⟩⟩
  case round =>
    clear S0
    obtain ⟨i, j, rfl, rfl, hmi, hij, hjb, hg1, S1, HQ⟩ := hrel
    by_cases hlt : i < j
    · have hltz : (i : Int) < (j : Int) := by omega
      obtain ⟨h, hz⟩ : ∃ h : Nat, ((i : Int) + (j : Int)) / 2 = (h : Int) := ⟨(i + j) / 2, by omega⟩
      have hih : i ≤ h := by omega
      have hhj : h < j := by omega
      have bh : (h : Int) < (d.size : Int) := by omega
      have ba : (a : Int) < (d.size : Int) := by omega
      obtain ⟨u, hu⟩ : ∃ u, u = d[h]! := ⟨_, rfl⟩
      obtain ⟨v, hv⟩ : ∃ v, v = d[a]! := ⟨_, rfl⟩
      have la := SWK.ld S1 R (by omega) P h (by omega)
      have lb := SWK.ld S1 R (by omega) P a (by omega)
      rw [← hu] at la
      rw [← hv] at lb
      have hc := SWK.cmp S1 HC.out (by omega) u v
      have HUV : Aside (u = d[h]! ∧ v = d[a]!) := ⟨hu, hv⟩
      clear hu hv
      by_cases hcf : cf u v < 0
      · have hdc : decide (cf u v < 0) = true := decide_eq_true hcf
        go_wp2_with fail
        go_quiet_grown (first | (go_at_fn g; refine Calls.grown_of (hc _ _)))
        have S2 : Aside (SWK enc k w0 blk off d (grow (wr.drewN nq) osq)) := SWK.grown S1 nq osq
        clear la lb hc S1
        generalize grow (wr.drewN nq) osq = w2 at S2 ⊢
        go_wp2_with fail
        go_roundg (j - (h + 1))
        case measure => omega
        case rel => exact ⟨h + 1, j, by go_num, rfl, by omega, by omega, hjb, by omega, S2, ⟨fun _ => by rw [Nat.add_sub_cancel, ← HUV.1, ← HUV.2]; exact hcf, HQ.2⟩⟩
      · have hdc : decide (cf u v < 0) = false := decide_eq_false hcf
        go_wp2_with fail
        go_quiet_grown (first | (go_at_fn g; refine Calls.grown_of (hc _ _)))
        have S2 : Aside (SWK enc k w0 blk off d (grow (wr.drewN nq) osq)) := SWK.grown S1 nq osq
        clear la lb hc S1
        generalize grow (wr.drewN nq) osq = w2 at S2 ⊢
        go_wp2_with fail
        go_roundg (h - i)
        case measure => omega
        case rel => exact ⟨i, h, rfl, rfl, hmi, hih, by omega, by omega, S2, ⟨HQ.1, fun _ => by rw [← HUV.1, ← HUV.2]; exact hcf⟩⟩
    · have hltz : ¬ (i : Int) < (j : Int) := by omega
      obtain rfl : i = j := by omega
      have HF : Aside (S2 cf bl (B.take (i - m) ++ x :: B.drop (i - m)) ∧ (B.take (i - m) ++ x :: B.drop (i - m)).Perm ([x] ++ B)) := first_done O HD HX HB1 HB2 hmi hjb hB hA HQ.1 HQ.2
      obtain ⟨t, hit⟩ : ∃ t, i = t + 1 := ⟨i - 1, by omega⟩
      subst hit
      have hti : (t : Int) + 1 - 1 = (t : Int) := by omega
      clear HQ
      go_wp2_with fail
      go_loopg [13] (t - a) (fun kx s13 wr2 => ∃ q : Nat, s13 = .int .i64 q ∧ a ≤ q ∧ q ≤ t ∧ t - q ≤ kx ∧ ∃ dk : Array α, dk.size = d.size ∧ Aside (SWK enc k w0 blk off dk wr2) ∧ Aside (dk.toList = X ++ (B.take (q - a) ++ x :: (B.drop (q - a) ++ Y))))
      case atStart => exact ⟨a, rfl, Nat.le_refl _, by omega, by omega, d, rfl, S1, by show _ = _; rw [Nat.sub_self]; exact HD⟩
      case round =>
        clear S1
        obtain ⟨q, rfl, haq, hqt, hg2, dk, hdk, S1, HL⟩ := hrel
        by_cases hlt2 : q < t
        · have hltz2 : (q : Int) < (t : Int) := by omega
          have hq' : Aside ((swp dk q (q + 1)).toList = X ++ (B.take (q + 1 - a) ++ x :: (B.drop (q + 1 - a) ++ Y))) := by
            have hb1 : a + 1 = m := HB1
            have hb2 : m + B.length = b := HB2
            have hx : X.length = a := HX
            have hqa : q - a < B.length := by omega
            have h1 : dk.toList = X ++ (B.take (q - a) ++ x :: (B.drop (q - a) ++ Y)) := HL
            rw [List.drop_eq_getElem_cons hqa, ← List.append_assoc] at h1
            have h2 := swp_next (i := q) h1 (by rw [List.length_append, List.length_take, hx]; omega)
            show _ = _
            rw [h2, show q + 1 - a = q - a + 1 by omega, List.take_succ_eq_append_getElem hqa]
            simp only [List.append_assoc, List.cons_append, List.nil_append, List.append_eq]
          clear HL
          have bq : (q : Int) < (d.size : Int) := by omega
          have bq1 : (q : Int) + 1 < (d.size : Int) := by omega
          have eq1 : ((q : Int) + 1).toNat = q + 1 := by omega
          have S2 : Aside (SWK enc k w0 blk off (swp dk q (q + 1)) ((wr.drew.setCells blk (off + q * k) (enc dk[q + 1]!)).setCells blk (off + (q + 1) * k) (enc dk[q]!))) := SWK.swapped S1 R q (q + 1) (by omega) (by omega)
          have la := SWK.ld1 S1 R (by omega) P q (by omega)
          have lb := SWK.ld1 S1 R (by omega) P (q + 1) (by omega)
          have sa := SWK.st1 S1 R (by omega) P q (by omega) dk[q + 1]!
          have sb := SWK.st2 S1 R (by omega) P q (q + 1) (by omega) (by omega) dk[q + 1]! dk[q]!
          have na : (enc dk[q]!).length = k := R.hk _
          have nb : (enc dk[q + 1]!).length = k := R.hk _
          generalize enc dk[q]! = cI at S2 la sb na
          generalize enc dk[q + 1]! = cJ at S2 lb sa sb nb
          clear S1
          go_wp2_with fail
          go_big_region_o
          all_goals go_wp2
          clear la lb sa sb
          go_roundg (t - (q + 1))
          case measure => omega
          case rel => exact ⟨q + 1, by go_num, by omega, by omega, by omega, swp dk q (q + 1), by rw [size_swp]; exact hdk, S2, hq'⟩
        · have hltz2 : ¬ (q : Int) < (t : Int) := by omega
          obtain rfl : q = t := by omega
          have hb1 : Aside (q + 1 - m = q - a) := by have : a + 1 = m := HB1; show _ = _; omega
          go_wp2
          (try simp only [Exit.inBlock, Exit.then]); refine bodyPost_ret (results_none rfl _ _ _) rfl ?_
          exact ⟨rfl, dk, B.take (q + 1 - m) ++ x :: B.drop (q + 1 - m), by rw [hb1]; have h1 : dk.toList = _ := HL; rw [h1]; simp only [List.append_assoc, List.cons_append], hdk, HF.2, HF.1, S1⟩
set_option maxHeartbeats 4000000 in
set_option maxRecDepth 1000000 in
theorem sym_last (L : StabLays P) (k : Nat) (aE : ∀ w, (isAgg 30).run P w = .ok true w) (zE : ∀ w, (Go.sizeOf 30).run P w = .ok k w) (enc : α → List Value) (cf : α → α → Int) (bl : α → α → Prop) (O : Ordered cf bl) (g : Nat) (cb : Array Value) (blk off cap : Nat) (d0 d : Array α) (w0 w : World)
    (eg : ∀ args w, (callFunc g args).run P w = .ok (.enter g args) w) (hcmp : CmpLays P g cb enc k cf blk off d0.size w0) (R : RowK enc k w0 blk off d0) (hs : d0.size = d.size) (S : SWK enc k w0 blk off d w) (hsz : d.size < 4611686018427387904) (X A Y : List α) (y : α) (hd : d.toList = X ++ (A ++ (y :: Y))) (hA : S2 cf bl A) (hx : Ahead bl A [y]) (hA0 : 1 < A.length) (a m b : Nat) (ha : X.length = a) (hm : a + A.length = m) (hb : m + 1 = b) :
    Calls P 72 #[.slice (some ⟨blk, off, none⟩) d.size cap, .int .i64 a, .int .i64 m, .int .i64 b, .func (.func g) #[] cb] w fun e w' =>
      e = .returned (.tuple #[]) ∧ ∃ (d' : Array α) (C : List α), d'.toList = X ++ (C ++ Y) ∧ d'.size = d.size ∧ C.Perm (A ++ [y]) ∧ S2 cf bl C ∧ SWK enc k w0 blk off d' w' := by
  have mixed := L.mixed; have t0 := L.t0; have a0 := L.a0; have z0 := L.z0; have v0 := L.v0; have t3 := L.t3; have a3 := L.a3; have z3 := L.z3; have v3 := L.v3; have t4 := L.t4; have a4 := L.a4; have z4 := L.z4; have v4 := L.v4; have t22 := L.t22; have a22 := L.a22; have z22 := L.z22; have v22 := L.v22; have t25 := L.t25; have a25 := L.a25; have z25 := L.z25; have v25 := L.v25; have t9 := L.t9; have a9 := L.a9; have z9 := L.z9; have v9 := L.v9
  have hlen : d.size = X.length + (A.length + (Y.length + 1)) := by
    have := congrArg List.length hd
    simpa using this
  have HB1 : Aside (a + A.length = m) := hm
  have HX : Aside (X.length = a) := ha
  have HD : Aside (d.toList = X ++ (A ++ (y :: Y))) := hd
  have hbd : b ≤ d.size := by omega
  have hmb : m < b := by omega
  have ham : a + 1 < m := by omega
  have e1 : ((m : Int) - (a : Int) == 1) = false := by rw [beq_eq_false_iff_ne]; omega
  have e2 : ((b : Int) - (m : Int) == 1) = true := by rw [beq_iff_eq]; omega
  have S0 : Aside (SWK enc k w0 blk off d w) := S
  have HC := Lib.hid hcmp
  clear hlen hd S ha hm hb hcmp
  go_enter L.fsy, ntSy
  go_wp2_with fail
  go_loopg [14, 15] (m - a) (fun kx s10 s11 wr => ∃ i j : Nat, s10 = .int .i64 i ∧ s11 = .int .i64 j ∧ a ≤ i ∧ i ≤ j ∧ j ≤ m ∧ j - i ≤ kx ∧ Aside (SWK enc k w0 blk off d wr) ∧ Aside ((a < i → ¬ cf d[m]! d[i - 1]! < 0) ∧ (j < m → cf d[m]! d[j]! < 0)))
  case atStart => exact ⟨a, m, rfl, rfl, Nat.le_refl _, by omega, Nat.le_refl _, by omega, S0, ⟨fun h => absurd h (Nat.lt_irrefl _), fun h => absurd h (Nat.lt_irrefl _)⟩⟩
  case round =>
    clear S0
    obtain ⟨i, j, rfl, rfl, hmi, hij, hjb, hg1, S1, HQ⟩ := hrel
    by_cases hlt : i < j
    · have hltz : (i : Int) < (j : Int) := by omega
      obtain ⟨h, hz⟩ : ∃ h : Nat, ((i : Int) + (j : Int)) / 2 = (h : Int) := ⟨(i + j) / 2, by omega⟩
      have hih : i ≤ h := by omega
      have hhj : h < j := by omega
      have bh : (h : Int) < (d.size : Int) := by omega
      have ba : (m : Int) < (d.size : Int) := by omega
      obtain ⟨u, hu⟩ : ∃ u, u = d[m]! := ⟨_, rfl⟩
      obtain ⟨v, hv⟩ : ∃ v, v = d[h]! := ⟨_, rfl⟩
      have la := SWK.ld S1 R (by omega) P m (by omega)
      have lb := SWK.ld S1 R (by omega) P h (by omega)
      rw [← hu] at la
      rw [← hv] at lb
      have hc := SWK.cmp S1 HC.out (by omega) u v
      have HUV : Aside (u = d[m]! ∧ v = d[h]!) := ⟨hu, hv⟩
      clear hu hv
      by_cases hcf : cf u v < 0
      · have hdc : decide (cf u v < 0) = true := decide_eq_true hcf
        go_wp2_with fail
        go_quiet_grown (first | (go_at_fn g; refine Calls.grown_of (hc _ _)))
        have S2 : Aside (SWK enc k w0 blk off d (grow (wr.drewN nq) osq)) := SWK.grown S1 nq osq
        clear la lb hc S1
        generalize grow (wr.drewN nq) osq = w2 at S2 ⊢
        go_wp2_with fail
        go_roundg (h - i)
        case measure => omega
        case rel => exact ⟨i, h, rfl, rfl, hmi, hih, by omega, by omega, S2, ⟨HQ.1, fun _ => by rw [← HUV.1, ← HUV.2]; exact hcf⟩⟩
      · have hdc : decide (cf u v < 0) = false := decide_eq_false hcf
        go_wp2_with fail
        go_quiet_grown (first | (go_at_fn g; refine Calls.grown_of (hc _ _)))
        have S2 : Aside (SWK enc k w0 blk off d (grow (wr.drewN nq) osq)) := SWK.grown S1 nq osq
        clear la lb hc S1
        generalize grow (wr.drewN nq) osq = w2 at S2 ⊢
        go_wp2_with fail
        go_roundg (j - (h + 1))
        case measure => omega
        case rel => exact ⟨h + 1, j, by go_num, rfl, by omega, by omega, hjb, by omega, S2, ⟨fun _ => by rw [Nat.add_sub_cancel, ← HUV.1, ← HUV.2]; exact hcf, HQ.2⟩⟩
    · have hltz : ¬ (i : Int) < (j : Int) := by omega
      obtain rfl : i = j := by omega
      have HF : Aside (S2 cf bl (A.take (i - a) ++ y :: A.drop (i - a)) ∧ (A.take (i - a) ++ y :: A.drop (i - a)).Perm (A ++ [y])) := last_done O HD HX HB1 hmi hjb hA hx HQ.1 HQ.2
      clear HQ
      go_wp2_with fail
      go_loopg [17] (m - i) (fun kx s13 wr2 => ∃ q : Nat, s13 = .int .i64 q ∧ i ≤ q ∧ q ≤ m ∧ q - i ≤ kx ∧ ∃ dk : Array α, dk.size = d.size ∧ Aside (SWK enc k w0 blk off dk wr2) ∧ Aside (dk.toList = X ++ (A.take (q - a) ++ y :: (A.drop (q - a) ++ Y))))
      case atStart => exact ⟨m, rfl, hjb, Nat.le_refl _, Nat.le_refl _, d, rfl, S1, by
        have h1 : a + A.length = m := HB1
        have h2 : d.toList = X ++ (A ++ (y :: Y)) := HD
        show _ = _
        rw [h2, List.take_of_length_le (by omega), List.drop_eq_nil_of_le (by omega)]; rfl⟩
      case round =>
        clear S1
        obtain ⟨q, rfl, haq, hqt, hg2, dk, hdk, S1, HL⟩ := hrel
        by_cases hlt2 : i < q
        · obtain ⟨s, hqs⟩ : ∃ s, q = s + 1 := ⟨q - 1, by omega⟩
          subst hqs
          have hltz2 : (s : Int) + 1 > (i : Int) := by omega
          have hq' : Aside ((swp dk (s + 1) s).toList = X ++ (A.take (s - a) ++ y :: (A.drop (s - a) ++ Y))) := by
            have hb1 : a + A.length = m := HB1
            have hx : X.length = a := HX
            have hqa : s - a < A.length := by omega
            have h1 : dk.toList = X ++ (A.take (s + 1 - a) ++ y :: (A.drop (s + 1 - a) ++ Y)) := HL
            rw [show s + 1 - a = s - a + 1 by omega, List.take_succ_eq_append_getElem hqa] at h1
            have h1' : dk.toList = (X ++ A.take (s - a)) ++ A[s - a] :: y :: (A.drop (s - a + 1) ++ Y) := by
              rw [h1]; simp only [List.append_assoc, List.cons_append, List.nil_append]
            have h2 := swp_prev (i := s) h1' (by rw [List.length_append, List.length_take, hx]; omega)
            show _ = _
            rw [h2, List.drop_eq_getElem_cons hqa]
            simp only [List.append_assoc, List.cons_append]
          clear HL
          have bq : (s : Int) < (d.size : Int) := by omega
          have bq1 : (s : Int) + 1 < (d.size : Int) := by omega
          have eq1 : ((s : Int) + 1).toNat = s + 1 := by omega
          have eq2 : (s : Int) + 1 - 1 = (s : Int) := by omega
          have S2 : Aside (SWK enc k w0 blk off (swp dk (s + 1) s) ((wr.drew.setCells blk (off + (s + 1) * k) (enc dk[s]!)).setCells blk (off + s * k) (enc dk[s + 1]!))) := SWK.swapped S1 R (s + 1) s (by omega) (by omega)
          have la := SWK.ld1 S1 R (by omega) P (s + 1) (by omega)
          have lb := SWK.ld1 S1 R (by omega) P s (by omega)
          have sa := SWK.st1 S1 R (by omega) P (s + 1) (by omega) dk[s]!
          have sb := SWK.st2 S1 R (by omega) P (s + 1) s (by omega) (by omega) dk[s]! dk[s + 1]!
          have na : (enc dk[s + 1]!).length = k := R.hk _
          have nb : (enc dk[s]!).length = k := R.hk _
          generalize enc dk[s + 1]! = cI at S2 la sb na
          generalize enc dk[s]! = cJ at S2 lb sa sb nb
          clear S1
          go_wp2_with fail
          go_big_region_o
          all_goals go_wp2
          clear la lb sa sb
          go_roundg (s - i)
          case measure => omega
          case rel => exact ⟨s, by first | rfl | go_num, by omega, by omega, by omega, swp dk (s + 1) s, by rw [size_swp]; exact hdk, S2, hq'⟩
        · have hltz2 : ¬ (q : Int) > (i : Int) := by omega
          obtain rfl : i = q := by omega
          go_wp2
          (try simp only [Exit.inBlock, Exit.then]); refine bodyPost_ret (results_none rfl _ _ _) rfl ?_
          exact ⟨rfl, dk, A.take (i - a) ++ y :: A.drop (i - a), by have h1 : dk.toList = _ := HL; rw [h1]; simp only [List.append_assoc, List.cons_append], hdk, HF.2, HF.1, S1⟩
end Go.Proofs.YtmegbllhidkmoaaGreat.Tb

/- slices.symMergeCmpFunc over leases: the general case. -/
namespace Go.Proofs.YtmegbllhidkmoaaGreat.Tb
open Go.Shelf Go.RowKit Go.Lib Go.Sort
set_option linter.unusedVariables false
variable {P : Program} {α : Type} [Inhabited α]
/-- What symMerge does, at rows whose lengths add up to n or fewer. -/
def SymSays (P : Program) (enc : α → List Value) (k : Nat) (cf : α → α → Int) (bl : α → α → Prop) (g : Nat) (cb : Array Value) (w0 : World) (blk off cap : Nat) (d0 : Array α) (n : Nat) : Prop :=
  ∀ (d : Array α) (w : World) (X A B Y : List α) (a m b : Nat), A.length + B.length ≤ n → d0.size = d.size → SWK enc k w0 blk off d w → d.toList = X ++ (A ++ (B ++ Y)) → S2 cf bl A → S2 cf bl B → Ahead bl A B → 0 < A.length → 0 < B.length → X.length = a → a + A.length = m → m + B.length = b →
    Calls P 72 #[.slice (some ⟨blk, off, none⟩) d0.size cap, .int .i64 a, .int .i64 m, .int .i64 b, .func (.func g) #[] cb] w fun e w' =>
      e = .returned (.tuple #[]) ∧ ∃ (d' : Array α) (C : List α), d'.toList = X ++ (C ++ Y) ∧ d'.size = d0.size ∧ C.Perm (A ++ B) ∧ S2 cf bl C ∧ SWK enc k w0 blk off d' w'
set_option maxHeartbeats 16000000 in
set_option maxRecDepth 1000000 in
theorem sym_gen (L : StabLays P) (k : Nat) (aE : ∀ w, (isAgg 30).run P w = .ok true w) (zE : ∀ w, (Go.sizeOf 30).run P w = .ok k w) (enc : α → List Value) (cf : α → α → Int) (bl : α → α → Prop) (O : Ordered cf bl) (g : Nat) (cb : Array Value) (blk off cap : Nat) (d0 : Array α) (w0 : World)
    (eg : ∀ args w, (callFunc g args).run P w = .ok (.enter g args) w) (hcmp : CmpLays P g cb enc k cf blk off d0.size w0) (R : RowK enc k w0 blk off d0) (hsz : d0.size < 4611686018427387904) (n : Nat)
    (ih0 : ∀ n', n' < n → SymSays P enc k cf bl g cb w0 blk off cap d0 n') (d : Array α) (w : World) (X A B Y : List α) (a m b : Nat) (hn : A.length + B.length = n) (hs : d0.size = d.size) (S : SWK enc k w0 blk off d w) (hd : d.toList = X ++ (A ++ (B ++ Y))) (hA : S2 cf bl A) (hB : S2 cf bl B) (hx : Ahead bl A B) (hA0 : 2 ≤ A.length) (hB0 : 2 ≤ B.length) (ha : X.length = a) (hm : a + A.length = m) (hb : m + B.length = b) :
    Calls P 72 #[.slice (some ⟨blk, off, none⟩) d0.size cap, .int .i64 a, .int .i64 m, .int .i64 b, .func (.func g) #[] cb] w fun e w' =>
      e = .returned (.tuple #[]) ∧ ∃ (d' : Array α) (C : List α), d'.toList = X ++ (C ++ Y) ∧ d'.size = d0.size ∧ C.Perm (A ++ B) ∧ S2 cf bl C ∧ SWK enc k w0 blk off d' w' := by
  have mixed := L.mixed; have t0 := L.t0; have a0 := L.a0; have z0 := L.z0; have v0 := L.v0; have t3 := L.t3; have a3 := L.a3; have z3 := L.z3; have v3 := L.v3; have t4 := L.t4; have a4 := L.a4; have z4 := L.z4; have v4 := L.v4; have t22 := L.t22; have a22 := L.a22; have z22 := L.z22; have v22 := L.v22; have t25 := L.t25; have a25 := L.a25; have z25 := L.z25; have v25 := L.v25; have t9 := L.t9; have a9 := L.a9; have z9 := L.z9; have v9 := L.v9
  have esy : ∀ args w, (callFunc 72 args).run P w = .ok (.enter 72 args) w := enters_of L.fsy (by kernel_rfl) rfl
  have ero : ∀ args w, (callFunc 91 args).run P w = .ok (.enter 91 args) w := enters_of L.fro (by kernel_rfl) rfl
  have hlen : d.size = X.length + (A.length + (B.length + Y.length)) := by
    have := congrArg List.length hd
    simpa using this
  have hbd : b ≤ d0.size := by omega
  have ham : a + 2 ≤ m := by omega
  have hmb : m + 2 ≤ b := by omega
  have e1 : ((m : Int) - (a : Int) == 1) = false := by rw [beq_eq_false_iff_ne]; omega
  have e2 : ((b : Int) - (m : Int) == 1) = false := by rw [beq_eq_false_iff_ne]; omega
  obtain ⟨mid, hmz⟩ : ∃ mid : Nat, ((a : Int) + (b : Int)) / 2 = (mid : Int) := ⟨(a + b) / 2, by omega⟩
  have hmid : mid = (a + b) / 2 := by omega
  obtain ⟨s0, hs0⟩ : ∃ s0, s0 = if mid < m then mid + m - b else a := ⟨_, rfl⟩
  obtain ⟨r0, hr0⟩ : ∃ r0, r0 = if mid < m then mid else m := ⟨_, rfl⟩
  obtain ⟨p, hp⟩ : ∃ p, p + 1 = mid + m := ⟨mid + m - 1, by omega⟩
  have HB : Aside (s0 ≤ r0 ∧ a ≤ s0 ∧ r0 ≤ m ∧ r0 ≤ mid ∧ p - s0 < b ∧ mid + m ≤ s0 + b) := by
    by_cases hc : mid < m
    · rw [if_pos hc] at hs0 hr0; show _ ∧ _; omega
    · rw [if_neg hc] at hs0 hr0; show _ ∧ _; omega
  have HI := Lib.hid ih0
  have HC := Lib.hid hcmp
  have HD := Lib.hid hd
  have HX : Aside (X.length = a) := ha
  have HM : Aside (a + A.length = m) := hm
  have HBB : Aside (m + B.length = b) := hb
  have HMID : Aside (mid = (a + b) / 2) := hmid
  have HS0 := Lib.hid hs0
  have HR0 := Lib.hid hr0
  have HP : Aside (p + 1 = mid + m) := hp
  have HN : Aside (A.length + B.length = n) := hn
  have HSZ : Aside (d0.size = d.size) := hs
  have S0 : Aside (SWK enc k w0 blk off d w) := S
  have hpz : (mid : Int) + (m : Int) - 1 = (p : Int) := by omega
  have hmm : mid < b := by omega
  have hma : a < mid := by omega
  have hmp : m ≤ p := by omega
  have hmp2 : mid ≤ p := by omega
  have hpb : p < 2 * b := by omega
  clear hlen hd S ha hm hb hcmp ih0 hmid hp hn hs
  go_enter L.fsy, ntSy
  go_upto_if 140 with fail
  go_cut [20, 21] (fun v20 v21 wx => v20 = .int .i64 s0 ∧ v21 = .int .i64 r0 ∧ wx = w)
  case first =>
    by_cases hc : mid < m
    · rw [if_pos hc] at hs0 hr0
      have hcz : (m : Int) > (mid : Int) := by omega
      have hs0z : (mid : Int) + (m : Int) - (b : Int) = (s0 : Int) := by have : p + 1 = mid + m := HP; omega
      subst hr0
      clear hs0
      go_wp2_with fail
      go_meet
      exact ⟨rfl, rfl, rfl⟩
    · rw [if_neg hc] at hs0 hr0
      have hcz : ¬ (m : Int) > (mid : Int) := by omega
      subst hr0
      subst hs0
      go_wp2_with fail
      go_meet
      exact ⟨rfl, rfl, rfl⟩
  case rest =>
    obtain ⟨rfl, rfl, rfl⟩ := hcut
    obtain ⟨k1, k2, k3, k4, k5, k6⟩ := HB.out
    clear hs0 hr0
    go_wp2_with fail
    go_loopg [20, 21] (r0 - s0) (fun kx s10 s11 wr => ∃ i j : Nat, s10 = .int .i64 i ∧ s11 = .int .i64 j ∧ s0 ≤ i ∧ i ≤ j ∧ j ≤ r0 ∧ j - i ≤ kx ∧ Aside (SWK enc k w0 blk off d wr) ∧ Aside ((s0 < i → ¬ cf d[p - (i - 1)]! d[i - 1]! < 0) ∧ (j < r0 → cf d[p - j]! d[j]! < 0)))
    case atStart => exact ⟨s0, r0, rfl, rfl, Nat.le_refl _, k1, Nat.le_refl _, Nat.le_refl _, S0, ⟨fun h => absurd h (Nat.lt_irrefl _), fun h => absurd h (Nat.lt_irrefl _)⟩⟩
    case round =>
      clear S0
      obtain ⟨i, j, rfl, rfl, hmi, hij, hjb, hg1, S1, HQ⟩ := hrel
      by_cases hlt : i < j
      · have hltz : (i : Int) < (j : Int) := by omega
        obtain ⟨h, hz⟩ : ∃ h : Nat, ((i : Int) + (j : Int)) / 2 = (h : Int) := ⟨(i + j) / 2, by omega⟩
        have hih : i ≤ h := by omega
        have hhj : h < j := by omega
        obtain ⟨q, hqz⟩ : ∃ q : Nat, (p : Int) - (h : Int) = (q : Int) := ⟨p - h, by omega⟩
        have hqb : q < b := by omega
        have bh : (h : Int) < (d0.size : Int) := by omega
        have bq : (q : Int) < (d0.size : Int) := by omega
        have hqe : p - h = q := by omega
        have rq : IntKind.i64.wrap (q : Int) = (q : Int) := by rw [IntKind.wrap_i64]; omega
        have rq2 : IntKind.i64.wrap ((p : Int) - (h : Int)) = (q : Int) := by rw [IntKind.wrap_i64]; omega
        obtain ⟨u, hu⟩ : ∃ u, u = d[q]! := ⟨_, rfl⟩
        obtain ⟨v, hv⟩ : ∃ v, v = d[h]! := ⟨_, rfl⟩
        have la := SWK.ld S1 R (HSZ.out).symm P q (by have := HSZ.out; omega)
        have lb := SWK.ld S1 R (HSZ.out).symm P h (by have := HSZ.out; omega)
        rw [← hu] at la
        rw [← hv] at lb
        have hc := SWK.cmp S1 HC.out (HSZ.out).symm u v
        have HUV : Aside (u = d[p - h]! ∧ v = d[h]!) := ⟨by rw [hqe]; exact hu, hv⟩
        clear hu hv hqe
        by_cases hcf : cf u v < 0
        · have hdc : decide (cf u v < 0) = true := decide_eq_true hcf
          go_wp2_with fail
          go_quiet_grown (first | (go_at_fn g; refine Calls.grown_of (hc _ _)))
          have S2 : Aside (SWK enc k w0 blk off d (grow (wr.drewN nq) osq)) := SWK.grown S1 nq osq
          clear la lb hc S1
          generalize grow (wr.drewN nq) osq = w2 at S2 ⊢
          go_wp2_with fail
          go_roundg (h - i)
          case measure => omega
          case rel => exact ⟨i, h, rfl, rfl, hmi, hih, by omega, by omega, S2, ⟨HQ.1, fun _ => by rw [← HUV.1, ← HUV.2]; exact hcf⟩⟩
        · have hdc : decide (cf u v < 0) = false := decide_eq_false hcf
          go_wp2_with fail
          go_quiet_grown (first | (go_at_fn g; refine Calls.grown_of (hc _ _)))
          have S2 : Aside (SWK enc k w0 blk off d (grow (wr.drewN nq) osq)) := SWK.grown S1 nq osq
          clear la lb hc S1
          generalize grow (wr.drewN nq) osq = w2 at S2 ⊢
          go_wp2_with fail
          go_roundg (j - (h + 1))
          case measure => omega
          case rel => exact ⟨h + 1, j, by go_num, rfl, by omega, by omega, hjb, by omega, S2, ⟨fun _ => by rw [Nat.add_sub_cancel, ← HUV.1, ← HUV.2]; exact hcf, HQ.2⟩⟩
      · have hltz : ¬ (i : Int) < (j : Int) := by omega
        obtain rfl : i = j := by omega
        obtain ⟨s, rfl⟩ : ∃ s, s = i := ⟨_, rfl⟩
        obtain ⟨e, hez⟩ : ∃ e : Nat, (mid : Int) + (m : Int) - (s : Int) = (e : Int) := ⟨mid + m - s, by omega⟩
        have hes : e + s = mid + m := by omega
        obtain ⟨A1, A2, B1, B2, hAA, hBB, l1, l2, l3, l4, l5, l6, l7, l8, l9, l10, l11, hfin⟩ := gen_split O HD.out HX HM HBB hA hB hx hA0 hB0 HMID HS0.out HR0.out hmi hjb hes HP HQ.1 HQ.2
        subst hAA hBB
        have HA1 := Lib.hid (show S2 cf bl A1 from (List.pairwise_append.1 hA).1)
        have HA2 := Lib.hid (show S2 cf bl A2 from (List.pairwise_append.1 hA).2.1)
        have HB1 := Lib.hid (show S2 cf bl B1 from (List.pairwise_append.1 hB).1)
        have HB2 := Lib.hid (show S2 cf bl B2 from (List.pairwise_append.1 hB).2.1)
        have HAB1 := Lib.hid (show Ahead bl A1 B1 from hx.sub (fun _ h => List.mem_append_left _ h) (fun _ h => List.mem_append_left _ h))
        have HAB2 := Lib.hid (show Ahead bl A2 B2 from hx.sub (fun _ h => List.mem_append_right _ h) (fun _ h => List.mem_append_right _ h))
        have HDD := Lib.hid (show d.toList = X ++ (A1 ++ (A2 ++ (B1 ++ (B2 ++ Y)))) by rw [HD.out]; simp only [List.append_assoc])
        have HF := Lib.hid hfin
        have hnn : a + n = b := by have h1 : _ = n := HN; have h2 : a + _ = m := HM; have h3 : m + _ = b := HBB; omega
        have ih : ∀ n', a + n' < b → SymSays P enc k cf bl g cb w0 blk off cap d0 n' := fun n' h => HI.out n' (by omega)
        have HNN : Aside (a + n = b) := hnn
        clear hfin hA hB hx hA0 hB0 HQ HD HI hes hnn HN HM HBB
        have hae : e + s = mid + m := by omega
        by_cases al : s < m
        · by_cases be : m < e
          · by_cases ga : a < s
            · by_cases de : e < b
              · skip
                have q1 : s < m := by omega
                have q2 : m < e := by omega
                have q3 : a < s := by omega
                have q4 : e < b := by omega
                have z1 : ((s : Int) < (m : Int)) := by omega
                have z1b : decide ((s : Int) < (m : Int)) = true := decide_eq_true (by omega)
                have z2 : ((m : Int) < (e : Int)) := by omega
                have z2b : decide ((m : Int) < (e : Int)) = true := decide_eq_true (by omega)
                have z3 : ((a : Int) < (s : Int)) := by omega
                have z3b : decide ((a : Int) < (s : Int)) = true := decide_eq_true (by omega)
                have z4 : ((s : Int) < (mid : Int)) := by omega
                have z4b : decide ((s : Int) < (mid : Int)) = true := decide_eq_true (by omega)
                have z5 : ((mid : Int) < (e : Int)) := by omega
                have z5b : decide ((mid : Int) < (e : Int)) = true := decide_eq_true (by omega)
                have z6 : ((e : Int) < (b : Int)) := by omega
                have z6b : decide ((e : Int) < (b : Int)) = true := decide_eq_true (by omega)
                have hrot := rotate_any L k aE zE enc (.func (.func g) #[] cb) blk off cap d0 d w0 wr R HSZ.out S1 (by have := HSZ.out; omega) (X ++ A1) A2 B1 (B2 ++ Y) (by rw [HDD.out]; simp only [List.append_assoc]) (by omega) (by omega) s m e (by have h2 : X.length = a := HX; rw [List.length_append]; omega) (by omega) (by omega)
                rw [← HSZ.out] at hrot
                clear S1
                go_wp2_with (go_at_fn 91; refine hrot.mono ?_; rintro e w1 ⟨rfl, d1, hl1, hz1, hS1⟩)
                clear hrot
                have HL1 := Lib.hid (show d1.toList = X ++ ((A1 ++ B1) ++ ((A2 ++ B2) ++ Y)) by rw [hl1]; simp only [List.append_assoc])
                have HS1 : Aside (SWK enc k w0 blk off d1 w1) := hS1
                have HZ1 : Aside (d1.size = d0.size) := hz1
                clear hl1 hz1 hS1
                have hsym := ih (a + A1.length + B1.length - a) (by omega) d1 w1 X A1 B1 ((A2 ++ B2) ++ Y) a s mid (by omega) (HZ1).symm HS1 (by rw [HL1.out]; simp only [List.append_assoc]) HA1.out HB1.out HAB1.out (by omega) (by omega) HX (by omega) (by omega)
                go_wp2_with (go_at_fn 72; refine hsym.mono ?_; rintro e w2 ⟨rfl, d2, C1, hl2, hz2, hp2, hs2, hS2⟩)
                clear hsym
                have HP1 := Lib.hid (And.intro hp2 hs2)
                have HL2 := Lib.hid hl2
                have HS2 : Aside (SWK enc k w0 blk off d2 w2) := hS2
                have HZ2 : Aside (d2.size = d0.size) := hz2
                clear hp2 hs2 hl2 hz2 hS2
                have HC1 := Lib.hid HP1.out.1.length_eq
                have hsym := ih (m + A2.length + B2.length - m) (by omega) d2 w2 (X ++ C1) A2 B2 Y mid e b (by omega) (HZ2).symm HS2 (by rw [HL2.out]; simp only [List.append_assoc]) HA2.out HB2.out HAB2.out (by omega) (by omega) (by have h1 := HC1.out; have h2 : X.length = a := HX; rw [List.length_append] at h1 ⊢; omega) (by omega) (by omega)
                go_wp2_with (go_at_fn 72; refine hsym.mono ?_; rintro e w3 ⟨rfl, d3, C2, hl3, hz3, hp3, hs3, hS3⟩)
                obtain ⟨f1, f2⟩ := HF.out C1 C2 HP1.out.1 hp3 HP1.out.2 hs3
                go_end0
                exact ⟨rfl, d3, C1 ++ C2, by rw [hl3]; simp only [List.append_assoc], hz3, (by first | exact f2 | (rw [← List.append_assoc A1]; exact f2)), f1, hS3⟩
              · skip
                have q1 : s < m := by omega
                have q2 : m < e := by omega
                have q3 : a < s := by omega
                have q4 : ¬ e < b := by omega
                have z1 : ((s : Int) < (m : Int)) := by omega
                have z1b : decide ((s : Int) < (m : Int)) = true := decide_eq_true (by omega)
                have z2 : ((m : Int) < (e : Int)) := by omega
                have z2b : decide ((m : Int) < (e : Int)) = true := decide_eq_true (by omega)
                have z3 : ((a : Int) < (s : Int)) := by omega
                have z3b : decide ((a : Int) < (s : Int)) = true := decide_eq_true (by omega)
                have z4 : ((s : Int) < (mid : Int)) := by omega
                have z4b : decide ((s : Int) < (mid : Int)) = true := decide_eq_true (by omega)
                have z5 : ((mid : Int) < (e : Int)) := by omega
                have z5b : decide ((mid : Int) < (e : Int)) = true := decide_eq_true (by omega)
                have z6 : ¬ ((e : Int) < (b : Int)) := by omega
                have z6b : decide ((e : Int) < (b : Int)) = false := decide_eq_false (by omega)
                have hrot := rotate_any L k aE zE enc (.func (.func g) #[] cb) blk off cap d0 d w0 wr R HSZ.out S1 (by have := HSZ.out; omega) (X ++ A1) A2 B1 (B2 ++ Y) (by rw [HDD.out]; simp only [List.append_assoc]) (by omega) (by omega) s m e (by have h2 : X.length = a := HX; rw [List.length_append]; omega) (by omega) (by omega)
                rw [← HSZ.out] at hrot
                clear S1
                go_wp2_with (go_at_fn 91; refine hrot.mono ?_; rintro e w1 ⟨rfl, d1, hl1, hz1, hS1⟩)
                clear hrot
                have HL1 := Lib.hid (show d1.toList = X ++ ((A1 ++ B1) ++ ((A2 ++ B2) ++ Y)) by rw [hl1]; simp only [List.append_assoc])
                have HS1 : Aside (SWK enc k w0 blk off d1 w1) := hS1
                have HZ1 : Aside (d1.size = d0.size) := hz1
                clear hl1 hz1 hS1
                have hsym := ih (a + A1.length + B1.length - a) (by omega) d1 w1 X A1 B1 ((A2 ++ B2) ++ Y) a s mid (by omega) (HZ1).symm HS1 (by rw [HL1.out]; simp only [List.append_assoc]) HA1.out HB1.out HAB1.out (by omega) (by omega) HX (by omega) (by omega)
                go_wp2_with (go_at_fn 72; refine hsym.mono ?_; rintro e w2 ⟨rfl, d2, C1, hl2, hz2, hp2, hs2, hS2⟩)
                clear hsym
                have HP1 := Lib.hid (And.intro hp2 hs2)
                have HL2 := Lib.hid hl2
                have HS2 : Aside (SWK enc k w0 blk off d2 w2) := hS2
                have HZ2 : Aside (d2.size = d0.size) := hz2
                clear hp2 hs2 hl2 hz2 hS2
                have HP2 := Lib.hid (show S2 cf bl (A2 ++ B2) by
                  obtain rfl : B2 = [] := List.length_eq_zero_iff.1 (by omega)
                  rw [List.append_nil]; exact HA2.out)
                go_wp2_with fail
                obtain ⟨f1, f2⟩ := HF.out C1 (A2 ++ B2) HP1.out.1 (List.Perm.refl _) HP1.out.2 HP2.out
                go_end0
                exact ⟨rfl, d2, C1 ++ (A2 ++ B2), by rw [HL2.out]; simp only [List.append_assoc], HZ2, (by first | exact f2 | (rw [← List.append_assoc A1]; exact f2)), f1, HS2⟩
            · by_cases de : e < b
              · skip
                have q1 : s < m := by omega
                have q2 : m < e := by omega
                have q3 : ¬ a < s := by omega
                have q4 : e < b := by omega
                have z1 : ((s : Int) < (m : Int)) := by omega
                have z1b : decide ((s : Int) < (m : Int)) = true := decide_eq_true (by omega)
                have z2 : ((m : Int) < (e : Int)) := by omega
                have z2b : decide ((m : Int) < (e : Int)) = true := decide_eq_true (by omega)
                have z3 : ¬ ((a : Int) < (s : Int)) := by omega
                have z3b : decide ((a : Int) < (s : Int)) = false := decide_eq_false (by omega)
                have z4 : ((s : Int) < (mid : Int)) := by omega
                have z4b : decide ((s : Int) < (mid : Int)) = true := decide_eq_true (by omega)
                have z5 : ((mid : Int) < (e : Int)) := by omega
                have z5b : decide ((mid : Int) < (e : Int)) = true := decide_eq_true (by omega)
                have z6 : ((e : Int) < (b : Int)) := by omega
                have z6b : decide ((e : Int) < (b : Int)) = true := decide_eq_true (by omega)
                have hrot := rotate_any L k aE zE enc (.func (.func g) #[] cb) blk off cap d0 d w0 wr R HSZ.out S1 (by have := HSZ.out; omega) (X ++ A1) A2 B1 (B2 ++ Y) (by rw [HDD.out]; simp only [List.append_assoc]) (by omega) (by omega) s m e (by have h2 : X.length = a := HX; rw [List.length_append]; omega) (by omega) (by omega)
                rw [← HSZ.out] at hrot
                clear S1
                go_wp2_with (go_at_fn 91; refine hrot.mono ?_; rintro e w1 ⟨rfl, d1, hl1, hz1, hS1⟩)
                clear hrot
                have HL1 := Lib.hid (show d1.toList = X ++ ((A1 ++ B1) ++ ((A2 ++ B2) ++ Y)) by rw [hl1]; simp only [List.append_assoc])
                have HS1 : Aside (SWK enc k w0 blk off d1 w1) := hS1
                have HZ1 : Aside (d1.size = d0.size) := hz1
                clear hl1 hz1 hS1
                obtain ⟨C1, hC1⟩ : ∃ C1, C1 = A1 ++ B1 := ⟨_, rfl⟩
                have HP1 := Lib.hid (show C1.Perm (A1 ++ B1) ∧ S2 cf bl C1 by
                  obtain rfl : A1 = [] := List.length_eq_zero_iff.1 (by omega)
                  rw [hC1]; exact ⟨List.Perm.refl _, HB1.out⟩)
                have HL2 := Lib.hid (show d1.toList = X ++ (C1 ++ ((A2 ++ B2) ++ Y)) by rw [HL1.out, hC1])
                have HS2 := HS1
                have HZ2 := HZ1
                clear hC1
                have HC1 := Lib.hid HP1.out.1.length_eq
                have hsym := ih (m + A2.length + B2.length - m) (by omega) d1 w1 (X ++ C1) A2 B2 Y mid e b (by omega) (HZ2).symm HS2 (by rw [HL2.out]; simp only [List.append_assoc]) HA2.out HB2.out HAB2.out (by omega) (by omega) (by have h1 := HC1.out; have h2 : X.length = a := HX; rw [List.length_append] at h1 ⊢; omega) (by omega) (by omega)
                go_wp2_with (go_at_fn 72; refine hsym.mono ?_; rintro e w3 ⟨rfl, d3, C2, hl3, hz3, hp3, hs3, hS3⟩)
                obtain ⟨f1, f2⟩ := HF.out C1 C2 HP1.out.1 hp3 HP1.out.2 hs3
                go_end0
                exact ⟨rfl, d3, C1 ++ C2, by rw [hl3]; simp only [List.append_assoc], hz3, (by first | exact f2 | (rw [← List.append_assoc A1]; exact f2)), f1, hS3⟩
              · skip
                have q1 : s < m := by omega
                have q2 : m < e := by omega
                have q3 : ¬ a < s := by omega
                have q4 : ¬ e < b := by omega
                have z1 : ((s : Int) < (m : Int)) := by omega
                have z1b : decide ((s : Int) < (m : Int)) = true := decide_eq_true (by omega)
                have z2 : ((m : Int) < (e : Int)) := by omega
                have z2b : decide ((m : Int) < (e : Int)) = true := decide_eq_true (by omega)
                have z3 : ¬ ((a : Int) < (s : Int)) := by omega
                have z3b : decide ((a : Int) < (s : Int)) = false := decide_eq_false (by omega)
                have z4 : ((s : Int) < (mid : Int)) := by omega
                have z4b : decide ((s : Int) < (mid : Int)) = true := decide_eq_true (by omega)
                have z5 : ((mid : Int) < (e : Int)) := by omega
                have z5b : decide ((mid : Int) < (e : Int)) = true := decide_eq_true (by omega)
                have z6 : ¬ ((e : Int) < (b : Int)) := by omega
                have z6b : decide ((e : Int) < (b : Int)) = false := decide_eq_false (by omega)
                have hrot := rotate_any L k aE zE enc (.func (.func g) #[] cb) blk off cap d0 d w0 wr R HSZ.out S1 (by have := HSZ.out; omega) (X ++ A1) A2 B1 (B2 ++ Y) (by rw [HDD.out]; simp only [List.append_assoc]) (by omega) (by omega) s m e (by have h2 : X.length = a := HX; rw [List.length_append]; omega) (by omega) (by omega)
                rw [← HSZ.out] at hrot
                clear S1
                go_wp2_with (go_at_fn 91; refine hrot.mono ?_; rintro e w1 ⟨rfl, d1, hl1, hz1, hS1⟩)
                clear hrot
                have HL1 := Lib.hid (show d1.toList = X ++ ((A1 ++ B1) ++ ((A2 ++ B2) ++ Y)) by rw [hl1]; simp only [List.append_assoc])
                have HS1 : Aside (SWK enc k w0 blk off d1 w1) := hS1
                have HZ1 : Aside (d1.size = d0.size) := hz1
                clear hl1 hz1 hS1
                obtain ⟨C1, hC1⟩ : ∃ C1, C1 = A1 ++ B1 := ⟨_, rfl⟩
                have HP1 := Lib.hid (show C1.Perm (A1 ++ B1) ∧ S2 cf bl C1 by
                  obtain rfl : A1 = [] := List.length_eq_zero_iff.1 (by omega)
                  rw [hC1]; exact ⟨List.Perm.refl _, HB1.out⟩)
                have HL2 := Lib.hid (show d1.toList = X ++ (C1 ++ ((A2 ++ B2) ++ Y)) by rw [HL1.out, hC1])
                have HS2 := HS1
                have HZ2 := HZ1
                clear hC1
                have HP2 := Lib.hid (show S2 cf bl (A2 ++ B2) by
                  obtain rfl : B2 = [] := List.length_eq_zero_iff.1 (by omega)
                  rw [List.append_nil]; exact HA2.out)
                go_wp2_with fail
                obtain ⟨f1, f2⟩ := HF.out C1 (A2 ++ B2) HP1.out.1 (List.Perm.refl _) HP1.out.2 HP2.out
                go_end0
                exact ⟨rfl, d1, C1 ++ (A2 ++ B2), by rw [HL2.out]; simp only [List.append_assoc], HZ2, (by first | exact f2 | (rw [← List.append_assoc A1]; exact f2)), f1, HS2⟩
          · skip
            have q1 : s < m := by omega
            have q2 : ¬ m < e := by omega
            have q3 : a < s := by omega
            have q4 : e < b := by omega
            have z1 : ((s : Int) < (m : Int)) := by omega
            have z1b : decide ((s : Int) < (m : Int)) = true := decide_eq_true (by omega)
            have z2 : ¬ ((m : Int) < (e : Int)) := by omega
            have z2b : decide ((m : Int) < (e : Int)) = false := decide_eq_false (by omega)
            have z3 : ((a : Int) < (s : Int)) := by omega
            have z3b : decide ((a : Int) < (s : Int)) = true := decide_eq_true (by omega)
            have z4 : ¬ ((s : Int) < (mid : Int)) := by omega
            have z4b : decide ((s : Int) < (mid : Int)) = false := decide_eq_false (by omega)
            have z5 : ((mid : Int) < (e : Int)) := by omega
            have z5b : decide ((mid : Int) < (e : Int)) = true := decide_eq_true (by omega)
            have z6 : ((e : Int) < (b : Int)) := by omega
            have z6b : decide ((e : Int) < (b : Int)) = true := decide_eq_true (by omega)
            have HL1 := Lib.hid (show d.toList = X ++ ((A1 ++ B1) ++ ((A2 ++ B2) ++ Y)) by
              obtain rfl : B1 = [] := List.length_eq_zero_iff.1 (by omega)
              rw [HDD.out]; simp only [List.append_assoc, List.nil_append])
            have HS1 : Aside (SWK enc k w0 blk off d wr) := S1
            have HZ1 : Aside (d.size = d0.size) := (HSZ.out).symm
            clear S1
            obtain ⟨C1, hC1⟩ : ∃ C1, C1 = A1 ++ B1 := ⟨_, rfl⟩
            have HP1 := Lib.hid (show C1.Perm (A1 ++ B1) ∧ S2 cf bl C1 by
              obtain rfl : B1 = [] := List.length_eq_zero_iff.1 (by omega)
              rw [hC1, List.append_nil]; exact ⟨List.Perm.refl _, HA1.out⟩)
            have HL2 := Lib.hid (show d.toList = X ++ (C1 ++ ((A2 ++ B2) ++ Y)) by rw [HL1.out, hC1])
            have HS2 := HS1
            have HZ2 := HZ1
            clear hC1
            have HC1 := Lib.hid HP1.out.1.length_eq
            have hsym := ih (m + A2.length + B2.length - m) (by omega) d wr (X ++ C1) A2 B2 Y mid e b (by omega) (HZ2).symm HS2 (by rw [HL2.out]; simp only [List.append_assoc]) HA2.out HB2.out HAB2.out (by omega) (by omega) (by have h1 := HC1.out; have h2 : X.length = a := HX; rw [List.length_append] at h1 ⊢; omega) (by omega) (by omega)
            go_wp2_with (go_at_fn 72; refine hsym.mono ?_; rintro e w3 ⟨rfl, d3, C2, hl3, hz3, hp3, hs3, hS3⟩)
            obtain ⟨f1, f2⟩ := HF.out C1 C2 HP1.out.1 hp3 HP1.out.2 hs3
            go_end0
            exact ⟨rfl, d3, C1 ++ C2, by rw [hl3]; simp only [List.append_assoc], hz3, (by first | exact f2 | (rw [← List.append_assoc A1]; exact f2)), f1, hS3⟩
        · by_cases be : m < e
          · skip
            have q1 : ¬ s < m := by omega
            have q2 : m < e := by omega
            have q3 : a < s := by omega
            have q4 : e < b := by omega
            have z1 : ¬ ((s : Int) < (m : Int)) := by omega
            have z1b : decide ((s : Int) < (m : Int)) = false := decide_eq_false (by omega)
            have z2 : ((m : Int) < (e : Int)) := by omega
            have z2b : decide ((m : Int) < (e : Int)) = true := decide_eq_true (by omega)
            have z3 : ((a : Int) < (s : Int)) := by omega
            have z3b : decide ((a : Int) < (s : Int)) = true := decide_eq_true (by omega)
            have z4 : ((s : Int) < (mid : Int)) := by omega
            have z4b : decide ((s : Int) < (mid : Int)) = true := decide_eq_true (by omega)
            have z5 : ¬ ((mid : Int) < (e : Int)) := by omega
            have z5b : decide ((mid : Int) < (e : Int)) = false := decide_eq_false (by omega)
            have z6 : ((e : Int) < (b : Int)) := by omega
            have z6b : decide ((e : Int) < (b : Int)) = true := decide_eq_true (by omega)
            have HL1 := Lib.hid (show d.toList = X ++ ((A1 ++ B1) ++ ((A2 ++ B2) ++ Y)) by
              obtain rfl : A2 = [] := List.length_eq_zero_iff.1 (by omega)
              rw [HDD.out]; simp only [List.append_assoc, List.nil_append])
            have HS1 : Aside (SWK enc k w0 blk off d wr) := S1
            have HZ1 : Aside (d.size = d0.size) := (HSZ.out).symm
            clear S1
            have hsym := ih (a + A1.length + B1.length - a) (by omega) d wr X A1 B1 ((A2 ++ B2) ++ Y) a s mid (by omega) (HZ1).symm HS1 (by rw [HL1.out]; simp only [List.append_assoc]) HA1.out HB1.out HAB1.out (by omega) (by omega) HX (by omega) (by omega)
            go_wp2_with (go_at_fn 72; refine hsym.mono ?_; rintro e w2 ⟨rfl, d2, C1, hl2, hz2, hp2, hs2, hS2⟩)
            clear hsym
            have HP1 := Lib.hid (And.intro hp2 hs2)
            have HL2 := Lib.hid hl2
            have HS2 : Aside (SWK enc k w0 blk off d2 w2) := hS2
            have HZ2 : Aside (d2.size = d0.size) := hz2
            clear hp2 hs2 hl2 hz2 hS2
            have HP2 := Lib.hid (show S2 cf bl (A2 ++ B2) by
              obtain rfl : A2 = [] := List.length_eq_zero_iff.1 (by omega)
              exact HB2.out)
            go_wp2_with fail
            obtain ⟨f1, f2⟩ := HF.out C1 (A2 ++ B2) HP1.out.1 (List.Perm.refl _) HP1.out.2 HP2.out
            go_end0
            exact ⟨rfl, d2, C1 ++ (A2 ++ B2), by rw [HL2.out]; simp only [List.append_assoc], HZ2, (by first | exact f2 | (rw [← List.append_assoc A1]; exact f2)), f1, HS2⟩
          · skip
            have q1 : ¬ s < m := by omega
            have q2 : ¬ m < e := by omega
            have q3 : a < s := by omega
            have q4 : e < b := by omega
            have z1 : ¬ ((s : Int) < (m : Int)) := by omega
            have z1b : decide ((s : Int) < (m : Int)) = false := decide_eq_false (by omega)
            have z2 : ¬ ((m : Int) < (e : Int)) := by omega
            have z2b : decide ((m : Int) < (e : Int)) = false := decide_eq_false (by omega)
            have z3 : ((a : Int) < (s : Int)) := by omega
            have z3b : decide ((a : Int) < (s : Int)) = true := decide_eq_true (by omega)
            have z4 : ¬ ((s : Int) < (mid : Int)) := by omega
            have z4b : decide ((s : Int) < (mid : Int)) = false := decide_eq_false (by omega)
            have z5 : ¬ ((mid : Int) < (e : Int)) := by omega
            have z5b : decide ((mid : Int) < (e : Int)) = false := decide_eq_false (by omega)
            have z6 : ((e : Int) < (b : Int)) := by omega
            have z6b : decide ((e : Int) < (b : Int)) = true := decide_eq_true (by omega)
            have HL1 := Lib.hid (show d.toList = X ++ ((A1 ++ B1) ++ ((A2 ++ B2) ++ Y)) by
              obtain rfl : A2 = [] := List.length_eq_zero_iff.1 (by omega)
              rw [HDD.out]; simp only [List.append_assoc, List.nil_append])
            have HS1 : Aside (SWK enc k w0 blk off d wr) := S1
            have HZ1 : Aside (d.size = d0.size) := (HSZ.out).symm
            clear S1
            obtain ⟨C1, hC1⟩ : ∃ C1, C1 = A1 ++ B1 := ⟨_, rfl⟩
            have HP1 := Lib.hid (show C1.Perm (A1 ++ B1) ∧ S2 cf bl C1 by
              obtain rfl : B1 = [] := List.length_eq_zero_iff.1 (by omega)
              rw [hC1, List.append_nil]; exact ⟨List.Perm.refl _, HA1.out⟩)
            have HL2 := Lib.hid (show d.toList = X ++ (C1 ++ ((A2 ++ B2) ++ Y)) by rw [HL1.out, hC1])
            have HS2 := HS1
            have HZ2 := HZ1
            clear hC1
            have HP2 := Lib.hid (show S2 cf bl (A2 ++ B2) by
              obtain rfl : A2 = [] := List.length_eq_zero_iff.1 (by omega)
              exact HB2.out)
            go_wp2_with fail
            obtain ⟨f1, f2⟩ := HF.out C1 (A2 ++ B2) HP1.out.1 (List.Perm.refl _) HP1.out.2 HP2.out
            go_end0
            exact ⟨rfl, d, C1 ++ (A2 ++ B2), by rw [HL2.out]; simp only [List.append_assoc], HZ2, (by first | exact f2 | (rw [← List.append_assoc A1]; exact f2)), f1, HS2⟩
theorem sym_any (L : StabLays P) (k : Nat) (aE : ∀ w, (isAgg 30).run P w = .ok true w) (zE : ∀ w, (Go.sizeOf 30).run P w = .ok k w) (enc : α → List Value) (cf : α → α → Int) (bl : α → α → Prop) (O : Ordered cf bl) (g : Nat) (cb : Array Value) (blk off cap : Nat) (d0 : Array α) (w0 : World)
    (eg : ∀ args w, (callFunc g args).run P w = .ok (.enter g args) w) (hcmp : CmpLays P g cb enc k cf blk off d0.size w0) (R : RowK enc k w0 blk off d0) (hsz : d0.size < 4611686018427387904) (n : Nat) : SymSays P enc k cf bl g cb w0 blk off cap d0 n := by
  induction n using Nat.strongRecOn with
  | _ n ih =>
    intro d w X A B Y a m b hn hs S hd hA hB hx hA0 hB0 ha hm hb
    by_cases h1 : A.length = 1
    · obtain ⟨x, rfl⟩ := List.length_eq_one_iff.1 h1
      have h := sym_first L k aE zE enc cf bl O g cb blk off cap d0 d w0 w eg hcmp R hs S (by omega) X B Y x hd hB hx hB0 a m b ha (by simpa using hm) hb
      rw [← hs] at h
      exact h
    · by_cases h2 : B.length = 1
      · obtain ⟨y, rfl⟩ := List.length_eq_one_iff.1 h2
        have h := sym_last L k aE zE enc cf bl O g cb blk off cap d0 d w0 w eg hcmp R hs S (by omega) X A Y y hd hA hx (by omega) a m b ha hm (by simpa using hb)
        rw [← hs] at h
        exact h
      · exact sym_gen L k aE zE enc cf bl O g cb blk off cap d0 w0 eg hcmp R hsz (A.length + B.length) (fun n' h => ih n' (by omega)) d w X A B Y a m b rfl hs S hd hA hB hx (by omega) (by omega) ha hm hb
end Go.Proofs.YtmegbllhidkmoaaGreat.Tb

/- slices.SortStableFunc over leases that lie in their order, by when they end. -/
namespace Go.Proofs.YtmegbllhidkmoaaGreat.Tb
open Go.Shelf Go.RowKit Go.Lib Go.Sort
set_option linter.unusedVariables false
theorem stabLays : StabLays Tryz.prog where
  mixed := by kernel_rfl
  fsw := Tryz.func104
  fro := Tryz.func91
  fsy := Tryz.func72
  t0 := by kernel_rfl
  a0 := fun w => by kernel_rfl
  z0 := fun w => by kernel_rfl
  v0 := fun w => by kernel_rfl
  t3 := by kernel_rfl
  a3 := fun w => by kernel_rfl
  z3 := fun w => by kernel_rfl
  v3 := fun w => by kernel_rfl
  t4 := by kernel_rfl
  a4 := fun w => by kernel_rfl
  z4 := fun w => by kernel_rfl
  v4 := fun w => by kernel_rfl
  t22 := by kernel_rfl
  a22 := fun w => by kernel_rfl
  z22 := fun w => by kernel_rfl
  v22 := fun w => by kernel_rfl
  t25 := by kernel_rfl
  a25 := fun w => by kernel_rfl
  z25 := fun w => by kernel_rfl
  v25 := fun w => by kernel_rfl
  t9 := by kernel_rfl
  a9 := fun w => by kernel_rfl
  z9 := fun w => by kernel_rfl
  v9 := fun w => by kernel_rfl
theorem ordT : Ordered cmpT klt := ⟨cmpT_swo, fun _ _ _ => klt_trans⟩
abbrev Late (R : List Lease) : Prop := S2 cmpT klt R
theorem ahead_of {O1 O2 C1 C2 : List Lease} (h : Sorted (O1 ++ O2)) (h1 : C1.Perm O1) (h2 : C2.Perm O2) : Ahead klt C1 C2 := fun x hx y hy => (List.pairwise_append.1 h).2.2 x (h1.mem_iff.1 hx) y (h2.mem_iff.1 hy)
theorem sorted_mid {O1 O2 O3 : List Lease} (h : Sorted (O1 ++ (O2 ++ O3))) : Sorted O2 := (List.pairwise_append.1 (List.pairwise_append.1 h).2.1).1
theorem sorted_end {O1 O2 : List Lease} (h : Sorted (O1 ++ O2)) : Sorted O2 := (List.pairwise_append.1 h).2.1
set_option maxHeartbeats 8000000 in
set_option maxRecDepth 1000000 in
theorem stable_any (w0 w : World) (blk off cap : Nat) (d0 : Array Lease) (R : RowK Lease.cells 8 w0 blk off d0) (S : SWK Lease.cells 8 w0 blk off d0 w) (hsz : d0.size < 1099511627776) (hsort : Sorted d0.toList) (hcmp : CmpLays Tryz.prog 39 #[] Lease.cells 8 cmpT blk off d0.size w0) :
    Calls Tryz.prog 56 #[.slice (some ⟨blk, off, none⟩) d0.size cap, .int .i64 (d0.size : Int), .func (.func 39) #[] #[]] w fun e w' =>
      e = .returned (.tuple #[]) ∧ ∃ d' : Array Lease, d'.size = d0.size ∧ d'.toList.Perm d0.toList ∧ Late d'.toList ∧ SWK Lease.cells 8 w0 blk off d' w' := by
  have eg := fun args w => enters_of Tryz.func39 (by kernel_rfl) rfl (args := args) (w := w)
  have hL : SlLaysF0.n20 Tryz.prog Tryz.sortLease_ren := { Tryz.sortLease with }
  have hins : ∀ (a b : Nat) (d : Array Lease) (W : World), d0.size = d.size → SWK Lease.cells 8 w0 blk off d W → a ≤ b → b ≤ d0.size → Calls Tryz.prog 71 #[.slice (some ⟨blk, off, none⟩) d0.size cap, .int .i64 a, .int .i64 b, .func (.func 39) #[] #[]] W fun e w' => e = .returned (.tuple #[]) ∧ SWK Lease.cells 8 w0 blk off (Sort.insertionSort (ltOf cmpT) d a b) w' := fun a b d W hs S hab hb => by
    have h : Calls Tryz.prog 71 #[.slice (some ⟨blk, off, none⟩) d.size cap, .int .i64 a, .int .i64 b, .func (.func 39) #[] #[]] W fun e w' => e = .returned (.tuple #[]) ∧ SWK Lease.cells 8 w0 blk off (Sort.insertionSort (ltOf cmpT) d a b) w' := AnyQ.insertionSortCmpFunc_w hL 8 Tryz.isAgg30 Tryz.sizeOf30 Lease.cells cmpT 39 #[] blk off cap a b d0 d w0 W eg hcmp R hs S cmpT_swo hab (by omega) (by omega)
    rw [← hs] at h
    exact h
  have hsym : ∀ n, SymSays Tryz.prog Lease.cells 8 cmpT klt 39 #[] w0 blk off cap d0 n := fun n => sym_any stabLays 8 Tryz.isAgg30 Tryz.sizeOf30 Lease.cells cmpT klt ordT 39 #[] blk off cap d0 w0 eg hcmp R (by omega) n
  have hinl : ∀ (a b : Nat) (d : Array Lease) (P T Q : List Lease), d.toList = P ++ (T ++ Q) → P.length = a → a + T.length = b → Sorted T → ∃ S', (Sort.insertionSort (ltOf cmpT) d a b).toList = P ++ (S' ++ Q) ∧ S'.Perm T ∧ S2 cmpT klt S' := fun a b d P T Q h ha hb hT => insertionSort_list ordT (ltOf cmpT) (fun _ _ => rfl) d P T Q a b h ha hb hT
  have hsize : ∀ {a b : Array Lease} {l : List Lease}, a.toList.Perm l → l.length = b.size → a.size = b.size := fun h k => by rw [← k, ← h.length_eq, Array.length_toList]
  obtain ⟨n, hn⟩ : ∃ n, d0.size = n := ⟨_, rfl⟩
  obtain ⟨R0, hR0⟩ : ∃ R0, d0.toList = R0 := ⟨_, rfl⟩
  have hRl : R0.length = n := by rw [← hR0, Array.length_toList, hn]
  rw [hR0] at hsort ⊢
  have HINS := Lib.hid hins
  have HSYM := Lib.hid hsym
  have HN := Lib.hid hn
  have HRL := Lib.hid hRl
  have HSO := Lib.hid hsort
  have HINL := Lib.hid hinl
  have START : Aside (∃ dk : Array Lease, SWK Lease.cells 8 w0 blk off dk w ∧ ∃ O1 C1 O2, R0 = O1 ++ O2 ∧ O1.length = 0 ∧ Pieces cmpT klt 20 O1 C1 ∧ dk.toList = C1 ++ O2) := ⟨d0, S, [], [], R0, rfl, rfl, .nil, hR0⟩
  rw [hn] at hsz ⊢
  clear hins hsym hn hRl hsort hcmp hinl S hR0 R hL eg
  go_enter Tryz.func56, Tryz.ntmps56
  go_wp2_with fail
  go_loopg [7, 8] n (fun kx s7 s8 wr => ∃ j : Nat, s7 = .int .i64 j ∧ s8 = .int .i64 ((j : Int) + 20) ∧ j ≤ n ∧ n - j ≤ kx ∧ Aside (∃ dk : Array Lease, SWK Lease.cells 8 w0 blk off dk wr ∧ ∃ O1 C1 O2, R0 = O1 ++ O2 ∧ O1.length = j ∧ Pieces cmpT klt 20 O1 C1 ∧ dk.toList = C1 ++ O2))
  case atStart => exact ⟨0, rfl, rfl, Nat.zero_le _, Nat.le_refl _, START⟩
  case round =>
    clear START
    obtain ⟨j, rfl, rfl, hjn, hg1, dk, S1, O1, C1, O2, hR, hO1, hP, hdk⟩ := hrel
    have hl2 : O2.length = n - j := by have h := HRL.out; rw [hR, List.length_append] at h; omega
    have hC1 := hP.len
    have hds : d0.size = dk.size := by
      have h := congrArg List.length hdk
      rw [Array.length_toList, List.length_append] at h
      have := HN.out
      omega
    by_cases hlt : j + 20 ≤ n
    · have hltz : (j : Int) + 20 ≤ (n : Int) := by omega
      obtain ⟨o, O3, rfl, ho⟩ : ∃ o O3, O2 = o ++ O3 ∧ o.length = 20 := ⟨O2.take 20, O2.drop 20, (List.take_append_drop _ _).symm, by rw [List.length_take]; omega⟩
      obtain ⟨c, hc1, hc2, hc3⟩ := HINL.out j (j + 20) dk C1 o O3 hdk (by omega) (by omega) (sorted_mid (by rw [← hR]; exact HSO.out))
      have hcall := HINS.out j (j + 20) dk wr hds S1 (by omega) (by have := HN.out; omega)
      have e1 : ((j + 20 : Nat) : Int) = (j : Int) + 20 := by omega
      rw [e1, HN.out] at hcall
      have HREL : Aside (∃ O1' C1' O2', R0 = O1' ++ O2' ∧ O1'.length = j + 20 ∧ Pieces cmpT klt 20 O1' C1' ∧ (Sort.insertionSort (ltOf cmpT) dk j (j + 20)).toList = C1' ++ O2') := ⟨O1 ++ o, C1 ++ c, O3, by rw [hR, List.append_assoc], by rw [List.length_append]; omega, .snoc hP ho hc2 hc3, by rw [hc1, List.append_assoc]⟩
      clear e1 hR hO1 hP hdk hl2 hC1 hds ho hc1 hc2 hc3 S1
      go_wp2_with (go_at_call 71; refine hcall.mono ?_; rintro e w1 ⟨rfl, hS1⟩)
      go_roundg (n - (j + 20))
      case measure => omega
      case rel => exact ⟨j + 20, by go_num, by first | rfl | go_num, by omega, by omega, _, hS1, HREL⟩
    · have hltz : ¬ (j : Int) + 20 ≤ (n : Int) := by omega
      obtain ⟨c, hc1, hc2, hc3⟩ := HINL.out j n dk C1 O2 [] (by rw [hdk, List.append_nil]) (by omega) (by omega) (sorted_end (by rw [← hR]; exact HSO.out))
      have hcall := HINS.out j n dk wr hds S1 (by omega) (by have := HN.out; omega)
      rw [HN.out] at hcall
      have HREL : Aside (Chunks cmpT klt 20 R0 (Sort.insertionSort (ltOf cmpT) dk j n).toList) := by
        show Chunks cmpT klt 20 R0 (Sort.insertionSort (ltOf cmpT) dk j n).toList
        rw [hc1, hR, List.append_nil]
        exact hP.chunks (.last (by omega) hc2 hc3)
      clear hR hO1 hP hdk hl2 hC1 hds hc1 hc2 hc3 S1
      go_wp2_with (go_at_call 71; refine hcall.mono ?_; rintro e w1 ⟨rfl, hS1⟩)
      have START2 : Aside (∃ dk : Array Lease, SWK Lease.cells 8 w0 blk off dk w1 ∧ Chunks cmpT klt 20 R0 dk.toList) := ⟨_, hS1, HREL⟩
      clear hS1 HREL hcall
      go_loopg [6] n (fun kx s6 wr => ∃ s : Nat, s6 = .int .i64 s ∧ 20 ≤ s ∧ s ≤ 2 * n + 20 ∧ n - s ≤ kx ∧ Aside (∃ dk : Array Lease, SWK Lease.cells 8 w0 blk off dk wr ∧ Chunks cmpT klt s R0 dk.toList))
      case atStart => exact ⟨20, rfl, Nat.le_refl _, by omega, by omega, START2⟩
      case round =>
        clear START2
        obtain ⟨s, rfl, hs20, hsn, hg2, dk, S1, hCh⟩ := hrel
        by_cases hlt2 : s < n
        · have hltz2 : (s : Int) < (n : Int) := by omega
          have START3 : Aside (∃ dk : Array Lease, SWK Lease.cells 8 w0 blk off dk wr ∧ ∃ O1 C1 O2 C2, R0 = O1 ++ O2 ∧ O1.length = 0 ∧ Pieces cmpT klt (2 * s) O1 C1 ∧ Chunks cmpT klt s O2 C2 ∧ dk.toList = C1 ++ C2) := ⟨dk, S1, [], [], R0, dk.toList, rfl, rfl, .nil, hCh, rfl⟩
          clear S1 hCh
          go_wp2_with fail
          go_loopg [7, 8] n (fun kx s7 s8 wr => ∃ j : Nat, s7 = .int .i64 j ∧ s8 = .int .i64 ((j : Int) + 2 * (s : Int)) ∧ j ≤ n ∧ n - j ≤ kx ∧ Aside (∃ dk : Array Lease, SWK Lease.cells 8 w0 blk off dk wr ∧ ∃ O1 C1 O2 C2, R0 = O1 ++ O2 ∧ O1.length = j ∧ Pieces cmpT klt (2 * s) O1 C1 ∧ Chunks cmpT klt s O2 C2 ∧ dk.toList = C1 ++ C2))
          case atStart => exact ⟨0, rfl, by go_num, Nat.zero_le _, Nat.le_refl _, START3⟩
          case round =>
            clear START3
            obtain ⟨j, rfl, rfl, hjn, hg3, dk, S1, O1, C1, O2, C2, hR, hO1, hP, hCh, hdk⟩ := hrel
            have hl2 : O2.length = n - j := by have h := HRL.out; rw [hR, List.length_append] at h; omega
            have hC1 := hP.len
            have hC2 := hCh.perm.length_eq
            have hds : d0.size = dk.size := by
              have h := congrArg List.length hdk
              rw [Array.length_toList, List.length_append] at h
              have := HN.out
              omega
            by_cases hlt3 : j + 2 * s ≤ n
            · have hltz3 : (j : Int) + 2 * (s : Int) ≤ (n : Int) := by omega
              obtain ⟨o1, c1, O3, C3, rfl, rfl, ho1, hp1, hq1, hCh3⟩ := hCh.off (by omega)
              have hl3 : s + O3.length = n - j := by rw [List.length_append] at hl2; omega
              obtain ⟨o2, c2, O4, C4, rfl, rfl, ho2, hp2, hq2, hCh4⟩ := hCh3.off (by omega)
              have hlc1 := hp1.length_eq
              have hlc2 := hp2.length_eq
              have hAh : Ahead klt c1 c2 := by
                have h1 := sorted_end (O1 := O1) (by rw [← hR]; exact HSO.out)
                rw [← List.append_assoc] at h1
                have h2 : Sorted (o1 ++ o2) := (List.pairwise_append.1 h1).1
                exact ahead_of h2 hp1 hp2
              have hcall := HSYM.out (c1.length + c2.length) dk wr C1 c1 c2 C4 j (j + s) (j + 2 * s) (Nat.le_refl _) hds S1 hdk hq1 hq2 hAh (by omega) (by omega) (by omega) (by omega) (by omega)
              have e1 : ((j + s : Nat) : Int) = (j : Int) + (s : Int) := by omega
              have e2 : ((j + 2 * s : Nat) : Int) = (j : Int) + 2 * (s : Int) := by omega
              rw [e1, e2, HN.out] at hcall
              have HREL : Aside (∀ (d' : Array Lease) (C : List Lease), d'.toList = C1 ++ (C ++ C4) → C.Perm (c1 ++ c2) → S2 cmpT klt C → ∃ O1' C1' O2' C2', R0 = O1' ++ O2' ∧ O1'.length = j + 2 * s ∧ Pieces cmpT klt (2 * s) O1' C1' ∧ Chunks cmpT klt s O2' C2' ∧ d'.toList = C1' ++ C2') := fun d' C h1 h2 h3 =>
                ⟨O1 ++ (o1 ++ o2), C1 ++ C, O4, C4, by rw [hR]; simp only [List.append_assoc], by simp only [List.length_append]; omega, .snoc hP (by rw [List.length_append]; omega) (h2.trans (hp1.append hp2)) h3, hCh4, by rw [h1, List.append_assoc]⟩
              clear e1 e2 hR hO1 hP hCh3 hCh4 hdk hl2 hl3 hC1 hC2 hds ho1 hp1 hq1 ho2 hp2 hq2 hlc1 hlc2 hAh S1 hCh
              go_wp2_with (go_at_call 72; refine hcall.mono ?_; rintro e w2 ⟨rfl, d2, C, hl, hz, hpm, hss, hS2⟩)
              have HR2 := Aside.out HREL d2 C hl hpm hss
              go_roundg (n - (j + 2 * s))
              case measure => omega
              case rel => exact ⟨j + 2 * s, by go_num, by go_num, by omega, by omega, d2, hS2, HR2⟩
            · have hltz3 : ¬ (j : Int) + 2 * (s : Int) ≤ (n : Int) := by omega
              by_cases hm : j + s < n
              · have hmz : (j : Int) + (s : Int) < (n : Int) := by omega
                obtain ⟨o1, c1, O3, C3, rfl, rfl, ho1, hp1, hq1, hCh3⟩ := hCh.off (by omega)
                have hl3 : s + O3.length = n - j := by rw [List.length_append] at hl2; omega
                have hq3 := hCh3.one (by omega) (by omega)
                have hp3 := hCh3.perm
                have hlc1 := hp1.length_eq
                have hlc3 := hp3.length_eq
                have hAh : Ahead klt c1 C3 := ahead_of (sorted_end (O1 := O1) (by rw [← hR]; exact HSO.out)) hp1 hp3
                have hcall := HSYM.out (c1.length + C3.length) dk wr C1 c1 C3 [] j (j + s) n (Nat.le_refl _) hds S1 (by rw [hdk, List.append_nil]) hq1 hq3 hAh (by omega) (by omega) (by omega) (by omega) (by omega)
                have e1 : ((j + s : Nat) : Int) = (j : Int) + (s : Int) := by omega
                rw [e1, HN.out] at hcall
                have HREL : Aside (∀ (d' : Array Lease) (C : List Lease), d'.toList = C1 ++ (C ++ []) → C.Perm (c1 ++ C3) → S2 cmpT klt C → Chunks cmpT klt (s * 2) R0 d'.toList) := fun d' C h1 h2 h3 => by
                  rw [h1, hR, List.append_nil, Nat.mul_comm]
                  exact hP.chunks (.last (by rw [List.length_append]; omega) (h2.trans (hp1.append hp3)) h3)
                clear e1 hR hO1 hP hCh3 hdk hl2 hl3 hC1 hC2 hds ho1 hp1 hq1 hp3 hq3 hlc1 hlc3 hAh S1 hCh
                go_wp2_with (go_at_call 72; refine hcall.mono ?_; rintro e w2 ⟨rfl, d2, C, hl, hz, hpm, hss, hS2⟩)
                have HR2 := Aside.out HREL d2 C hl hpm hss
                go_roundg (n - s * 2)
                case measure => omega
                case rel => exact ⟨s * 2, by go_num, by omega, by omega, Nat.le_refl _, d2, hS2, HR2⟩
              · have hmz : ¬ (j : Int) + (s : Int) < (n : Int) := by omega
                have hq2 := hCh.one (by omega) (by omega)
                have HREL : Aside (∃ dk : Array Lease, SWK Lease.cells 8 w0 blk off dk wr ∧ Chunks cmpT klt (s * 2) R0 dk.toList) := ⟨dk, S1, by
                  rw [hdk, hR, Nat.mul_comm]
                  exact hP.chunks (.last (by omega) hCh.perm hq2)⟩
                clear hR hO1 hP hdk hl2 hC1 hC2 hds hq2 S1 hCh
                go_wp2_with fail
                go_roundg (n - s * 2)
                case measure => omega
                case rel => exact ⟨s * 2, by go_num, by omega, by omega, Nat.le_refl _, HREL⟩
        · have hltz2 : ¬ (s : Int) < (n : Int) := by omega
          have hp := hCh.perm
          have hone := hCh.one (by omega) (by have := HRL.out; omega)
          have HFIN : Aside (dk.size = n ∧ dk.toList.Perm R0 ∧ Late dk.toList) := ⟨by rw [← Array.length_toList, hp.length_eq]; exact HRL.out, hp, hone⟩
          clear hp hone hCh
          go_wp2_with fail
          go_end0
          exact ⟨rfl, dk, HFIN.1, HFIN.2.1, HFIN.2.2, S1⟩
end Go.Proofs.YtmegbllhidkmoaaGreat.Tb

/- Due. -/
namespace Go.Proofs.YtmegbllhidkmoaaGreat.Tb
open Go.RowKit Go.Maps Go.Shelf Go.Sort
set_option linter.unusedVariables false
theorem lt2_irrefl (a : Lease) : ¬ lt2 cmpT klt a a := by
  rintro (h | ⟨_, h⟩)
  · rw [cmpT, cmpI_neg] at h; omega
  · exact klt_irrefl a h
theorem Late.unique : ∀ {R R' : List Lease}, Late R → Late R' → R.Perm R' → R = R'
  | [], R', _, _, hp => by rw [List.nil_perm.1 hp]
  | a :: R, [], _, _, hp => by have := hp.length_eq; simp at this
  | a :: R, b :: R', h, h', hp => by
    unfold Late S2 at h h'
    rw [List.pairwise_cons] at h h'
    have hab : a = b := by
      rcases List.mem_cons.1 (hp.mem_iff.1 List.mem_cons_self) with e | hin
      · exact e
      · rcases List.mem_cons.1 (hp.mem_iff.2 List.mem_cons_self) with e | hin'
        · exact e.symm
        · exact absurd (ordT.trans (h.1 b hin') (h'.1 a hin)) (lt2_irrefl a)
    subst hab
    rw [Late.unique h.2 h'.2 hp.cons_inv]
set_option maxHeartbeats 800000 in
set_option maxRecDepth 100000 in
theorem stable_none (p : Option Addr) (cap : Nat) (fv : Value) (w : World) : Calls Tryz.prog 38 #[.slice p 0 cap, fv] w fun e w' => e = .returned (.tuple #[]) ∧ w' = w := by
  have hL : SlLaysF0.n20 Tryz.prog Tryz.sortLease_ren := { Tryz.sortLease with }
  have hins : ∀ W, Calls Tryz.prog 71 #[.slice p 0 cap, .int .i64 0, .int .i64 0, fv] W fun e w' => e = .returned (.tuple #[]) ∧ w' = W := fun W => AnyF.insertionSortCmpFunc_none hL p cap fv W
  have hst : ∀ W, Calls Tryz.prog 56 #[.slice p 0 cap, .int .i64 0, fv] W fun e w' => e = .returned (.tuple #[]) ∧ w' = W := fun W => by
    go_enter Tryz.func56, Tryz.ntmps56
    go_wp2_with fail
    refine wp_loop_rounds 1 ?_
    rw [rounds_succ]
    go_wp2_with (go_at_call 71; refine (hins _).mono ?_; rintro e w' ⟨rfl, rfl⟩)
    refine wp_loop_rounds 1 ?_
    rw [rounds_succ]
    go_wp2_with fail
    go_end0
    exact ⟨rfl, rfl⟩
  go_enter Tryz.func38, Tryz.ntmps38
  go_wp2_with (go_at_call 56; refine (hst _).mono ?_; rintro e w' ⟨rfl, rfl⟩)
  go_end0
  exact ⟨rfl, rfl⟩
set_option maxHeartbeats 800000 in
set_option maxRecDepth 100000 in
theorem stable_leases (w : World) (B : Nat) (v : Value) (R : List Lease) (h : LeasesIs w B v R) (hR : Sorted R) (hlen : R.length < 1099511627776) :
    Calls Tryz.prog 38 #[v, .func (.func 39) #[] #[]] w fun e w' => e = .returned (.tuple #[]) ∧ ∃ R', R'.Perm R ∧ Late R' ∧ LeasesIs w' B v R' ∧ Kept (fun i => v.ownBlock = some i) w w' := by
  by_cases h0 : R.length = 0
  · obtain rfl : R = [] := List.length_eq_zero_iff.1 h0
    obtain ⟨p, cap, rfl⟩ := leases_shape h
    refine (stable_none p cap _ w).mono ?_
    rintro e w' ⟨rfl, rfl⟩
    exact ⟨rfl, [], List.Perm.refl _, List.Pairwise.nil, h, Kept.refl _ _⟩
  have h' := h
  obtain ⟨h1, h2⟩ := h'
  rcases h2 with ⟨hv, h0'⟩ | ⟨g, cap, cur, rfl, hg, hh, hn, hm, hc, ht⟩
  · omega
  · have lg : g < w.heap.size := (Array.getElem?_eq_some_iff.1 hh).1
    have hH : HoldsK Lease.cells 8 w g 0 R.toArray := by
      intro j hj
      rw [size_flatK, List.size_toArray] at hj
      rw [Nat.zero_add]
      have h3 := flat_at Lease.cells 8 (by omega) lcells R j hj
      rw [← ht, List.getElem?_take_of_lt hj, Array.getElem?_toList] at h3
      constructor
      · simp [World.cell?, hh, h3]
      · simp [World.frozen?, hh]
    have hcmp : CmpLays Tryz.prog 39 #[] Lease.cells 8 cmpT g 0 R.toArray.size w := by
      intro m os dk hdk x y
      refine (due_compare _ x y).mono ?_
      rintro e w' ⟨rfl, q, os', hw⟩
      exact ⟨rfl, q, os', hw⟩
    have hst := stable_any w w g 0 cap R.toArray ⟨lcells, lone, hH, lg⟩ (SWK.start hH) (by simpa using hlen) (by simpa using hR) hcmp
    rw [List.size_toArray] at hst
    have H := Aside1.mk hst
    have HB := Aside1.mk h
    have HL0 := Aside1.mk (Nat.pos_of_ne_zero h0)
    clear hst hH hcmp h h1 ht hh h0 hR
    go_enter Tryz.func38, Tryz.ntmps38
    go_wp2_with (go_at_call 56; refine H.out.mono ?_; rintro e w' ⟨rfl, d', hs', hp', hl', n, os, rfl⟩)
    go_end0
    obtain ⟨r1, r2⟩ := sort_done (n := n) (os := os) HB.out HL0.out hs'
    exact ⟨rfl, d'.toList, hp', hl', r1, r2.mono (fun k hk => by rw [hk]; rfl)⟩
set_option maxHeartbeats 800000 in
set_option maxRecDepth 100000 in
theorem tab_due (w : World) (bt b1 b2 N : Nat) (v : Value) (L : List Lease) (E : List End) (h : TabAt w bt b1 b2 v N L E) (hN : N ≤ 1000000000) (hs : Sorted L) (q : Int) :
    Calls Tryz.prog 18 #[.pointer (some ⟨bt, 0, none⟩), .int .i64 q] w fun e w' => ∃ v' R, e = .returned v' ∧ R.Perm (L.filter (fun l => decide (l.till ≤ q))) ∧ Late R ∧ LeasesIs w' w.heap.size v' R ∧ Quiet w w' := by
  have hp := fun W (hT : TabAt W bt b1 b2 v N L E) (hc : W.cell? ⟨w.heap.size, 0, none⟩ = some (.int .i64 q)) => picked_sorted W bt b1 b2 N v L E hT hN hs 37 #[.pointer (some ⟨w.heap.size, 0, none⟩)] (fun l => decide (l.till ≤ q)) (enters_of Tryz.func37 (by kernel_rfl) rfl) (fun W' l _ hq => due_fn W' l w.heap.size q (hq.cell hc (fun h => h)))
  have HT := Aside1.mk (h.kept ((Kept.refl (fun _ => False) w).alloc (.cells #[.int .i64 q] 3)) (fun _ _ h => h))
  have hc : (w.alloc (.cells #[.int .i64 q] 3)).cell? ⟨w.heap.size, 0, none⟩ = some (.int .i64 q) := (cell_of (heap_alloc_new w _) 0).1
  have hlen : (L.filter (fun l => decide (l.till ≤ q))).length < 1099511627776 := by
    have h1 := List.length_filter_le (fun l : Lease => decide (l.till ≤ q)) L
    have h2 := h.count
    omega
  have hso := hs.filter (fun l => decide (l.till ≤ q))
  obtain ⟨R, hR⟩ : ∃ R, L.filter (fun l => decide (l.till ≤ q)) = R := ⟨_, rfl⟩
  rw [hR] at hlen hso hp ⊢
  have HLN := Aside1.mk hlen
  have HSO := Aside1.mk hso
  clear h hR hlen hso
  go_enter Tryz.func18, Tryz.ntmps18
  go_wp2_with (first
    | (go_at_call 31; refine (hp _ HT.out hc).mono ?_; rintro e w1 ⟨v', rfl, hl, hq⟩; have HL := Aside1.mk hl; have HQ := Aside1.mk hq; clear hl hq)
    | (go_at_call 38; refine (stable_leases _ _ _ R HL.out HSO.out HLN.out).mono ?_; rintro e w2 ⟨rfl, R', hp2, hq2, hl2, hk2⟩))
  go_ret
  refine ⟨v', R', rfl, hp2, hq2, hl2.mono (by rw [World.size_alloc]; exact Nat.le_succ _), (((Kept.refl (fun _ => False) w).alloc _).andThen HQ.out (fun _ _ h => h)).andThen hk2 (fun i hi h => ?_)⟩
  have := (HL.out.lt h).1
  rw [World.size_alloc] at this
  omega
end Go.Proofs.YtmegbllhidkmoaaGreat.Tb

/- The reference's Due: the least one that is left, again and again. -/
namespace Go.Proofs.YtmegbllhidkmoaaGreat.Tb
open Go.RowKit Go.Maps
set_option linter.unusedVariables false
def bestOf (q : Int) (L : List Lease) : Option Lease := L.foldl (fun b y => if y.till ≤ q then (match b with | none => some y | some z => if y.till < z.till then some y else some z) else b) none
def dueR (q : Int) : Nat → List Lease → List Lease
  | 0, _ => []
  | n + 1, L => match bestOf q L with
    | none => []
    | some b => b :: dueR q n (without L b.key)
theorem snoc_rec {motive : List Lease → Prop} (nil : motive []) (append_singleton : ∀ (L : List Lease) (y : Lease), motive L → motive (L ++ [y])) (L : List Lease) : motive L := by
  have h : ∀ R : List Lease, motive R.reverse := fun R => by
    induction R with
    | nil => exact nil
    | cons y R ih => rw [List.reverse_cons]; exact append_singleton _ _ ih
  have := h L.reverse
  rwa [List.reverse_reverse] at this
theorem best_none {q : Int} {L : List Lease} (h : bestOf q L = none) : ∀ z ∈ L, ¬ z.till ≤ q := by
  induction L using snoc_rec with
  | nil => intro z hz; cases hz
  | append_singleton L y ih =>
    unfold bestOf at h ih
    rw [List.foldl_append, List.foldl_cons, List.foldl_nil] at h
    generalize hb : L.foldl _ none = b at h ih
    by_cases hy : y.till ≤ q
    · rw [if_pos hy] at h
      cases b with
      | none => cases h
      | some z => dsimp only at h; split at h <;> cases h
    · rw [if_neg hy] at h
      intro z hz
      rcases List.mem_append.1 hz with hz | hz
      · exact ih h z hz
      · obtain rfl : z = y := by simpa using hz
        exact hy
theorem best_some {q : Int} {L : List Lease} (hs : Sorted L) : ∀ {b}, bestOf q L = some b → b ∈ L ∧ b.till ≤ q ∧ ∀ z ∈ L, z.till ≤ q → z = b ∨ b.till < z.till ∨ b.till = z.till ∧ klt b z := by
  induction L using snoc_rec with
  | nil => intro b h; cases h
  | append_singleton L y ih =>
    intro b h
    have hs1 := (List.pairwise_append.1 hs).1
    have hs2 : ∀ x ∈ L, klt x y := fun x hx => (List.pairwise_append.1 hs).2.2 x hx y (by simp)
    have hn := best_none (q := q) (L := L)
    unfold bestOf at h ih hn
    rw [List.foldl_append, List.foldl_cons, List.foldl_nil] at h
    generalize hb : L.foldl _ none = c at h ih hn
    by_cases hy : y.till ≤ q
    · rw [if_pos hy] at h
      cases c with
      | none =>
        obtain rfl : y = b := by simpa using h
        refine ⟨by simp, hy, fun z hz hq => ?_⟩
        rcases List.mem_append.1 hz with hz | hz
        · exact absurd hq (hn rfl z hz)
        · exact .inl (by simpa using hz)
      | some c =>
        obtain ⟨i1, i2, i3⟩ := ih hs1 rfl
        dsimp only at h
        by_cases hc : y.till < c.till
        · rw [if_pos hc] at h
          obtain rfl : y = b := by simpa using h
          refine ⟨by simp, hy, fun z hz hq => ?_⟩
          rcases List.mem_append.1 hz with hz | hz
          · rcases i3 z hz hq with rfl | h1 | ⟨h1, _⟩
            · exact .inr (.inl hc)
            · exact .inr (.inl (by omega))
            · exact .inr (.inl (by omega))
          · exact .inl (by simpa using hz)
        · rw [if_neg hc] at h
          obtain rfl : c = b := by simpa using h
          refine ⟨List.mem_append_left _ i1, i2, fun z hz hq => ?_⟩
          rcases List.mem_append.1 hz with hz | hz
          · exact i3 z hz hq
          · obtain rfl : z = y := by simpa using hz
            by_cases he : c.till = z.till
            · exact .inr (.inr ⟨he, hs2 c i1⟩)
            · exact .inr (.inl (by omega))
    · rw [if_neg hy] at h
      obtain ⟨i1, i2, i3⟩ := ih hs1 h
      refine ⟨List.mem_append_left _ i1, i2, fun z hz hq => ?_⟩
      rcases List.mem_append.1 hz with hz | hz
      · exact i3 z hz hq
      · obtain rfl : z = y := by simpa using hz
        exact absurd hq hy
theorem due_perm {q : Int} {L : List Lease} (hs : Sorted L) {b : Lease} (hb : b ∈ L) (hq : b.till ≤ q) : (b :: (without L b.key).filter (fun l => decide (l.till ≤ q))).Perm (L.filter (fun l => decide (l.till ≤ q))) := by
  have h1 : (without L b.key).Perm (L.erase b) := by
    refine (List.perm_ext_iff_of_nodup (List.Pairwise.filter _ hs.each) (hs.each.erase b)).2 fun x => ?_
    rw [hs.each.mem_erase_iff]
    refine Iff.trans (show x ∈ L.filter (fun l => decide (l.key ≠ b.key)) ↔ x ∈ L ∧ x.key ≠ b.key from mem_without) ?_
    exact ⟨fun ⟨h1, h2⟩ => ⟨fun e => h2 (by rw [e]), h1⟩, fun ⟨h1, h2⟩ => ⟨h2, fun e => h1 (hs.keys h2 hb e)⟩⟩
  have h2 : (b :: without L b.key).Perm L := (h1.cons b).trans (List.perm_cons_erase hb).symm
  have h3 := h2.filter (fun l : Lease => decide (l.till ≤ q))
  rw [List.filter_cons_of_pos (by rw [decide_eq_true hq])] at h3
  exact h3
theorem dueR_spec (q : Int) : ∀ (n : Nat) (L : List Lease), L.length ≤ n → Sorted L → Late (dueR q n L) ∧ (dueR q n L).Perm (L.filter (fun l => decide (l.till ≤ q)))
  | 0, L, hl, hs => by
    obtain rfl : L = [] := List.length_eq_zero_iff.1 (by omega)
    exact ⟨List.Pairwise.nil, List.Perm.refl _⟩
  | n + 1, L, hl, hs => by
    unfold dueR
    cases hb : bestOf q L with
    | none =>
      have hn := best_none hb
      rw [List.filter_eq_nil_iff.2 fun z hz hd => hn z hz (by simpa using hd)]
      exact ⟨List.Pairwise.nil, List.Perm.refl _⟩
    | some b =>
      obtain ⟨h1, h2, h3⟩ := best_some hs hb
      have hlen : (without L b.key).length < L.length := by
        unfold without
        rw [List.length_filter_lt_length_iff_exists]
        exact ⟨b, h1, by simp⟩
      obtain ⟨i1, i2⟩ := dueR_spec q n (without L b.key) (by omega) (without_sorted hs _)
      refine ⟨List.pairwise_cons.2 ⟨fun z hz => ?_, i1⟩, (i2.cons b).trans (due_perm hs h1 h2)⟩
      have hz' := i2.mem_iff.1 hz
      obtain ⟨hz1, hz2⟩ := List.mem_filter.1 hz'
      obtain ⟨hz3, hz4⟩ := mem_without.1 hz1
      rcases h3 z hz3 (by simpa using hz2) with rfl | h | ⟨h, hk⟩
      · exact absurd rfl hz4
      · exact .inl (by rw [cmpT, cmpI_neg]; exact h)
      · exact .inr ⟨by rw [cmpT, cmpI_neg]; omega, hk⟩
end Go.Proofs.YtmegbllhidkmoaaGreat.Tb

/- The reference's table in memory: Due. -/
namespace Go.Proofs.YtmegbllhidkmoaaGreat.Tb
open Go.RowKit Go.Maps Go.Shelf
set_option linter.unusedVariables false
def bestStep (q : Int) (b : Option Lease) (y : Lease) : Option Lease := if y.till ≤ q then (match b with | none => some y | some z => if y.till < z.till then some y else some z) else b
theorem best_next {q : Int} {M : List Lease} {i : Nat} (h : i < M.length) : bestOf q (M.take (i + 1)) = bestStep q (bestOf q (M.take i)) (M[i]'h) := by
  unfold bestOf
  rw [List.take_succ_eq_append_getElem h, List.foldl_append]; rfl
theorem dueR_step {q : Int} {n : Nat} {M : List Lease} (h : M.length ≤ n) : dueR q n M = match bestOf q M with | none => [] | some b => b :: dueR q (n - 1) (without M b.key) := by
  cases n with
  | zero =>
    obtain rfl : M = [] := List.length_eq_zero_iff.1 (by omega)
    rfl
  | succ n => rfl
theorem best_in {q : Int} {M : List Lease} (hs : Sorted M) {b : Lease} (h : bestOf q M = some b) : b ∈ M := (best_some hs h).1
theorem without_less {M : List Lease} {b : Lease} (h : b ∈ M) : (without M b.key).length < M.length := by
  unfold without
  rw [List.length_filter_lt_length_iff_exists]
  exact ⟨b, h, by simp⟩
/-- Where the best one so far stands. -/
def At (q : Int) (M : List Lease) (i : Nat) (a : Int) : Prop := (a = -1 ∧ bestOf q (M.take i) = none) ∨ ∃ (k : Nat) (h : k < M.length), a = (k : Int) ∧ k < i ∧ bestOf q (M.take i) = some (M[k]'h)
theorem At.next {q : Int} {M : List Lease} {i : Nat} {a : Int} (hi : i < M.length) (h : At q M i a) :
    (q < (M[i]'hi).till ∧ At q M (i + 1) a) ∨ ((M[i]'hi).till ≤ q ∧ ((a = -1 ∧ At q M (i + 1) (i : Int)) ∨ ∃ (k : Nat) (hk : k < M.length), a = (k : Int) ∧ (((M[i]'hi).till < (M[k]'hk).till ∧ At q M (i + 1) (i : Int)) ∨ ((M[k]'hk).till ≤ (M[i]'hi).till ∧ At q M (i + 1) a)))) := by
  have hb := best_next (q := q) hi
  by_cases h1 : (M[i]'hi).till ≤ q
  · refine .inr ⟨h1, ?_⟩
    unfold bestStep at hb
    rw [if_pos h1] at hb
    rcases h with ⟨rfl, hn⟩ | ⟨k, hk, rfl, hki, hs⟩
    · rw [hn] at hb
      exact .inl ⟨rfl, .inr ⟨i, hi, rfl, Nat.lt_succ_self _, hb⟩⟩
    · rw [hs] at hb
      refine .inr ⟨k, hk, rfl, ?_⟩
      by_cases h2 : (M[i]'hi).till < (M[k]'hk).till
      · exact .inl ⟨h2, .inr ⟨i, hi, rfl, Nat.lt_succ_self _, by rw [hb]; simp only; rw [if_pos h2]⟩⟩
      · exact .inr ⟨by omega, .inr ⟨k, hk, rfl, by omega, by rw [hb]; simp only; rw [if_neg h2]⟩⟩
  · refine .inl ⟨by omega, ?_⟩
    unfold bestStep at hb
    rw [if_neg h1] at hb
    rcases h with ⟨rfl, hn⟩ | ⟨k, hk, rfl, hki, hs⟩
    · exact .inl ⟨rfl, hb.trans hn⟩
    · exact .inr ⟨k, hk, rfl, by omega, hb.trans hs⟩
set_option maxHeartbeats 3200000 in
set_option maxRecDepth 100000 in
theorem rdue_run (w : World) (bu B : Nat) (v : Value) (L : List Lease) (h : RTab w bu B v L) (q : Int) :
    Calls Tryz.prog 30 #[.pointer (some ⟨bu, 0, none⟩), .int .i64 q] w fun e w' => ∃ v', e = .returned v' ∧ LeasesIs w' w.heap.size v' (dueR q L.length L) ∧ Quiet w w' := by
  have HT := Aside1.mk h
  have HAL := Aside1.mk (rall_run w bu B v L h)
  clear h
  go_enter Tryz.func30, Tryz.ntmps30
  go_wp2_with (go_at_call 12; refine HAL.out.mono ?_; rintro e w1 ⟨v1, rfl, hl1, hq1⟩)
  have HL1 := Aside1.mk (hl1.old ((Kept.refl (fun _ => False) w1).alloc (.cells #[] 30)) (fun _ _ h => h))
  have HQ1 := Aside1.mk (hq1.alloc (.cells #[] 30))
  have HE1 := Aside1.mk (leases_made (w := w1.alloc (.cells #[] 30)) [] hq1.size (new0 w1 _) (Nat.zero_le _))
  have HV1 := Aside1.mk (fun k (hk : v1.ownBlock = some k) => (hl1.lt hk).2)
  clear hl1 hq1
  go_loopw [5, 6] (fun v5 v6 wr => ∃ (M O : List Lease) (n : Nat), Aside1 (LeasesIs wr w.heap.size v5 M) ∧ Aside1 (LeasesIs wr w.heap.size v6 O) ∧ Aside1 (M.length ≤ n ∧ O ++ dueR q n M = dueR q L.length L) ∧ Aside1 (Sorted M) ∧ M.length ≤ 1024 ∧ M.length + O.length ≤ 1024 ∧ Aside1 (∀ k, v5.ownBlock = some k → v6.ownBlock ≠ some k) ∧ Aside1 (Quiet w wr)) (fun v5 _ _ => match v5 with | .slice _ n _ => n | _ => 0)
  case atStart =>
    have hl := HT.out.len
    exact ⟨L, [], L.length, HL1, HE1, ⟨Nat.le_refl _, by simp⟩, ⟨HT.out.sorted⟩, hl, by simpa using hl, ⟨fun k hk e => by
      have h1 := HV1.out k hk
      have h2 : w1.heap.size = k := Option.some.inj e
      omega⟩, HQ1⟩
  case round =>
    obtain ⟨M, O, n, HM, HO, HD, HS, hm, hmo, HN, HQ⟩ := hrel
    obtain ⟨p5, c5, hv5⟩ := leases_shape HM.out
    subst hv5
    have hD := HD.out.2
    rw [dueR_step HD.out.1] at hD
    have HD2 := Aside1.mk hD
    clear hD
    have hmi : (M.length : Int) ≤ 1024 := by omega
    obtain ⟨wo, hwo⟩ : ∃ wo : World, wo = wr := ⟨_, rfl⟩
    subst hwo
    go_wp2_with fail
    go_loopw [7, 8] (fun v7 v8 wr => ∃ (i : Nat) (a : Int), v8 = .int .i64 i ∧ v7 = .int .i64 a ∧ i ≤ M.length ∧ Aside1 (At q M i a) ∧ Aside1 (Quiet wo wr)) (fun _ v8 _ => M.length - (RowKit.intOf v8).toNat)
    case atStart => exact ⟨0, -1, rfl, rfl, Nat.zero_le _, ⟨.inl ⟨rfl, rfl⟩⟩, ⟨Kept.refl _ _⟩⟩
    case round =>
      obtain ⟨i, a, rfl, rfl, hi, HAt, HQi⟩ := hrel
      by_cases hlt : i < M.length
      · have hij : (i : Int) < (M.length : Int) := by omega
        have hMr := HM.out.old HQi.out (fun _ _ h => h)
        obtain ⟨g, cap, hv, hn, hmx, hcell⟩ := leases_cell hMr i hlt
        simp only [Value.slice.injEq] at hv
        obtain ⟨rfl, _, rfl⟩ := hv
        have a7 := (hcell 7 (by omega)).1
        have hway := HAt.out.next hlt
        obtain ⟨y, hy⟩ : ∃ y, M[i].till = y := ⟨_, rfl⟩
        have a7' : wr.cell? ⟨g, i * 8 + 7, none⟩ = some (.int .i64 y) := by rw [a7, ← hy]; rfl
        rw [hy] at hway
        have A7 := fun q : QW wr => q.cell a7'
        clear hcell a7 a7' hy
        have hcase : (q < y ∧ Aside1 (At q M (i + 1) a)) ∨ (y ≤ q ∧ a = -1 ∧ Aside1 (At q M (i + 1) (i : Int))) ∨ (∃ (k : Nat) (z : Int), y ≤ q ∧ a = (k : Int) ∧ (k : Int) < (M.length : Int) ∧ (∀ q' : QW wr, q'.wd.cell? ⟨g, k * 8 + 7, none⟩ = some (.int .i64 z)) ∧ ((y < z ∧ Aside1 (At q M (i + 1) (i : Int))) ∨ (z ≤ y ∧ Aside1 (At q M (i + 1) a)))) := by
          rcases hway with ⟨h1, h2⟩ | ⟨h1, ⟨h2, h3⟩ | ⟨k, hk, h2, h3⟩⟩
          · exact .inl ⟨h1, ⟨h2⟩⟩
          · exact .inr (.inl ⟨h1, h2, ⟨h3⟩⟩)
          · obtain ⟨g', cap', hv', _, _, hcell'⟩ := leases_cell hMr k hk
            simp only [Value.slice.injEq, Option.some.injEq, Addr.mk.injEq] at hv'
            obtain ⟨⟨rfl, _⟩, _⟩ := hv'
            refine .inr (.inr ⟨k, M[k].till, h1, h2, by omega, fun q' => q'.cell (by rw [(hcell' 7 (by omega)).1]; rfl), ?_⟩)
            rcases h3 with ⟨h3, h4⟩ | ⟨h3, h4⟩
            · exact .inl ⟨h3, ⟨h4⟩⟩
            · exact .inr ⟨h3, ⟨h4⟩⟩
        clear hway HAt hMr
        rcases hcase with ⟨h1, HA2⟩ | ⟨h1, rfl, HA2⟩ | ⟨k, z, h1, rfl, h2, Z7, ⟨h3, HA2⟩ | ⟨h3, HA2⟩⟩
        · have hno : ¬ y ≤ q := by omega
          have hd := decide_eq_false hno
          go_wp2_with fail
          refine wp_region_qw (by kernel_rfl) (by kernel_rfl) ?_
          repeat (go_big_quiet_step ((fail)))
          refine wpQuiet_nil ?_
          rintro _ ⟨q', rfl⟩
          go_wp2_with fail
          exact ⟨⟨i + 1, a, by rw [Int.natCast_add]; rfl, rfl, hlt, HA2, ⟨HQi.out.andThen q'.quiet (fun _ _ h => h)⟩⟩, by simp [RowKit.intOf]; omega⟩
        · have hd := decide_eq_true h1
          go_wp2_with fail
          refine wp_region_qw (by kernel_rfl) (by kernel_rfl) ?_
          repeat (go_big_quiet_step ((fail)))
          refine wpQuiet_nil ?_
          rintro _ ⟨q', rfl⟩
          go_wp2_with fail
          exact ⟨⟨i + 1, i, by rw [Int.natCast_add]; rfl, rfl, hlt, HA2, ⟨HQi.out.andThen q'.quiet (fun _ _ h => h)⟩⟩, by simp [RowKit.intOf]; omega⟩
        · have hno : ¬ (k : Int) < 0 := by omega
          have hd := decide_eq_true h1
          have hd2 := decide_eq_false hno
          have hd3 := decide_eq_true h3
          go_wp2_with fail
          refine wp_region_qw (by kernel_rfl) (by kernel_rfl) ?_
          repeat (go_big_quiet_step ((fail)))
          refine wpQuiet_nil ?_
          rintro _ ⟨q', rfl⟩
          go_wp2_with fail
          exact ⟨⟨i + 1, i, by rw [Int.natCast_add]; rfl, rfl, hlt, HA2, ⟨HQi.out.andThen q'.quiet (fun _ _ h => h)⟩⟩, by simp [RowKit.intOf]; omega⟩
        · have hno : ¬ (k : Int) < 0 := by omega
          have hno2 : ¬ y < z := by omega
          have hd := decide_eq_true h1
          have hd2 := decide_eq_false hno
          have hd3 := decide_eq_false hno2
          go_wp2_with fail
          refine wp_region_qw (by kernel_rfl) (by kernel_rfl) ?_
          repeat (go_big_quiet_step ((fail)))
          refine wpQuiet_nil ?_
          rintro _ ⟨q', rfl⟩
          go_wp2_with fail
          exact ⟨⟨i + 1, k, by rw [Int.natCast_add]; rfl, rfl, hlt, HA2, ⟨HQi.out.andThen q'.quiet (fun _ _ h => h)⟩⟩, by simp [RowKit.intOf]; omega⟩
      · have hie : ¬ (i : Int) < (M.length : Int) := by omega
        have hfull : M.take i = M := List.take_of_length_le (by omega)
        have hat := HAt.out
        unfold At at hat
        rw [hfull] at hat
        have HQw := Aside1.mk (HQ.out.andThen HQi.out (fun _ _ h => h))
        rcases hat with ⟨rfl, hb⟩ | ⟨k, hk, rfl, _, hb⟩
        · have HR : Aside1 (O = dueR q L.length L) := ⟨by have := HD2.out; rw [hb] at this; simpa using this⟩
          clear hb hfull HAt
          go_wp2_with fail
          go_ret
          exact ⟨_, rfl, by rw [← HR.out]; exact HO.out.old HQi.out (fun _ _ h => h), HQw.out⟩
        · have hno : ¬ (k : Int) < 0 := by omega
          have hkm : (k : Int) < (M.length : Int) := by omega
          have HB := Aside1.mk hb
          have HMr := Aside1.mk (HM.out.old HQi.out (fun _ _ h => h))
          have HOr := Aside1.mk (HO.out.old HQi.out (fun _ _ h => h))
          obtain ⟨g, cap, hv, hn, hmx, hcell⟩ := leases_cell HMr.out k hk
          simp only [Value.slice.injEq] at hv
          obtain ⟨rfl, _, rfl⟩ := hv
          obtain ⟨b, hbb⟩ : ∃ b, M[k] = b := ⟨_, rfl⟩
          rw [hbb] at hcell hb
          have HB2 := Aside1.mk hb
          obtain ⟨a0, a1, a2, a3, a4, a5, a6, a7⟩ := lease_at (fun j hj => (hcell j hj).1)
          have hgne : ¬ u6.ownBlock = some g := HN.out g rfl
          have hlen := HQw.out.size
          clear hcell hbb hb HB hfull HAt
          have HW := Aside1.mk (fun W (hr : LeasesIs W w.heap.size (.slice (some ⟨g, 0, none⟩) M.length c5) M) => rwithout_run W w.heap.size _ M hr (by omega) b)
          obtain ⟨⟨yk, yh, yl, yb⟩, ys, yc, yi, yt⟩ := b
          simp only [Lease.val] at *
          go_wp2_with (at_builtin; (refine append_lease rfl _ _ rfl _ w.heap.size _ O rfl HOr.out ⟨⟨yk, yh, yl, yb⟩, ys, yc, yi, yt⟩ rfl (by omega) hlen ?_; intro v' w3 hO3 hk3; have b0 := hk3.cell a0 hgne; have b1 := hk3.cell a1 hgne; have b2 := hk3.cell a2 hgne; have b3 := hk3.cell a3 hgne; have b4 := hk3.cell a4 hgne; have b5 := hk3.cell a5 hgne; have b6 := hk3.cell a6 hgne; have b7 := hk3.cell a7 hgne))
          have hMr3 := HMr.out.old hk3 (fun k hk e => by
            obtain rfl : g = k := Option.some.inj hk
            exact hgne e)
          refine (HW.out _ hMr3).mono ?_
          rintro e w4 ⟨v4, rfl, hl4, hq4⟩
          obtain ⟨p4, c4, hv4⟩ := leases_shape hl4
          subst hv4
          have hless := without_less (best_in HS.out HB2.out)
          have hd := HD2.out
          rw [HB2.out] at hd
          have hs3 := hk3.size
          have HLS := Aside1.mk hless
          have HDD := Aside1.mk hd
          clear hd hless
          go_wp2_with fail
          have hless := HLS.out
          refine ⟨⟨_, O ++ [⟨⟨yk, yh, yl, yb⟩, ys, yc, yi, yt⟩], n - 1, ⟨hl4.mono (by omega)⟩, ⟨hO3.old hq4 (fun _ _ h => h)⟩, ⟨by have := HD.out.1; omega, ?_⟩, ⟨without_sorted HS.out _⟩, by omega, by simp; omega, ⟨fun k hk e => ?_⟩, ⟨(HQw.out.andThen hk3 (fun i hi e => ?_)).andThen hq4 (fun _ _ h => h)⟩⟩, ?_⟩
          · rw [List.append_assoc]; exact HDD.out
          · have h1 := (hl4.lt hk).1
            have h2 := (hO3.lt e).2
            omega
          · have := (HOr.out.lt e).1
            omega
          · exact hless
end Go.Proofs.YtmegbllhidkmoaaGreat.Tb

/- Plain laws of TableExact: what the program's table tells is what the reference's does. -/
namespace Go.Proofs.YtmegbllhidkmoaaGreat.Tb
open Go.RowKit Go.Maps Go.Shelf
set_option linter.unusedVariables false
theorem uniq_put {L : List Lease} (hu : Uniq L) {l : Lease} (ht : takenB L l = false) : Uniq (putL L l) := by
  have hno : ∀ b ∈ L, b.key ≠ l.key → b.bound = true → l.bound = true → b.owner = l.owner → False := fun b hb hk hbb hlb ho => by
    have hf := findO_mem hu hb hbb
    unfold takenB at ht
    rw [← ho, hf, hlb, Option.getD_some, decide_eq_true hk] at ht
    cases ht
  intro a ha b hb hab hbb ho
  rcases mem_putL.1 ha with rfl | ha'
  · rcases mem_putL.1 hb with rfl | hb'
    · rfl
    · exact (hno b hb'.1 hb'.2 hbb hab ho.symm).elim
  · rcases mem_putL.1 hb with rfl | hb'
    · exact (hno a ha'.1 ha'.2 hab hbb ho).elim
    · exact hu a ha'.1 b hb'.1 hab hbb ho
theorem uniq_change {L : List Lease} (hu : Uniq L) {c : Change} (he : changeE L c = 0) : Uniq (changeL L c) := by
  unfold changeL
  cases hg : c.gone with
  | true => exact uniq_without hu _
  | false =>
    refine uniq_put hu ?_
    unfold changeE at he
    rw [hg] at he
    cases hb : changeB c with
    | false => rw [hb] at he; cases he
    | true =>
      rw [hb] at he
      simp only [if_true, Bool.false_eq_true, if_false] at he
      unfold putE at he
      cases ht : takenB L c.lease with
      | false => rfl
      | true => rw [ht] at he; cases he
theorem rapply_same : ∀ (cs : List Change) {L : List Lease}, Uniq L → L.length ≤ 1024 → rapplyE L cs = applyE L cs ∧ (applyE L cs = 0 → Uniq (applyL L cs))
  | [], L, hu, hl => ⟨rfl, fun _ => hu⟩
  | c :: cs, L, hu, hl => by
    have h1 := one_same hu hl c
    simp only [rapplyE, applyE, applyL]
    by_cases h0 : changeE L c = 0
    · rw [h1, if_pos h0, if_pos h0]
      exact rapply_same cs (uniq_change hu h0) (one_len hl (h1.trans h0))
    · rw [h1, if_neg h0, if_neg h0]
      exact ⟨rfl, fun h => absurd h h0⟩
theorem no_zero {L : List Lease} (hG : Good L) : findL L zeroKey = none := by
  cases hf : findL L zeroKey with
  | none => rfl
  | some x =>
    obtain ⟨h1, h2⟩ := findL_some hf
    have h3 := right_of_sound (hG.sound x h1)
    rw [h2] at h3
    exact absurd h3 (by decide)
theorem of_same {L : List Lease} (hs : Sorted L) (hu : Uniq L) (hG : Good L) (o : Owner) :
    (findL L ((findO L o).getD zeroKey)).getD zeroLease = (L.find? (ofP o)).getD zeroLease ∧ (findO L o).isSome = (L.find? (ofP o)).isSome := by
  cases hf : L.find? (ofP o) with
  | none =>
    have hn : findO L o = none := by
      cases hk : findO L o with
      | none => rfl
      | some k =>
        obtain ⟨l, h1, h2, h3, h4⟩ := findO_some hk
        have := List.find?_eq_none.1 hf l h1
        unfold ofP at this
        rw [h2, decide_eq_true h3] at this
        exact absurd rfl this
    rw [hn, Option.getD_none, no_zero hG]
    exact ⟨rfl, rfl⟩
  | some x =>
    have hx := List.mem_of_find?_eq_some hf
    have hp := List.find?_some hf
    unfold ofP at hp
    simp only [Bool.and_eq_true, decide_eq_true_eq] at hp
    have hk := findO_mem hu hx hp.1
    rw [hp.2] at hk
    rw [hk, Option.getD_some, findL_mem hs hx]
    exact ⟨rfl, rfl⟩
theorem due_same {q : Int} {L R : List Lease} (hs : Sorted L) (hp : R.Perm (L.filter fun l => decide (l.till ≤ q))) (hl : Late R) : R = dueR q L.length L := by
  obtain ⟨h1, h2⟩ := dueR_spec q L.length L (Nat.le_refl _) hs
  exact hl.unique h1 (hp.trans h2.symm)
theorem ended_next : ∀ (n : Nat) (L : List Lease) (E : List End), Sorted L → Ended (L, E) → E.length ≤ n → Ended (L, nextE n L E)
  | 0, L, E, hs, h, hl => h
  | n + 1, L, [], hs, h, hl => h
  | n + 1, L, e :: E, hs, h, hl => by
    simp only [nextE]
    by_cases hit : nextHit L e = true
    · rw [if_pos hit]; exact h
    · rw [if_neg hit]
      obtain ⟨h1, h2⟩ := popped_spec e E h.heap
      refine ended_next n L _ hs ⟨h1, fun x hx => ?_⟩ (by rw [popped_len]; simp at hl ⊢; omega)
      show x.fin ∈ popped (e :: E)
      rw [h2.mem_iff]
      rcases List.mem_cons.1 (h.all x hx) with he | he
      · exfalso
        apply hit
        unfold nextHit
        rw [← he, show x.fin.key = x.key from rfl, findL_mem hs hx]
        simp [Lease.fin]
      · exact he
end Go.Proofs.YtmegbllhidkmoaaGreat.Tb
