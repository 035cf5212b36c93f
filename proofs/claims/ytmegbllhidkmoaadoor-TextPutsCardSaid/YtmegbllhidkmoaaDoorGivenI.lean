/- text.Unhex. -/
import Derived.Test.YtmegbllhidkmoaaDoorGivenH
import Derived.Laws.RangeString
import Derived.Laws.RangeAny
import Derived.Laws.MakeOwn
import Derived.Lib.JoinLaws
import Derived.Outline
namespace Go.Proofs.YtmegbllhidkmoaaDoor.Tx
open Go.RowKit Go.Lib Go.Proofs.YtmegbllhidkmoaaDoorW.PrintWords
set_option linter.unusedVariables false

def lowval (c : UInt8) : Option Nat := if 48 ≤ c.toNat ∧ c.toNat ≤ 57 then some (c.toNat - 48) else if 97 ≤ c.toNat ∧ c.toNat ≤ 102 then some (c.toNat - 87) else none
def hv (c : UInt8) : Nat := (lowval c).getD 0
theorem hv_lt (c : UInt8) : hv c < 16 := by
  unfold hv lowval
  split
  · simp; omega
  split
  · simp; omega
  · simp
theorem indexByte_low : ∀ c : Fin 256, Lib.indexByte [48, 49, 50, 51, 52, 53, 54, 55, 56, 57, 97, 98, 99, 100, 101, 102] (UInt8.ofNat c.val) = (match lowval (UInt8.ofNat c.val) with | some d => (d : Int) | none => -1) := by decide +kernel
theorem or_hex : ∀ a b : Fin 16, bits BinOp.or IntKind.u8 ((a.val : Int) * 16) (b.val : Int) = (a.val : Int) * 16 + b.val := by decide +kernel
theorem or_zero : ∀ b : Fin 16, bits BinOp.or IntKind.u8 0 (b.val : Int) = (b.val : Int) := by decide +kernel

theorem info5g : (Tryd.prog.info? 5).map (fun i => (i.zero, i.size, i.bytes)) = some (some (.int .u8 0), 1, 1) := by kernel_rfl
def nib (s : ByteArray) (i : Nat) : Nat := hv (s.data.toList.getD i 0)
theorem nib_lt (s : ByteArray) (i : Nat) : nib s i < 16 := hv_lt _
def UInv (s : ByteArray) (pos : Nat) (arr : Array Value) : Prop :=
  arr.size = s.size / 2 ∧ (∀ i, i < pos → (lowval (s.data.toList.getD i 0)).isSome = true) ∧
    ∀ k, k < s.size / 2 → arr[k]? = some (.int .u8 ((if 2 * k + 1 < pos then nib s (2 * k) * 16 + nib s (2 * k + 1) else if 2 * k < pos then nib s (2 * k) else 0 : Nat) : Int))
theorem madeCells_one (z : Value) (n : Nat) : madeCells #[z] n = Array.replicate n z := by
  apply Array.ext'
  simp [madeCells, List.range_eq_range', Nat.mod_one]
  apply List.ext_getElem
  · simp
  · intro i h1 h2; simp
theorem UInv.start (s : ByteArray) : UInv s 0 (madeCells #[.int .u8 0] (s.size / 2)) := by
  rw [madeCells_one]
  refine ⟨by simp, by simp, fun k hk => ?_⟩
  simp [hk]
theorem UInv.even {s : ByteArray} {pos m d : Nat} {arr : Array Value} (h : UInv s pos arr) (hp : pos = 2 * m) (hlt : pos < s.size) (hd : lowval (s.data.toList.getD pos 0) = some d) : UInv s (pos + 1) (arr.setIfInBounds m (.int .u8 (d : Int))) := by
  obtain ⟨h1, h2, h3⟩ := h
  have hn : nib s pos = d := by unfold nib hv; rw [hd]; rfl
  refine ⟨by simpa using h1, fun i hi => ?_, fun k hk => ?_⟩
  · rcases Nat.lt_or_ge i pos with h | h
    · exact h2 i h
    · obtain rfl : i = pos := by omega
      rw [hd]; rfl
  · rw [Array.getElem?_setIfInBounds]
    by_cases hkm : m = k
    · subst hkm
      rw [if_pos rfl, if_pos (by omega), if_neg (by omega), if_pos (by omega), ← hp, hn]
    · rw [if_neg hkm, h3 k hk]
      congr 3
      repeat' split
      all_goals first | rfl | omega
theorem UInv.odd {s : ByteArray} {pos m d : Nat} {arr : Array Value} (h : UInv s pos arr) (hp : pos = 2 * m + 1) (hlt : pos < s.size) (hd : lowval (s.data.toList.getD pos 0) = some d) : UInv s (pos + 1) (arr.setIfInBounds m (.int .u8 ((nib s (2 * m) : Int) * 16 + (d : Int)))) := by
  obtain ⟨h1, h2, h3⟩ := h
  have hn : nib s pos = d := by unfold nib hv; rw [hd]; rfl
  refine ⟨by simpa using h1, fun i hi => ?_, fun k hk => ?_⟩
  · rcases Nat.lt_or_ge i pos with h | h
    · exact h2 i h
    · obtain rfl : i = pos := by omega
      rw [hd]; rfl
  · rw [Array.getElem?_setIfInBounds]
    by_cases hkm : m = k
    · subst hkm
      rw [if_pos rfl, if_pos (by omega), if_pos (by omega), ← hp, hn]
      congr 2
    · rw [if_neg hkm, h3 k hk]
      congr 3
      repeat' split
      all_goals first | rfl | omega

theorem idx_low (c : UInt8) (w : World) : Calls Tryd.prog 44 #[.string ⟨#[48, 49, 50, 51, 52, 53, 54, 55, 56, 57, 97, 98, 99, 100, 101, 102]⟩, .int .u8 (c.toNat : Int)] w fun e w' => e = .returned (.int .i64 (match lowval c with | some d => (d : Int) | none => -1)) ∧ w = w' := by
  refine (Tryd.strings_IndexByte _ _ w).mono ?_
  rintro e w' ⟨rfl, rfl⟩
  refine ⟨?_, rfl⟩
  have h := indexByte_low ⟨c.toNat, c.toNat_lt⟩
  have hc : UInt8.ofNat ((⟨c.toNat, c.toNat_lt⟩ : Fin 256).val) = c := by simp
  rw [hc] at h
  rw [← h]
  simp
theorem idx_low_some (c : UInt8) (d : Nat) (h : lowval c = some d) (w : World) : Calls Tryd.prog 44 #[.string ⟨#[48, 49, 50, 51, 52, 53, 54, 55, 56, 57, 97, 98, 99, 100, 101, 102]⟩, .int .u8 (c.toNat : Int)] w fun e w' => e = .returned (.int .i64 (d : Int)) ∧ w = w' := by
  have := idx_low c w
  rw [h] at this
  exact this
theorem idx_low_none (c : UInt8) (h : lowval c = none) (w : World) : Calls Tryd.prog 44 #[.string ⟨#[48, 49, 50, 51, 52, 53, 54, 55, 56, 57, 97, 98, 99, 100, 101, 102]⟩, .int .u8 (c.toNat : Int)] w fun e w' => e = .returned (.int .i64 (-1)) ∧ w = w' := by
  have := idx_low c w
  rw [h] at this
  exact this

theorem iter_cell (w : World) (arr : Array Value) (e : Nat) (s : ByteArray) (p k : Nat) : ((w.alloc (.cells arr e)).iter s p).cell? ⟨w.heap.size, k, none⟩ = arr[k]? :=
  (World.cell?_alloc_old (w := w.alloc (.cells arr e)) (o := .stringIter s p) (a := ⟨w.heap.size, k, none⟩) (by rw [World.size_alloc]; exact Nat.ne_of_lt (Nat.lt_succ_self _))).trans (World.cell?_alloc_new _ _ _ _)
theorem iter_frozen (w : World) (arr : Array Value) (e : Nat) (s : ByteArray) (p k : Nat) : ((w.alloc (.cells arr e)).iter s p).frozen? ⟨w.heap.size, k, none⟩ = false :=
  (World.frozen?_alloc_old (w := w.alloc (.cells arr e)) (o := .stringIter s p) (a := ⟨w.heap.size, k, none⟩) (by rw [World.size_alloc]; exact Nat.ne_of_lt (Nat.lt_succ_self _))).trans (World.frozen?_alloc_new _ _ _ _)
theorem iter_setCell (w : World) (arr : Array Value) (e : Nat) (s : ByteArray) (p k : Nat) (v : Value) : ((w.alloc (.cells arr e)).iter s p).setCell ⟨w.heap.size, k, none⟩ v = (w.alloc (.cells (arr.setIfInBounds k v) e)).iter s p := by
  show ((w.alloc (.cells arr e)).alloc (.stringIter s p)).setCell _ _ = _
  rw [World.setCell_alloc_past (w := w.alloc (.cells arr e)) (hn := by rw [World.size_alloc]; exact Nat.lt_succ_self _), World.setCell_alloc_at (hn := rfl)]
  rfl
theorem iter_below (w : World) (arr : Array Value) (e : Nat) (s : ByteArray) (p : Nat) : Below w.heap.size w ((w.alloc (.cells arr e)).iter s p) :=
  below_alloc (below_alloc (Below.refl _ w) _) (.stringIter s p)
theorem iter_pos (w : World) (arr : Array Value) (e : Nat) (s : ByteArray) (p : Nat) : ((w.alloc (.cells arr e)).iter s p).iterPos (w.heap.size + 1) = p := by
  have h := World.iterPos_iter (w.alloc (.cells arr e)) s p
  rw [World.size_alloc] at h
  exact h
theorem iter_str (w : World) (arr : Array Value) (e : Nat) (s : ByteArray) (p n c : Nat) (l : List UInt8) (hl : l.length = n) (h : ∀ (j : Nat) (x : UInt8), l[j]? = some x → arr[j]? = some (Value.int .u8 (x.toNat : Int))) :
    (convert 64 9 (.slice (some ⟨w.heap.size, 0, none⟩) n c)).run Tryd.prog ((w.alloc (.cells arr e)).iter s p) = .ok (.string ⟨l.toArray⟩) ((w.alloc (.cells arr e)).iter s p) := by
  subst hl
  exact run_convert_bytes_back (P := Tryd.prog) _ 64 9 5 ⟨w.heap.size, 0, none⟩ c l Tryd.underlying64 Tryd.underlying5 Tryd.underlying9 (fun j hj => by
    rw [Lib.add_plain, iter_cell, Nat.zero_add]
    exact h j _ (List.getElem?_eq_getElem hj))

def unhexOk (s : ByteArray) : Bool := s.data.toList.all fun c => (lowval c).isSome
def unhexBytes (s : ByteArray) : List UInt8 := (List.range (s.size / 2)).map fun k => (nib s (2 * k) * 16 + nib s (2 * k + 1)).toUInt8
def UEnds (s : ByteArray) (r1 : ByteArray) (r2 : Bool) : Prop := (r1, r2) = if unhexOk s = true then (⟨(unhexBytes s).toArray⟩, true) else (⟨#[]⟩, false)
theorem UEnds.bad {s : ByteArray} {pos : Nat} (h : pos < s.size) (hd : lowval (s.data.toList.getD pos 0) = none) : UEnds s ⟨#[]⟩ false := by
  have : unhexOk s = false := by
    unfold unhexOk
    rw [List.all_eq_false]
    have hl : pos < s.data.toList.length := by rw [Array.length_toList]; exact h
    rw [List.getD, List.getElem?_eq_getElem hl] at hd
    exact ⟨s.data.toList[pos], List.getElem_mem hl, by simpa using hd⟩
  unfold UEnds
  rw [if_neg (by rw [this]; decide)]
theorem UEnds.good {s : ByteArray} {arr : Array Value} (h : UInv s s.size arr) : UEnds s ⟨(unhexBytes s).toArray⟩ true := by
  have : unhexOk s = true := by
    unfold unhexOk
    rw [List.all_eq_true]
    intro c hc
    obtain ⟨i, hi, rfl⟩ := List.getElem_of_mem hc
    have hi2 : i < s.size := by rw [Array.length_toList] at hi; exact hi
    have := h.2.1 i hi2
    rw [List.getD, List.getElem?_eq_getElem hi] at this
    exact this
  unfold UEnds
  rw [if_pos this]
theorem UInv.reads {s : ByteArray} {arr : Array Value} (h : UInv s s.size arr) (j : Nat) (x : UInt8) (hx : (unhexBytes s)[j]? = some x) : arr[j]? = some (Value.int .u8 (x.toNat : Int)) := by
  unfold unhexBytes at hx
  rw [List.getElem?_map] at hx
  obtain ⟨k, hk, rfl⟩ := Option.map_eq_some_iff.1 hx
  rw [List.getElem?_range (by
    rcases Nat.lt_or_ge j (s.size / 2) with h | h
    · exact h
    · rw [List.getElem?_eq_none (by simpa using h)] at hk; cases hk)] at hk
  have hj : j < s.size / 2 := by
    rcases Nat.lt_or_ge j (s.size / 2) with h | h
    · exact h
    · rw [List.getElem?_eq_none (by simpa using h)] at hx; cases hx
  injection hk with hk
  subst hk
  rw [h.2.2 j hj, if_pos (by omega)]
  have h1 := nib_lt s (2 * j)
  have h2 := nib_lt s (2 * j + 1)
  congr 2
  simp [Nat.toUInt8, UInt8.toNat_ofNat']
  omega

set_option maxHeartbeats 3200000 in
set_option maxRecDepth 100000 in
theorem unhex_even (s : ByteArray) (hs : s.size ≤ 4294967280) (he : s.size % 2 = 0) (w : World) :
    Calls Tryd.prog 17 #[.string s] w fun e w' => ∃ r1 r2, e = .returned (.tuple #[.string r1, .bool r2]) ∧ UEnds s r1 r2 ∧ Below w.heap.size w w' := by
  have heven : ((s.size : Int) % 2 != 0) = false := by simp; omega
  obtain ⟨i0, hi, hz0, hz1, hz2⟩ := info_parts info5g
  have hmk : ∀ W : World, (Instr.makeSlice 64 (.int .i64 ((s.size : Int) / 2)) (.int .i64 ((s.size : Int) / 2))).run Tryd.prog W = .ok (.slice (some ⟨W.heap.size, 0, none⟩) (s.size / 2) (s.size / 2)) (W.alloc (.cells (madeCells #[.int .u8 0] (s.size / 2)) 5)) := fun W => by
    have h := run_make (P := Tryd.prog) W 64 5 i0 (.int .u8 0) Tryd.underlying64 hi hz0 .i64 .i64 ((s.size : Int) / 2) ((s.size : Int) / 2) (by omega) (Int.le_refl _) (by rw [hz2]; omega) (by omega)
    rw [hz1, show ((s.size : Int) / 2).toNat = s.size / 2 by omega, Nat.mul_one] at h
    exact h
  clear hi hz0 hz1 hz2
  go_enter Tryd.func17, Tryd.ntmps17
  go_wp2_with fail
  go_loopw [5] (fun _ wr => ∃ (pos : Nat) (arr : Array Value), wr = (w.alloc (.cells arr 5)).iter s pos ∧ pos ≤ s.size ∧ UInv s pos arr) (fun _ wr => s.size - wr.iterPos (w.heap.size + 1))
  case atStart => exact ⟨0, _, rfl, Nat.zero_le _, UInv.start s⟩
  case round =>
    clear hmk
    obtain ⟨pos, arr, rfl, hpos, hinv⟩ := hrel
    by_cases hlt : pos < s.size
    · have hgd : s.data.toList.getD pos 0 = s[pos] := by
        have hl : pos < s.data.toList.length := by rw [Array.length_toList]; exact hlt
        rw [List.getD, List.getElem?_eq_getElem hl]; rfl
      cases hd : lowval s[pos] with
      | none =>
        have HIB := Aside0.mk (idx_low_none _ hd)
        have hnx : ∀ ty, (Instr.next (.pointer (some ⟨w.heap.size + 1, 0, none⟩)) true ty).run Tryd.prog ((w.alloc (.cells arr 5)).iter s pos) = .ok (.tuple #[.bool true, .int .i64 pos, .int .i32 (Utf8.decode s pos).1]) ((w.alloc (.cells arr 5)).iter s (pos + (Utf8.decode s pos).2)) := fun ty => by
          have h := run_next_any (P := Tryd.prog) (w.alloc (.cells arr 5)) s pos ty hlt
          rw [World.size_alloc] at h
          exact h
        generalize pos + (Utf8.decode s pos).2 = pos2 at hnx
        generalize (Utf8.decode s pos).1 = rune at hnx
        have HD := Aside0.mk (show lowval (s.data.toList.getD pos 0) = none by rw [hgd]; exact hd)
        clear hd hgd hinv
        go_wp2_with fail
        refine (HIB.out _).mono ?_
        rintro e w' ⟨rfl, rfl⟩
        go_wp2_with fail
        go_ret2
        exact ⟨_, _, rfl, UEnds.bad hlt HD.out, iter_below _ _ _ _ _⟩
      | some d =>
        have HIB := Aside0.mk (idx_low_some _ _ hd)
        have hasc : (s[pos]).toNat < 128 := by
          unfold lowval at hd
          split at hd
          · omega
          · split at hd
            · omega
            · cases hd
        have hnx : ∀ ty, (Instr.next (.pointer (some ⟨w.heap.size + 1, 0, none⟩)) true ty).run Tryd.prog ((w.alloc (.cells arr 5)).iter s pos) = .ok (.tuple #[.bool true, .int .i64 pos, .int .i32 (s[pos]).toNat]) ((w.alloc (.cells arr 5)).iter s (pos + 1)) := fun ty => by
          have h := run_next_ascii (P := Tryd.prog) (w.alloc (.cells arr 5)) s pos ty hlt hasc
          rw [World.size_alloc] at h
          exact h
        have hd16 : d < 16 := by have := hv_lt s[pos]; unfold hv at this; rw [hd] at this; exact this
        have HDD := Aside0.mk (show lowval (s.data.toList.getD pos 0) = some d by rw [hgd]; exact hd)
        clear hgd hd hasc
        rcases Nat.mod_two_eq_zero_or_one pos with hev | hod
        · obtain ⟨m, rfl⟩ : ∃ m, pos = 2 * m := ⟨pos / 2, by omega⟩
          have HS := Aside0.mk (hinv.even rfl hlt HDD.out)
          have harr := hinv.2.2 m (by omega)
          rw [if_neg (by omega), if_neg (by omega)] at harr
          have hcell := (iter_cell w arr 5 s (2 * m + 1) m).trans harr
          have hfz := iter_frozen w arr 5 s (2 * m + 1) m
          have hset := fun v => iter_setCell w arr 5 s (2 * m + 1) m v
          have hor := or_zero ⟨d, hd16⟩
          have hm2 : (2 * (m : Int)) / 2 = (m : Int) := by omega
          clear hinv hev harr
          go_wp2_with fail
          refine (HIB.out _).mono ?_
          rintro e w' ⟨rfl, rfl⟩
          go_wp2_with fail
          go_roundw
          case rel => exact ⟨2 * m + 1, _, rfl, by omega, HS.out⟩
          case measure => rw [iter_pos, iter_pos]; omega
        · obtain ⟨m, rfl⟩ : ∃ m, pos = 2 * m + 1 := ⟨pos / 2, by omega⟩
          have HS := Aside0.mk (hinv.odd rfl hlt HDD.out)
          have harr := hinv.2.2 m (by omega)
          rw [if_neg (by omega), if_pos (by omega)] at harr
          have hx16 := nib_lt s (2 * m)
          have hor := or_hex ⟨nib s (2 * m), hx16⟩ ⟨d, hd16⟩
          generalize nib s (2 * m) = x at HS harr hx16 hor
          have hcell := (iter_cell w arr 5 s (2 * m + 1 + 1) m).trans harr
          have hfz := iter_frozen w arr 5 s (2 * m + 1 + 1) m
          have hset := fun v => iter_setCell w arr 5 s (2 * m + 1 + 1) m v
          have hm2 : (2 * (m : Int) + 1) / 2 = (m : Int) := by omega
          have ix0 : (0 : Int) ≤ (x : Int) := by omega
          have ix1 : (x : Int) ≤ 15 := by omega
          clear hinv hod harr
          go_wp2_with fail
          refine (HIB.out _).mono ?_
          rintro e w' ⟨rfl, rfl⟩
          go_wp2_with fail
          go_roundw
          case rel => exact ⟨2 * m + 1 + 1, _, rfl, by omega, HS.out⟩
          case measure => rw [iter_pos, iter_pos]; omega
    · have hnx : ∀ ty, (Instr.next (.pointer (some ⟨w.heap.size + 1, 0, none⟩)) true ty).run Tryd.prog ((w.alloc (.cells arr 5)).iter s pos) = .ok (.tuple #[.bool false]) ((w.alloc (.cells arr 5)).iter s pos) := fun ty => by
        have h := run_next_end (P := Tryd.prog) (w.alloc (.cells arr 5)) s pos ty hlt
        rw [World.size_alloc] at h
        exact h
      have hpe : pos = s.size := by omega
      have HI := Aside0.mk (show UInv s s.size arr by rw [← hpe]; exact hinv)
      have hcv := iter_str w arr 5 s pos (s.size / 2) (s.size / 2) (unhexBytes s) (by simp [unhexBytes]) (fun j x hx => HI.out.reads j x hx)
      clear hpe hinv
      go_wp2_with fail
      go_ret2
      exact ⟨_, _, rfl, UEnds.good HI.out, iter_below _ _ _ _ _⟩

def text_Unhex.f (a0 : ByteArray) : Option (ByteArray × Bool) :=
  if a0.size ≤ 4294967280 then some (if a0.size % 2 = 0 then (if unhexOk a0 = true then (⟨(unhexBytes a0).toArray⟩, true) else (⟨#[]⟩, false)) else (⟨#[]⟩, false)) else none
set_option maxRecDepth 100000 in
theorem unhex_odd (s : ByteArray) (he : ¬ s.size % 2 = 0) (w : World) :
    Calls Tryd.prog 17 #[.string s] w fun e w' => e = .returned (.tuple #[.string ⟨#[]⟩, .bool false]) ∧ w = w' := by
  have hodd : ((s.size : Int) % 2 != 0) = true := by simp; omega
  clear he
  go_enter Tryd.func17, Tryd.ntmps17
  go_wp2_with fail
  go_ret2
  exact ⟨rfl, rfl⟩
theorem text_Unhex.calls (a0 : ByteArray) (r1 : ByteArray) (r2 : Bool) (w : World) (hG : Aside0 (Glob w)) (h : text_Unhex.f a0 = some (r1, r2)) :
    Calls Tryd.prog 17 #[.string a0] w fun e w' => e = .returned (.tuple #[.string r1, .bool r2]) ∧ Below w.heap.size w w' := by
  unfold text_Unhex.f at h
  by_cases hc : a0.size ≤ 4294967280
  · rw [if_pos hc] at h
    have h1 := Option.some.inj h
    by_cases he : a0.size % 2 = 0
    · rw [if_pos he] at h1
      refine (unhex_even a0 hc he w).mono ?_
      rintro e w' ⟨s1, s2, rfl, hE, hb⟩
      unfold UEnds at hE
      have hE2 := hE.trans h1
      simp only [Prod.mk.injEq] at hE2
      obtain ⟨rfl, rfl⟩ := hE2
      exact ⟨rfl, hb⟩
    · rw [if_neg he] at h1
      simp only [Prod.mk.injEq] at h1
      obtain ⟨rfl, rfl⟩ := h1
      refine (unhex_odd a0 he w).mono ?_
      rintro e w' ⟨rfl, rfl⟩
      exact ⟨rfl, Below.refl _ _⟩
  · rw [if_neg hc] at h; exact absurd h (by simp)
end Go.Proofs.YtmegbllhidkmoaaDoor.Tx
