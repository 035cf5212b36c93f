/- What a map of the program's own holds, told by a list of pairs: made, looked up, stored, struck, counted, ranged over, copied. -/
import Derived.Maps.OwnSet
import Derived.Maps.RangeWalk
import Derived.Maps.Ext
import Derived.Test.YtmegbllhidkmoaaGreatProg
import Derived.KernelRfl
import Derived.WalkKit
import Derived.WalkSpells
import Derived.DeepKeys4
import Derived.Maps.AppendAt
import Derived.Deep.AppendLies
import Derived.Deep.RegionHeld3
import Derived.Deep.DrawnRows
import Derived.Outline
import Derived.Deep.QuietTactic
import Derived.BigQuiet
import Derived.Deep.RegionLaw
import Derived.Carry
import Derived.Sort.Grow
import Derived.Below
import Derived.Deep.Draws
import Derived.OwnWalk
import Derived.Laws.BytesArg
import Derived.Laws.MakeOwn
import Derived.Laws.OwnMore
import Derived.Deep.OwnRows
import Derived.Tactics
import Derived.Lib.ConvBytes
import Derived.Laws.Slices
import Derived.RowKit3
import Derived.Deep.LoopGhost
import Derived.WideLaws
import Derived.Deep.DeepCutAuto
import Derived.Deep.CutBlock
import Derived.Laws.Rows
import Derived.Lib.AppendStr
import Derived.ArgAppend
import Derived.Laws.IdiomCopy
import Derived.OrdersHeld
import Derived.Laws.BitsLemmas
import Derived.RowKit
import Derived.Test.YtmegbllhidkmoaaGreatPe0
namespace Go.Proofs.YtmegbllhidkmoaaGreat.Tb
open Go.RowKit Go.Maps
set_option linter.unusedVariables false

abbrev Dat := DataW Value
def heldE (v : Value) : Option (Dat × List MemPlace) := some (.held v, [])

section
variable {α β : Type}
/-- How keys lie as values. -/
structure KeyEnc (P : Program) (k : TypeId) (kv : α → Value) (ok : α → Prop) : Prop where
  law : Keyed P k
  key : ∀ a, ok a → ∃ kl, keyOf P k (kv a) = some kl
  inj : ∀ a b, kv a = kv b → a = b

/-- What holds of a map's datum when it holds these pairs. -/
structure Holds (P : Program) (k : TypeId) (kv : α → Value) (ok : α → Prop) (ev : β → Value) (D : Dat) (A : List (α × β)) : Prop where
  size : Maps.size D = A.length
  nodup : (A.map Prod.fst).Nodup
  keys : ∀ p ∈ A, ok p.1
  back : ∀ kl, Maps.has D kl = true → ∃ p ∈ A, keyOf P k (kv p.1) = some kl
  forth : ∀ p ∈ A, ∀ kl, keyOf P k (kv p.1) = some kl → Maps.has D kl = true ∧ ∀ z, D.atKey kl z = .held (ev p.2)
/-- Block b is a map that holds these pairs. -/
def MapIs (P : Program) (k : TypeId) (kv : α → Value) (ok : α → Prop) (ev : β → Value) (w : World) (b n : Nat) (A : List (α × β)) : Prop :=
  ∃ D : Dat, w.ownsMap P k heldE b n D ∧ Holds P k kv ok ev D A

variable {P : Program} {k t e : TypeId} {kv : α → Value} {ok : α → Prop} {ev : β → Value} {w : World} {b n : Nat} {A : List (α × β)} {D : Dat}

theorem MapIs.lt (h : MapIs P k kv ok ev w b n A) : b < w.heap.size := by obtain ⟨D, h, _⟩ := h; exact h.lt
theorem MapIs.kept {w' : World} {row : Option Nat} (h : MapIs P k kv ok ev w b n A) (hg : w.grownBy w' row) (hne : some b ≠ row) : MapIs P k kv ok ev w' b n A := by
  obtain ⟨D, h, hh⟩ := h
  exact ⟨D, h.kept hg hne, hh⟩
theorem MapIs.block {w' : World} (h : MapIs P k kv ok ev w b n A) (hb : w'.heap[b]? = w.heap[b]?) : MapIs P k kv ok ev w' b n A := by
  obtain ⟨D, ⟨es, clock, h1, h2⟩, hh⟩ := h
  exact ⟨D, ⟨es, clock, hb.trans h1, h2⟩, hh⟩
theorem MapIs.mono {n' : Nat} (h : MapIs P k kv ok ev w b n A) (hn : n ≤ n') : MapIs P k kv ok ev w b n' A := by
  obtain ⟨D, h, hh⟩ := h
  exact ⟨D, h.mono hn, hh⟩
theorem MapIs.nodup (h : MapIs P k kv ok ev w b n A) : (A.map Prod.fst).Nodup := by obtain ⟨D, _, hh⟩ := h; exact hh.nodup
theorem MapIs.size_le (h : MapIs P k kv ok ev w b n A) : A.length ≤ n := by
  obtain ⟨D, h, hh⟩ := h
  rw [← hh.size]; exact h.size_le
theorem MapIs.perm {A' : List (α × β)} (h : MapIs P k kv ok ev w b n A) (hp : A.Perm A') : MapIs P k kv ok ev w b n A' := by
  obtain ⟨D, h, hh⟩ := h
  exact ⟨D, h, ⟨hh.size.trans hp.length_eq, (hp.map _).nodup_iff.1 hh.nodup, fun p hp' => hh.keys p (hp.mem_iff.2 hp'), fun kl hk => by
    obtain ⟨p, hp', hk'⟩ := hh.back kl hk
    exact ⟨p, hp.mem_iff.1 hp', hk'⟩, fun p hp' => hh.forth p (hp.mem_iff.2 hp')⟩⟩
theorem MapIs.made (w : World) : MapIs P k kv ok ev (w.alloc (.map #[] 0)) w.heap.size 0 [] :=
  ⟨.map [], World.ownsMap_made w P k _, ⟨rfl, List.nodup_nil, (fun p h => by cases h), (fun kl h => by cases h), (fun p h => by cases h)⟩⟩

theorem MapIs.len (h : MapIs P k kv ok ev w b n A) (ht : P.underlying t = some (.map k e)) (ty : TypeId) : (Builtin.len_ #[t] ty #[.map (some b)]).run P w = .ok (.int .i64 (A.length : Int)) w := by
  obtain ⟨D, h, hh⟩ := h
  rw [h.len ht ty, hh.size]

variable [DecidableEq α]
def look (A : List (α × β)) (a : α) : Option β := (A.find? fun p => p.1 = a).map Prod.snd
theorem look_some {a : α} {x : β} (h : look A a = some x) : (a, x) ∈ A := by
  unfold look at h
  obtain ⟨p, hp, rfl⟩ := Option.map_eq_some_iff.1 h
  have h1 := List.find?_some hp
  simp at h1
  subst h1
  exact List.mem_of_find?_eq_some hp
theorem look_none {a : α} (h : look A a = none) : ∀ p ∈ A, p.1 ≠ a := fun p hp he => by
  unfold look at h
  rw [Option.map_eq_none_iff, List.find?_eq_none] at h
  exact h p hp (by simp [he])
theorem look_cons (p : α × β) (A : List (α × β)) (a : α) : look (p :: A) a = if p.1 = a then some p.2 else look A a := by
  by_cases h : p.1 = a
  · rw [if_pos h]; simp [look, h]
  · rw [if_neg h]; simp [look, h]
theorem look_mem : ∀ {A : List (α × β)} {a : α} {x : β}, (A.map Prod.fst).Nodup → (a, x) ∈ A → look A a = some x
  | [], a, x, _, h => by cases h
  | p :: A, a, x, hn, h => by
    rw [List.map_cons, List.nodup_cons] at hn
    rw [look_cons]
    rcases List.mem_cons.1 h with rfl | h
    · rw [if_pos rfl]
    · rw [if_neg (fun e => hn.1 (List.mem_map.2 ⟨(a, x), h, e.symm⟩))]
      exact look_mem hn.2 h

theorem Holds.look_eq (h : Holds P k kv ok ev D A) (K : KeyEnc P k kv ok) {a : α} {kl : Lit} (hk : keyOf P k (kv a) = some kl) (z : Value) :
    Maps.has D kl = (look A a).isSome ∧ D.atKey kl (.held z) = .held (match look A a with | some x => ev x | none => z) := by
  cases hl : look A a with
  | none =>
    have hf : Maps.has D kl = false := by
      cases hh : Maps.has D kl with
      | false => rfl
      | true =>
        obtain ⟨p, hp, hpk⟩ := h.back kl hh
        exact absurd (K.inj _ _ (K.law.inj hpk hk)) (look_none hl p hp)
    exact ⟨hf, Maps.atKey_of_not_has hf _⟩
  | some x =>
    have := h.forth _ (look_some hl) kl hk
    exact ⟨this.1, this.2 _⟩
theorem MapIs.look_ok (h : MapIs P k kv ok ev w b n A) (K : KeyEnc P k kv ok) (ht : P.underlying t = some (.map k e)) {z : Value} (hz : (zeroValue e).run P w = .ok z w) {a : α} (ha : ok a) :
    (Instr.lookup t (.map (some b)) (kv a) true).run P w = .ok (.tuple #[(match look A a with | some x => ev x | none => z), .bool (look A a).isSome]) w := by
  obtain ⟨D, h, hh⟩ := h
  obtain ⟨kl, hk⟩ := K.key a ha
  obtain ⟨v, ps, hrun, hv⟩ := h.look_ok K.law ht hz (R := heldE) rfl hk
  obtain ⟨h1, h2⟩ := hh.look_eq K hk z
  rw [h2] at hv
  simp only [heldE, Option.some.injEq, Prod.mk.injEq, DataW.held.injEq] at hv
  rw [hrun, h1, hv.1]
theorem MapIs.look_one (h : MapIs P k kv ok ev w b n A) (K : KeyEnc P k kv ok) (ht : P.underlying t = some (.map k e)) {z : Value} (hz : (zeroValue e).run P w = .ok z w) {a : α} (ha : ok a) :
    (Instr.lookup t (.map (some b)) (kv a) false).run P w = .ok (match look A a with | some x => ev x | none => z) w := by
  obtain ⟨D, h, hh⟩ := h
  obtain ⟨kl, hk⟩ := K.key a ha
  obtain ⟨v, ps, hrun, hv⟩ := h.lookup K.law ht hz (R := heldE) rfl hk
  obtain ⟨h1, h2⟩ := hh.look_eq K hk z
  rw [h2] at hv
  simp only [heldE, Option.some.injEq, Prod.mk.injEq, DataW.held.injEq] at hv
  rw [hrun, hv.1]
/-- The pairs behind a store. -/
def stored (A : List (α × β)) (a : α) (x : β) : List (α × β) := (a, x) :: A.filter fun p => p.1 ≠ a
def struck (A : List (α × β)) (a : α) : List (α × β) := A.filter fun p => p.1 ≠ a
theorem struck_nodup {a : α} (h : (A.map Prod.fst).Nodup) : ((struck A a).map Prod.fst).Nodup := h.sublist (List.Sublist.map _ List.filter_sublist)
theorem struck_len {a : α} (h : (A.map Prod.fst).Nodup) : (struck A a).length + (if (look A a).isSome then 1 else 0) = A.length := by
  induction A with
  | nil => rfl
  | cons p A ih =>
    simp only [List.map_cons, List.nodup_cons] at h
    by_cases hp : p.1 = a
    · have e1 : struck A a = A := by
        unfold struck
        rw [List.filter_eq_self]
        intro q hq
        have : q.1 ≠ a := fun e => h.1 (List.mem_map.2 ⟨q, hq, by rw [e, hp]⟩)
        simpa using this
      have e2 : struck (p :: A) a = A := by
        unfold struck at e1 ⊢
        rw [List.filter_cons_of_neg (by simp [hp]), e1]
      have e3 : look (p :: A) a = some p.2 := by simp [look, hp]
      rw [e2, e3]; simp
    · have e2 : struck (p :: A) a = p :: struck A a := by
        unfold struck
        rw [List.filter_cons_of_pos (by simp [hp])]
      have e3 : look (p :: A) a = look A a := by simp [look, hp]
      rw [e2, e3]
      have := ih h.2
      simp only [List.length_cons]
      omega

theorem Holds.put (h : Holds P k kv ok ev D A) (hm : Maps.IsMap D) (ht : Maps.Tidy D) (K : KeyEnc P k kv ok) {a : α} (ha : ok a) {kl : Lit} (hk : keyOf P k (kv a) = some kl) (x : β) : Holds P k kv ok ev (D.put kl (.held (ev x))) (stored A a x) := by
  have hkl := K.law.key hk
  have hl := (h.look_eq K hk .nilIface).1
  refine ⟨?_, ?_, ?_, ?_, ?_⟩
  · rw [Maps.size_put ht, hl, h.size]
    have := struck_len (a := a) h.nodup
    show _ = (struck A a).length + 1
    cases hs : (look A a).isSome <;> rw [hs] at this <;> simp at this ⊢ <;> omega
  · unfold stored
    rw [List.map_cons, List.nodup_cons]
    refine ⟨fun hm => ?_, struck_nodup h.nodup⟩
    obtain ⟨q, hq, he⟩ := List.mem_map.1 hm
    have := (List.mem_filter.1 hq).2
    simp at this
    exact this he
  · intro p hp
    rcases List.mem_cons.1 hp with rfl | hp
    · exact ha
    · exact h.keys p (List.mem_filter.1 hp).1
  · intro kl' hh
    by_cases e : kl' = kl
    · exact ⟨(a, x), List.mem_cons_self, by rw [e]; exact hk⟩
    · rw [Maps.has_put_other e] at hh
      obtain ⟨p, hp, hpk⟩ := h.back kl' hh
      refine ⟨p, List.mem_cons_of_mem _ (List.mem_filter.2 ⟨hp, ?_⟩), hpk⟩
      have : p.1 ≠ a := fun ea => e (by rw [ea, hk] at hpk; exact (Option.some.inj hpk).symm)
      simpa using this
  · intro p hp kl' hk'
    rcases List.mem_cons.1 hp with rfl | hp
    · obtain rfl : kl = kl' := Option.some.inj (hk.symm.trans hk')
      exact ⟨Maps.has_put_same hm hkl _, fun z => Maps.atKey_put_same hm hkl _ z⟩
    · obtain ⟨hp1, hp2⟩ := List.mem_filter.1 hp
      simp at hp2
      have e : kl' ≠ kl := fun e => hp2 (K.inj _ _ (K.law.inj hk' (by rw [e]; exact hk)))
      have := h.forth p hp1 kl' hk'
      exact ⟨by rw [Maps.has_put_other e]; exact this.1, fun z => by rw [Maps.atKey_put_other e]; exact this.2 z⟩
theorem Holds.del (h : Holds P k kv ok ev D A) (ht : Maps.Tidy D) (K : KeyEnc P k kv ok) {a : α} {kl : Lit} (hk : keyOf P k (kv a) = some kl) : Holds P k kv ok ev (D.del kl) (struck A a) := by
  have hl := (h.look_eq K hk .nilIface).1
  refine ⟨?_, struck_nodup h.nodup, fun p hp => h.keys p (List.mem_filter.1 hp).1, ?_, ?_⟩
  · have h1 := Maps.size_del (k := kl) ht
    have h2 := struck_len (a := a) h.nodup
    rw [hl, h.size] at h1
    omega
  · intro kl' hh
    by_cases e : kl' = kl
    · rw [e, Maps.has_del_same] at hh; cases hh
    · rw [Maps.has_del_other e] at hh
      obtain ⟨p, hp, hpk⟩ := h.back kl' hh
      refine ⟨p, List.mem_filter.2 ⟨hp, ?_⟩, hpk⟩
      have : p.1 ≠ a := fun ea => e (by rw [ea, hk] at hpk; exact (Option.some.inj hpk).symm)
      simpa using this
  · intro p hp kl' hk'
    obtain ⟨hp1, hp2⟩ := List.mem_filter.1 hp
    simp at hp2
    have e : kl' ≠ kl := fun e => hp2 (K.inj _ _ (K.law.inj hk' (by rw [e]; exact hk)))
    have := h.forth p hp1 kl' hk'
    exact ⟨by rw [Maps.has_del_other e]; exact this.1, fun z => by rw [Maps.atKey_del_other e]; exact this.2 z⟩
theorem MapIs.store (h : MapIs P k kv ok ev w b n A) (K : KeyEnc P k kv ok) (ht : P.underlying t = some (.map k e)) (hn : n < maxLen) {a : α} (ha : ok a) (x : β) :
    ∃ w', (Instr.mapUpdate t (.map (some b)) (kv a) (ev x)).run P w = .ok () w' ∧ MapIs P k kv ok ev w' b (n + 1) (stored A a x) ∧ w.mapTurned w' b := by
  obtain ⟨D, h, hh⟩ := h
  obtain ⟨kl, hk⟩ := K.key a ha
  obtain ⟨w', hrun, hown, hturn⟩ := h.store K.law ht hn hk (R := heldE) (d := .held (ev x)) (ps := []) rfl
  exact ⟨w', hrun, ⟨_, hown, hh.put h.isMap (h.tidy K.law) K ha hk x⟩, hturn⟩
theorem MapIs.drop (h : MapIs P k kv ok ev w b n A) (K : KeyEnc P k kv ok) (ht : P.underlying t = some (.map k e)) {a : α} (ha : ok a) (ty : TypeId) :
    ∃ w', (Builtin.delete_ #[t, k] ty #[.map (some b), kv a]).run P w = .ok (.tuple #[]) w' ∧ MapIs P k kv ok ev w' b n (struck A a) ∧ w.mapTurned w' b := by
  obtain ⟨D, h, hh⟩ := h
  obtain ⟨kl, hk⟩ := K.key a ha
  obtain ⟨w', hrun, hown, hturn⟩ := h.drop K.law ht hk ty
  exact ⟨w', hrun, ⟨_, hown, hh.del (h.tidy K.law) K hk⟩, hturn⟩
end
end Go.Proofs.YtmegbllhidkmoaaGreat.Tb

/- The values of package table: keys, leases, owners, ends; what is kept of a world. -/
namespace Go.Proofs.YtmegbllhidkmoaaGreat.Tb
open Go.RowKit Go.Maps
set_option linter.unusedVariables false

/-- A fact kept from the walk. -/
structure Aside1 (p : Prop) : Prop where
  mk ::
  out : p

/-- Of the blocks that were there none has turned but those of S. -/
structure Kept (S : Nat → Prop) (w w' : World) : Prop where
  os : w'.os = w.os
  tape : w'.tape = w.tape
  output : w'.output = w.output
  size : w.heap.size ≤ w'.heap.size
  block : ∀ k, k < w.heap.size → ¬ S k → w'.heap[k]? = w.heap[k]?
theorem Kept.refl (S : Nat → Prop) (w : World) : Kept S w w := ⟨rfl, rfl, rfl, Nat.le_refl _, fun _ _ _ => rfl⟩
theorem Kept.drew {S : Nat → Prop} {a w : World} (h : Kept S a w) : Kept S a w.drew := ⟨h.os, h.tape, h.output, h.size, h.block⟩
theorem Kept.andThen {S S' : Nat → Prop} {a b c : World} (h : Kept S a b) (k : Kept S' b c) (hs : ∀ i, i < a.heap.size → S' i → S i) : Kept S a c :=
  ⟨k.os.trans h.os, k.tape.trans h.tape, k.output.trans h.output, Nat.le_trans h.size k.size, fun i hi hn => (k.block i (Nat.lt_of_lt_of_le hi h.size) (fun e => hn (hs i hi e))).trans (h.block i hi hn)⟩
theorem Kept.grown {S : Nat → Prop} {w w' : World} {row : Option Nat} (h : w.grownBy w' row) (hs : ∀ k, row = some k → S k) : Kept S w w' :=
  ⟨h.os, h.tape, h.output, h.size, fun k hk hn => h.block k hk (fun e => hn (hs k e.symm))⟩
theorem Kept.mono {S S' : Nat → Prop} {w w' : World} (h : Kept S w w') (hs : ∀ k, S k → S' k) : Kept S' w w' := ⟨h.os, h.tape, h.output, h.size, fun k hk hn => h.block k hk (fun e => hn (hs k e))⟩
theorem Kept.alloc {S : Nat → Prop} {a w : World} (h : Kept S a w) (o : Obj) : Kept S a (w.alloc o) :=
  ⟨h.os, h.tape, h.output, by simp; exact Nat.le_succ_of_le h.size, fun k hk hn => (Below.heap_alloc w o k (Nat.lt_of_lt_of_le hk h.size)).trans (h.block k hk hn)⟩
theorem Kept.setCell {S : Nat → Prop} {a w : World} (h : Kept S a w) {p : Addr} (hp : p.block < a.heap.size → S p.block) (u : Value) : Kept S a (w.setCell p u) := by
  refine ⟨?_, ?_, ?_, by simp [World.setCell]; exact h.size, fun k hk hn => (Below.heap_setCell w p u k (fun e => hn (by rw [e]; exact hp (by rw [← e]; exact hk)))).trans (h.block k hk hn)⟩
  · have e := h.os; unfold World.setCell; exact e
  · have e := h.tape; unfold World.setCell; exact e
  · have e := h.output; unfold World.setCell; exact e
theorem Kept.below {S : Nat → Prop} {w w' : World} (h : Kept S w w') {B : Nat} (hB : B ≤ w.heap.size) (hs : ∀ k, k < B → ¬ S k) : Below B w w' :=
  ⟨h.os, h.tape, h.output, h.size, fun k hk => h.block k (Nat.lt_of_lt_of_le hk hB) (hs k hk)⟩
theorem Kept.cell {S : Nat → Prop} {w w' : World} (h : Kept S w w') {a : Addr} {v : Value} (hc : w.cell? a = some v) (hn : ¬ S a.block) : w'.cell? a = some v := by
  have hb := World.block_lt_of_cell? w a hc
  rw [World.cell?_of_block (w := w) (h.block a.block hb hn)]; exact hc

structure Key where
  kind : Int
  hi : Int
  lo : Int
  bits : Int
structure Owner where
  kind : Int
  client : ByteArray
  iaid : Int
structure End where
  till : Int
  key : Key
structure Lease where
  key : Key
  state : Int
  client : ByteArray
  iaid : Int
  till : Int
theorem Key.eq_of {a b : Key} (h1 : a.kind = b.kind) (h2 : a.hi = b.hi) (h3 : a.lo = b.lo) (h4 : a.bits = b.bits) : a = b := by
  cases a; cases b; simp_all
instance : DecidableEq Key := fun a b => decidable_of_iff (a.kind = b.kind ∧ a.hi = b.hi ∧ a.lo = b.lo ∧ a.bits = b.bits) ⟨fun h => Key.eq_of h.1 h.2.1 h.2.2.1 h.2.2.2, fun h => by subst h; exact ⟨rfl, rfl, rfl, rfl⟩⟩
instance : DecidableEq Owner := fun a b => decidable_of_iff (a.kind = b.kind ∧ a.client = b.client ∧ a.iaid = b.iaid) ⟨fun h => by cases a; cases b; simp_all, fun h => by subst h; exact ⟨rfl, rfl, rfl⟩⟩
instance : DecidableEq Lease := fun a b => decidable_of_iff (a.key = b.key ∧ a.state = b.state ∧ a.client = b.client ∧ a.iaid = b.iaid ∧ a.till = b.till) ⟨fun h => by cases a; cases b; simp_all, fun h => by subst h; exact ⟨rfl, rfl, rfl, rfl, rfl⟩⟩
instance : DecidableEq End := fun a b => decidable_of_iff (a.till = b.till ∧ a.key = b.key) ⟨fun h => by cases a; cases b; simp_all, fun h => by subst h; exact ⟨rfl, rfl⟩⟩

def Lease.owner (l : Lease) : Owner := ⟨l.key.kind, l.client, l.iaid⟩
def Lease.fin (l : Lease) : End := ⟨l.till, l.key⟩
def Key.cells (k : Key) : List Value := [.int .i64 k.kind, .int .u64 k.hi, .int .u64 k.lo, .int .i64 k.bits]
def Key.val (k : Key) : Value := .agg #[.int .i64 k.kind, .int .u64 k.hi, .int .u64 k.lo, .int .i64 k.bits]
def Owner.val (o : Owner) : Value := .agg #[.int .i64 o.kind, .string o.client, .int .u32 o.iaid]
def End.cells (e : End) : List Value := [.int .i64 e.till, .int .i64 e.key.kind, .int .u64 e.key.hi, .int .u64 e.key.lo, .int .i64 e.key.bits]
def End.val (e : End) : Value := .agg #[.int .i64 e.till, .int .i64 e.key.kind, .int .u64 e.key.hi, .int .u64 e.key.lo, .int .i64 e.key.bits]
def Lease.cells (l : Lease) : List Value := [.int .i64 l.key.kind, .int .u64 l.key.hi, .int .u64 l.key.lo, .int .i64 l.key.bits, .int .i64 l.state, .string l.client, .int .u32 l.iaid, .int .i64 l.till]
def Lease.val (l : Lease) : Value := .agg #[.int .i64 l.key.kind, .int .u64 l.key.hi, .int .u64 l.key.lo, .int .i64 l.key.bits, .int .i64 l.state, .string l.client, .int .u32 l.iaid, .int .i64 l.till]
def Key.ok (k : Key) : Prop := (Lit.int .i64 k.kind).wf = true ∧ (Lit.int .u64 k.hi).wf = true ∧ (Lit.int .u64 k.lo).wf = true ∧ (Lit.int .i64 k.bits).wf = true
def Owner.ok (o : Owner) : Prop := (Lit.int .i64 o.kind).wf = true ∧ o.client.size ≤ maxLen ∧ (Lit.int .u32 o.iaid).wf = true
def Lease.ok (l : Lease) : Prop := l.key.ok ∧ (Lit.int .i64 l.state).wf = true ∧ l.client.size ≤ maxLen ∧ (Lit.int .u32 l.iaid).wf = true ∧ (Lit.int .i64 l.till).wf = true

/-! the keys of the two maps -/
theorem Tryz.laidOutK : laidOutB Tryz.prog = true := by kernel_rfl
theorem Tryz.rowKey : 71 < Tryz.prog.types.size := of_decide_eq_true (by kernel_rfl)
theorem Tryz.wideKey : (match Tryz.prog.underlying 71 with | some (.array _ _) | some (.struct _) => true | _ => false) = true := by kernel_rfl
set_option maxRecDepth 100000 in
theorem Tryz.lawKey : Keyed Tryz.prog 71 := Keyed.of_law (deep_law_laid Tryz.laidOutK (m := 4) (by omega) Tryz.rowKey (by kernel_rfl) Tryz.wideKey)
theorem Tryz.rowOwner : 74 < Tryz.prog.types.size := of_decide_eq_true (by kernel_rfl)
theorem Tryz.wideOwner : (match Tryz.prog.underlying 74 with | some (.array _ _) | some (.struct _) => true | _ => false) = true := by kernel_rfl
set_option maxRecDepth 100000 in
theorem Tryz.lawOwner : Keyed Tryz.prog 74 := Keyed.of_law (deep_law_laid Tryz.laidOutK (m := 4) (by omega) Tryz.rowOwner (by kernel_rfl) Tryz.wideOwner)
theorem Tryz.deepKey : Tryz.prog.keyType 71 = true := by kernel_rfl
theorem Tryz.deepOwner : Tryz.prog.keyType 74 = true := by kernel_rfl
theorem Tryz.cellsKey : Tryz.prog.cellsOf 71 = 4 := by kernel_rfl
theorem Tryz.cellsOwner : Tryz.prog.cellsOf 74 = 3 := by kernel_rfl
theorem Tryz.cellsPfx : Tryz.prog.cellsOf 27 = 3 := by kernel_rfl
theorem Tryz.cellsAddr : Tryz.prog.cellsOf 25 = 2 := by kernel_rfl
theorem Tryz.cellsInt : Tryz.prog.cellsOf 3 = 1 := by kernel_rfl
theorem Tryz.cellsU64 : Tryz.prog.cellsOf 23 = 1 := by kernel_rfl
theorem Tryz.cellsU32 : Tryz.prog.cellsOf 28 = 1 := by kernel_rfl
theorem Tryz.cellsStr : Tryz.prog.cellsOf 9 = 1 := by kernel_rfl
theorem key_ok (k : Key) (h : k.ok) : ∃ kl, keyOf Tryz.prog 71 k.val = some kl := by
  obtain ⟨d, hd⟩ : ∃ d, Tryz.prog.types.size + 1 = d + 5 := ⟨Tryz.prog.types.size - 4, by have : 5 ≤ Tryz.prog.types.size := of_decide_eq_true (by kernel_rfl); omega⟩
  obtain ⟨h1, h2, h3, h4⟩ := h
  have hf : k.val.formed Tryz.prog 71 = true := by simp [Key.val, Value.formed, Tryz.underlying71, Tryz.cellsKey]
  unfold keyOf
  rw [Tryz.underlying71]
  simp only
  rw [Tryz.deepKey, hf, hd]
  simp [Key.val, Value.cells, Program.keyLits, Tryz.underlying71, Tryz.underlying27, Tryz.underlying25, Tryz.underlying3, Tryz.underlying23, Tryz.cellsKey, Tryz.cellsPfx, Tryz.cellsAddr, Tryz.cellsInt, Tryz.cellsU64, h1, h2, h3, h4]
  rw [if_pos ?_, if_pos ?_]
  · exact ⟨_, rfl⟩
  · intro i hi
    rcases (by omega : i = 0 ∨ i = 1) with rfl | rfl <;> simp
  · intro i hi
    rcases (by omega : i = 0 ∨ i = 1) with rfl | rfl <;> simp
theorem owner_ok (k : Owner) (h : k.ok) : ∃ kl, keyOf Tryz.prog 74 k.val = some kl := by
  obtain ⟨d, hd⟩ : ∃ d, Tryz.prog.types.size + 1 = d + 5 := ⟨Tryz.prog.types.size - 4, by have : 5 ≤ Tryz.prog.types.size := of_decide_eq_true (by kernel_rfl); omega⟩
  obtain ⟨h1, h2, h3⟩ := h
  have hf : k.val.formed Tryz.prog 74 = true := by simp [Owner.val, Value.formed, Tryz.underlying74, Tryz.cellsOwner]
  unfold keyOf
  rw [Tryz.underlying74]
  simp only
  rw [Tryz.deepOwner, hf, hd]
  simp [Owner.val, Value.cells, Program.keyLits, Tryz.underlying74, Tryz.underlying3, Tryz.underlying9, Tryz.underlying28, Tryz.cellsOwner, Tryz.cellsInt, Tryz.cellsStr, Tryz.cellsU32, h1, h2, h3]
theorem encKey : KeyEnc Tryz.prog 71 Key.val Key.ok := ⟨Tryz.lawKey, key_ok, fun a b h => by
  simp only [Key.val, Value.agg.injEq, Array.mk.injEq, List.cons.injEq, Value.int.injEq, true_and, and_true] at h
  exact Key.eq_of h.1 h.2.1 h.2.2.1 h.2.2.2⟩
theorem encOwner : KeyEnc Tryz.prog 74 Owner.val Owner.ok := ⟨Tryz.lawOwner, owner_ok, fun a b h => by
  simp only [Owner.val, Value.agg.injEq, Array.mk.injEq, List.cons.injEq, Value.int.injEq, Value.string.injEq, true_and, and_true] at h
  cases a; cases b; simp_all⟩
end Go.Proofs.YtmegbllhidkmoaaGreat.Tb

/- The methods of the heap of ends, and container/heap over them. -/
namespace Go.Proofs.YtmegbllhidkmoaaGreat.Tb
open Go.RowKit Go.Maps
set_option linter.unusedVariables false

/-- v is a slice of the call's own that holds these ends. -/
def EndsIs (w : World) (v : Value) (E : List End) : Prop := w.ownsRow 0 77 5 v E.length (E.flatMap End.cells)
theorem EndsIs.drew {w : World} {v : Value} {E : List End} (h : EndsIs w v E) : EndsIs w.drew v E := h
theorem ends_cell {w : World} {v : Value} {E : List End} (h : EndsIs w v E) (i : Nat) (hi : i < E.length) :
    ∃ g cap, v = .slice (some ⟨g, 0, none⟩) E.length cap ∧ E.length ≤ cap ∧ cap ≤ maxLen ∧ ∀ j, j < 5 → w.cell? ⟨g, i * 5 + j, none⟩ = ((E[i]'hi).cells)[j]? ∧ w.frozen? ⟨g, i * 5 + j, none⟩ = false := by
  obtain ⟨h1, h2⟩ := h
  rcases h2 with ⟨rfl, h0⟩ | ⟨g, cap, cur, rfl, hg, hb, hn, hm, hc, ht⟩
  · omega
  · refine ⟨g, cap, rfl, hn, hm, fun j hj => ?_⟩
    have hlen : ∀ e : End, e.cells.length = 5 := fun _ => rfl
    have hfl : ∀ (E : List End) (i : Nat) (hi : i < E.length), (E.flatMap End.cells)[i * 5 + j]? = ((E[i]'hi).cells)[j]? := fun E => by
      induction E with
      | nil => intro i hi; simp at hi
      | cons e E ih =>
        intro i hi
        cases i with
        | zero =>
          rw [List.flatMap_cons, List.getElem?_append_left (by rw [hlen]; omega)]
          simp
        | succ i =>
          rw [List.flatMap_cons, List.getElem?_append_right (by rw [hlen]; omega), hlen, show (i + 1) * 5 + j - 5 = i * 5 + j by omega]
          exact ih i (by simpa using hi)
    have h3 := hfl E i hi
    rw [← ht, List.getElem?_take_of_lt (by omega)] at h3
    have h4 : cur[i * 5 + j]? = ((E[i]'hi).cells)[j]? := by rw [← h3]; simp
    constructor
    · simp [World.cell?, hb, h4]
    · simp [World.frozen?, hb]

theorem flat_set (e : End) : ∀ (E : List End) (i : Nat), i < E.length →
    (E.set i e).flatMap End.cells = (((((E.flatMap End.cells).set (i * 5) (.int .i64 e.till)).set (i * 5 + 1) (.int .i64 e.key.kind)).set (i * 5 + 2) (.int .u64 e.key.hi)).set (i * 5 + 3) (.int .u64 e.key.lo)).set (i * 5 + 4) (.int .i64 e.key.bits)
  | [], i, h => by simp at h
  | d :: E, 0, h => by simp [End.cells]
  | d :: E, i + 1, h => by
    have ih := flat_set e E i (by simpa using h)
    have hs : ∀ (L : List Value) (k : Nat) (v : Value), (d.cells ++ L).set (k + 5) v = d.cells ++ L.set k v := fun L k v => by simp [End.cells]
    rw [List.set_cons_succ, List.flatMap_cons, List.flatMap_cons, ih]
    rw [show (i + 1) * 5 = i * 5 + 5 by omega, hs, show i * 5 + 5 + 1 = (i * 5 + 1) + 5 by omega, hs, show i * 5 + 5 + 2 = (i * 5 + 2) + 5 by omega, hs, show i * 5 + 5 + 3 = (i * 5 + 3) + 5 by omega, hs, show i * 5 + 5 + 4 = (i * 5 + 4) + 5 by omega, hs]
theorem grown_cell (w : World) (a : Addr) (v : Value) : w.grownBy (w.setCell a v) (some a.block) := by
  refine ⟨?_, ?_, ?_, by simp [World.setCell], fun k hk hne => heap_setCell_other _ _ _ _ (fun e => hne (by rw [e]))⟩
  all_goals (unfold World.setCell; rfl)
theorem grown_drew {w w' : World} {row : Option Nat} (h : w.grownBy w' row) : w.grownBy w'.drew row := ⟨h.os, h.tape, h.output, h.size, h.block⟩
/-- The world with one end written. -/
def putEnd (w : World) (g o : Nat) (e : End) : World :=
  ((((w.setCell ⟨g, o, none⟩ (.int .i64 e.till)).setCell ⟨g, o + 1, none⟩ (.int .i64 e.key.kind)).setCell ⟨g, o + 2, none⟩ (.int .u64 e.key.hi)).setCell ⟨g, o + 3, none⟩ (.int .u64 e.key.lo)).setCell ⟨g, o + 4, none⟩ (.int .i64 e.key.bits)
theorem putEnd_grown (w : World) (g o : Nat) (e : End) : w.grownBy (putEnd w g o e) (some g) := by
  have s1 := grown_cell w ⟨g, o, none⟩ (.int .i64 e.till)
  have s2 := grown_cell (w.setCell ⟨g, o, none⟩ (.int .i64 e.till)) ⟨g, o + 1, none⟩ (.int .i64 e.key.kind)
  have s3 := grown_cell ((w.setCell ⟨g, o, none⟩ (.int .i64 e.till)).setCell ⟨g, o + 1, none⟩ (.int .i64 e.key.kind)) ⟨g, o + 2, none⟩ (.int .u64 e.key.hi)
  have s4 := grown_cell (((w.setCell ⟨g, o, none⟩ (.int .i64 e.till)).setCell ⟨g, o + 1, none⟩ (.int .i64 e.key.kind)).setCell ⟨g, o + 2, none⟩ (.int .u64 e.key.hi)) ⟨g, o + 3, none⟩ (.int .u64 e.key.lo)
  have s5 := grown_cell ((((w.setCell ⟨g, o, none⟩ (.int .i64 e.till)).setCell ⟨g, o + 1, none⟩ (.int .i64 e.key.kind)).setCell ⟨g, o + 2, none⟩ (.int .u64 e.key.hi)).setCell ⟨g, o + 3, none⟩ (.int .u64 e.key.lo)) ⟨g, o + 4, none⟩ (.int .i64 e.key.bits)
  have t2 := s1.trans s2
  have t3 := t2.trans s3
  have t4 := t3.trans s4
  exact t4.trans s5
theorem putEnd_heap {w : World} {g o : Nat} {cur : Array Value} {t : TypeId} (hb : w.heap[g]? = some (.cells cur t (0, 0))) (e : End) :
    (putEnd w g o e).heap[g]? = some (.cells (((((cur.setIfInBounds o (.int .i64 e.till)).setIfInBounds (o + 1) (.int .i64 e.key.kind)).setIfInBounds (o + 2) (.int .u64 e.key.hi)).setIfInBounds (o + 3) (.int .u64 e.key.lo)).setIfInBounds (o + 4) (.int .i64 e.key.bits)) t (0, 0)) := by
  have b1 := heap_setCell_same w g o cur _ (.int .i64 e.till) hb
  have b2 := heap_setCell_same _ g (o + 1) _ _ (.int .i64 e.key.kind) b1
  have b3 := heap_setCell_same _ g (o + 2) _ _ (.int .u64 e.key.hi) b2
  have b4 := heap_setCell_same _ g (o + 3) _ _ (.int .u64 e.key.lo) b3
  exact heap_setCell_same _ g (o + 4) _ _ (.int .i64 e.key.bits) b4
/-- One end is written into a row of the call's own. -/
theorem ends_put {w : World} {g cap : Nat} {E : List End} (h : EndsIs w (.slice (some ⟨g, 0, none⟩) E.length cap) E) (i : Nat) (hi : i < E.length) (e : End) :
    EndsIs (putEnd w g (i * 5) e) (.slice (some ⟨g, 0, none⟩) E.length cap) (E.set i e) := by
  obtain ⟨h1, h2⟩ := h
  rcases h2 with ⟨hv, _⟩ | ⟨g', cap', cur, hv, hg, hb, hn, hm, hc, ht⟩
  · cases hv
  · obtain ⟨rfl, rfl⟩ : g = g' ∧ cap = cap' := by simpa using hv
    have hh := putEnd_heap (o := i * 5) hb e
    have hl : (E.set i e).length = E.length := List.length_set
    have hf := flat_set e E i hi
    generalize putEnd w g (i * 5) e = w' at hh
    unfold EndsIs
    rw [hl, hf]
    refine ⟨by simpa using h1, .inr ⟨g, cap, _, rfl, hg, hh, hn, hm, by simpa using hc, ?_⟩⟩
    rw [← ht]
    simp [List.take_set]

theorem ends_len (w : World) (v : Value) (E : List End) (h : EndsIs w v E) :
    Calls Tryz.prog 126 #[v] w fun e w' => e = .returned (.int .i64 (E.length : Int)) ∧ w' = w := by
  obtain ⟨h1, h2⟩ := h
  rcases h2 with ⟨rfl, h0⟩ | ⟨g, cap, cur, rfl, hg, hb, hn, hm, hc, ht⟩
  · go_enter Tryz.func126, Tryz.ntmps126
    go_wp2_with fail
    go_ret
    exact ⟨by rw [h0]; rfl, rfl⟩
  · clear h1 ht
    go_enter Tryz.func126, Tryz.ntmps126
    go_wp2_with fail
    go_ret
    exact ⟨rfl, rfl⟩

set_option maxRecDepth 100000 in
theorem ends_less (w : World) (v : Value) (E : List End) (h : EndsIs w v E) (i j : Nat) (hi : i < E.length) (hj : j < E.length) :
    Calls Tryz.prog 127 #[v, .int .i64 i, .int .i64 j] w fun e w' => e = .returned (.bool (decide ((E[i]'hi).till < (E[j]'hj).till))) ∧ ∃ q, w' = w.drewN q := by
  obtain ⟨g, cap, rfl, hn, hm, hc⟩ := ends_cell h i hi
  obtain ⟨g', cap', hv, _, _, hc'⟩ := ends_cell h j hj
  obtain ⟨rfl, rfl⟩ : g = g' ∧ cap = cap' := by simpa using hv
  have c0 := (hc 0 (by omega)).1
  have c1 := (hc' 0 (by omega)).1
  simp only [End.cells, List.getElem?_cons_zero, Nat.add_zero] at c0 c1
  generalize hx : (E[i]'hi).till = x at c0
  generalize hy : (E[j]'hj).till = y at c1
  have hi' : (i : Int) < (E.length : Int) := by omega
  have hi0 : (0 : Int) ≤ (i : Int) := by omega
  have hj0 : (0 : Int) ≤ (j : Int) := by omega
  have hj' : (j : Int) < (E.length : Int) := by omega
  clear hc hc' h hv hx hy
  go_enter Tryz.func127, Tryz.ntmps127
  go_wp2_with fail
  go_region_held3 (fun w' => w'.cell? ⟨g, i * 5, none⟩ = some (.int .i64 x) ∧ w'.cell? ⟨g, j * 5, none⟩ = some (.int .i64 y)) (go_keep) (fail)
  go_wp2_with fail
  go_ret
  exact ⟨rfl, 1, rfl⟩

set_option maxHeartbeats 3200000 in
set_option maxRecDepth 100000 in
theorem ends_swap (w : World) (v : Value) (E : List End) (h : EndsIs w v E) (i j : Nat) (hi : i < E.length) (hj : j < E.length) :
    Calls Tryz.prog 128 #[v, .int .i64 i, .int .i64 j] w fun e w' => e = .returned (.tuple #[]) ∧ EndsIs w' v ((E.set i (E[j]'hj)).set j (E[i]'hi)) ∧ w.grownBy w' v.ownBlock := by
  by_cases hij : i = j
  · subst hij
    obtain ⟨g, cap, rfl, hn, hm, hc⟩ := ends_cell h i hi
    have a0 := (hc 0 (by omega)).1
    have a1 := (hc 1 (by omega)).1
    have a2 := (hc 2 (by omega)).1
    have a3 := (hc 3 (by omega)).1
    have a4 := (hc 4 (by omega)).1
    have f0 := (hc 0 (by omega)).2
    have f1 := (hc 1 (by omega)).2
    have f2 := (hc 2 (by omega)).2
    have f3 := (hc 3 (by omega)).2
    have f4 := (hc 4 (by omega)).2
    simp only [End.cells, List.getElem?_cons_zero, List.getElem?_cons_succ, Nat.add_zero] at a0 a1 a2 a3 a4 f0
    have hi' : (i : Int) < (E.length : Int) := by omega
    have hi0 : (0 : Int) ≤ (i : Int) := by omega
    have H := Aside1.mk h
    clear hc h
    generalize E[i] = x at a0 a1 a2 a3 a4 ⊢
    obtain ⟨xt, xk, xh, xl, xb⟩ := x
    simp only at a0 a1 a2 a3 a4
    go_enter Tryz.func128, Tryz.ntmps128
    go_wp2_with fail
    go_region
    all_goals go_wp2_with fail
    go_end0
    have hl : (E.set i ⟨xt, ⟨xk, xh, xl, xb⟩⟩).length = E.length := List.length_set
    have r1 := ends_put H.out i hi ⟨xt, ⟨xk, xh, xl, xb⟩⟩
    rw [← hl] at r1
    have r2 := ends_put r1 i (by rw [hl]; exact hi) ⟨xt, ⟨xk, xh, xl, xb⟩⟩
    rw [hl] at r2
    have s1 := putEnd_grown w g (i * 5) ⟨xt, ⟨xk, xh, xl, xb⟩⟩
    have s2 := putEnd_grown (putEnd w g (i * 5) ⟨xt, ⟨xk, xh, xl, xb⟩⟩) g (i * 5) ⟨xt, ⟨xk, xh, xl, xb⟩⟩
    have s3 := grown_drew (s1.trans s2)
    exact ⟨rfl, r2.drew, s3⟩
  obtain ⟨g, cap, rfl, hn, hm, hc⟩ := ends_cell h i hi
  obtain ⟨g', cap', hv, _, _, hc'⟩ := ends_cell h j hj
  obtain ⟨rfl, rfl⟩ : g = g' ∧ cap = cap' := by simpa using hv
  have a0 := (hc 0 (by omega)).1
  have a1 := (hc 1 (by omega)).1
  have a2 := (hc 2 (by omega)).1
  have a3 := (hc 3 (by omega)).1
  have a4 := (hc 4 (by omega)).1
  have b0 := (hc' 0 (by omega)).1
  have b1 := (hc' 1 (by omega)).1
  have b2 := (hc' 2 (by omega)).1
  have b3 := (hc' 3 (by omega)).1
  have b4 := (hc' 4 (by omega)).1
  have f0 := (hc 0 (by omega)).2
  have f1 := (hc 1 (by omega)).2
  have f2 := (hc 2 (by omega)).2
  have f3 := (hc 3 (by omega)).2
  have f4 := (hc 4 (by omega)).2
  have g0 := (hc' 0 (by omega)).2
  have g1 := (hc' 1 (by omega)).2
  have g2 := (hc' 2 (by omega)).2
  have g3 := (hc' 3 (by omega)).2
  have g4 := (hc' 4 (by omega)).2
  simp only [End.cells, List.getElem?_cons_zero, List.getElem?_cons_succ, Nat.add_zero] at a0 a1 a2 a3 a4 b0 b1 b2 b3 b4 f0 g0
  have hi' : (i : Int) < (E.length : Int) := by omega
  have hi0 : (0 : Int) ≤ (i : Int) := by omega
  have hj0 : (0 : Int) ≤ (j : Int) := by omega
  have hj' : (j : Int) < (E.length : Int) := by omega
  have H := Aside1.mk h
  clear hc hc' h hv
  generalize E[i] = x at a0 a1 a2 a3 a4 ⊢
  generalize E[j] = y at b0 b1 b2 b3 b4 ⊢
  obtain ⟨xt, xk, xh, xl, xb⟩ := x
  obtain ⟨yt, yk, yh, yl, yb⟩ := y
  simp only at a0 a1 a2 a3 a4 b0 b1 b2 b3 b4
  · have hij' := hij
    have n11 : (i * 5 + 1 = j * 5 + 1) = False := eq_false (by omega)
    have n12 : (i * 5 + 1 = j * 5 + 2) = False := eq_false (by omega)
    have n13 : (i * 5 + 1 = j * 5 + 3) = False := eq_false (by omega)
    have n14 : (i * 5 + 1 = j * 5 + 4) = False := eq_false (by omega)
    have n21 : (i * 5 + 2 = j * 5 + 1) = False := eq_false (by omega)
    have n22 : (i * 5 + 2 = j * 5 + 2) = False := eq_false (by omega)
    have n23 : (i * 5 + 2 = j * 5 + 3) = False := eq_false (by omega)
    have n24 : (i * 5 + 2 = j * 5 + 4) = False := eq_false (by omega)
    have n31 : (i * 5 + 3 = j * 5 + 1) = False := eq_false (by omega)
    have n32 : (i * 5 + 3 = j * 5 + 2) = False := eq_false (by omega)
    have n33 : (i * 5 + 3 = j * 5 + 3) = False := eq_false (by omega)
    have n34 : (i * 5 + 3 = j * 5 + 4) = False := eq_false (by omega)
    have n41 : (i * 5 + 4 = j * 5 + 1) = False := eq_false (by omega)
    have n42 : (i * 5 + 4 = j * 5 + 2) = False := eq_false (by omega)
    have n43 : (i * 5 + 4 = j * 5 + 3) = False := eq_false (by omega)
    have n44 : (i * 5 + 4 = j * 5 + 4) = False := eq_false (by omega)
    have m1 : (i * 5 = j * 5 + 1) = False := eq_false (by omega)
    have l1 : (i * 5 + 1 = j * 5) = False := eq_false (by omega)
    have k1 : (j * 5 = i * 5 + 1) = False := eq_false (by omega)
    have o1 : (j * 5 + 1 = i * 5) = False := eq_false (by omega)
    have m2 : (i * 5 = j * 5 + 2) = False := eq_false (by omega)
    have l2 : (i * 5 + 2 = j * 5) = False := eq_false (by omega)
    have k2 : (j * 5 = i * 5 + 2) = False := eq_false (by omega)
    have o2 : (j * 5 + 2 = i * 5) = False := eq_false (by omega)
    have m3 : (i * 5 = j * 5 + 3) = False := eq_false (by omega)
    have l3 : (i * 5 + 3 = j * 5) = False := eq_false (by omega)
    have k3 : (j * 5 = i * 5 + 3) = False := eq_false (by omega)
    have o3 : (j * 5 + 3 = i * 5) = False := eq_false (by omega)
    have m4 : (i * 5 = j * 5 + 4) = False := eq_false (by omega)
    have l4 : (i * 5 + 4 = j * 5) = False := eq_false (by omega)
    have k4 : (j * 5 = i * 5 + 4) = False := eq_false (by omega)
    have o4 : (j * 5 + 4 = i * 5) = False := eq_false (by omega)
    have mm : (i * 5 = j * 5) = False := eq_false (by omega)
    have kk : (j * 5 = i * 5) = False := eq_false (by omega)
    have ii : (i = j) = False := eq_false hij
    have jj : (j = i) = False := eq_false (fun h => hij h.symm)
    have p11 : (j * 5 + 1 = i * 5 + 1) = False := eq_false (by omega)
    have p12 : (j * 5 + 1 = i * 5 + 2) = False := eq_false (by omega)
    have p13 : (j * 5 + 1 = i * 5 + 3) = False := eq_false (by omega)
    have p14 : (j * 5 + 1 = i * 5 + 4) = False := eq_false (by omega)
    have p21 : (j * 5 + 2 = i * 5 + 1) = False := eq_false (by omega)
    have p22 : (j * 5 + 2 = i * 5 + 2) = False := eq_false (by omega)
    have p23 : (j * 5 + 2 = i * 5 + 3) = False := eq_false (by omega)
    have p24 : (j * 5 + 2 = i * 5 + 4) = False := eq_false (by omega)
    have p31 : (j * 5 + 3 = i * 5 + 1) = False := eq_false (by omega)
    have p32 : (j * 5 + 3 = i * 5 + 2) = False := eq_false (by omega)
    have p33 : (j * 5 + 3 = i * 5 + 3) = False := eq_false (by omega)
    have p34 : (j * 5 + 3 = i * 5 + 4) = False := eq_false (by omega)
    have p41 : (j * 5 + 4 = i * 5 + 1) = False := eq_false (by omega)
    have p42 : (j * 5 + 4 = i * 5 + 2) = False := eq_false (by omega)
    have p43 : (j * 5 + 4 = i * 5 + 3) = False := eq_false (by omega)
    have p44 : (j * 5 + 4 = i * 5 + 4) = False := eq_false (by omega)
    go_enter Tryz.func128, Tryz.ntmps128
    go_wp2_with fail
    go_region
    all_goals go_wp2_with fail
    go_end0
    have hl : (E.set i ⟨yt, ⟨yk, yh, yl, yb⟩⟩).length = E.length := List.length_set
    have r1 := ends_put H.out i hi ⟨yt, ⟨yk, yh, yl, yb⟩⟩
    rw [← hl] at r1
    have r2 := ends_put r1 j (by rw [hl]; exact hj) ⟨xt, ⟨xk, xh, xl, xb⟩⟩
    rw [hl] at r2
    have s1 := putEnd_grown w g (i * 5) ⟨yt, ⟨yk, yh, yl, yb⟩⟩
    have s2 := putEnd_grown (putEnd w g (i * 5) ⟨yt, ⟨yk, yh, yl, yb⟩⟩) g (j * 5) ⟨xt, ⟨xk, xh, xl, xb⟩⟩
    have s3 := grown_drew (s1.trans s2)
    exact ⟨rfl, r2.drew, s3⟩
end Go.Proofs.YtmegbllhidkmoaaGreat.Tb

/- The ends' Push and Pop. -/
namespace Go.Proofs.YtmegbllhidkmoaaGreat.Tb
open Go.RowKit Go.Maps
set_option linter.unusedVariables false
theorem info_end : (Tryz.prog.info? 77).map (fun i => (i.zero, i.size, i.bytes)) = some (some (.agg #[.int .i64 0, .int .i64 0, .int .u64 0, .int .u64 0, .int .i64 0]), 5, 40) := by kernel_rfl

theorem EndsIs.kept {w w' : World} {v : Value} {E : List End} (h : EndsIs w v E) (hb : ∀ k, v.ownBlock = some k → w'.heap[k]? = w.heap[k]?) : EndsIs w' v E := by
  obtain ⟨h1, h2⟩ := h
  rcases h2 with ⟨rfl, h0⟩ | ⟨g, cap, cur, rfl, hg, hh, r⟩
  · exact ⟨h1, .inl ⟨rfl, h0⟩⟩
  · exact ⟨h1, .inr ⟨g, cap, cur, rfl, hg, (hb g rfl).trans hh, r⟩⟩
theorem cell_of {w : World} {b : Nat} {cs : Array Value} {t : TypeId} (hb : w.heap[b]? = some (.cells cs t (0, 0))) (j : Nat) : w.cell? ⟨b, j, none⟩ = cs[j]? ∧ w.frozen? ⟨b, j, none⟩ = false := by
  constructor
  · simp [World.cell?, hb]
  · exact frozen_of_row w b j cs t hb
theorem push_done {w w1 : World} {o : Obj} {bt gg cap : Nat} {v : Value} {E : List End} {e : End} {cs : Array Value} {t : TypeId} (hb : w.heap[bt]? = some (.cells cs t (0, 0))) (hne : v.ownBlock ≠ some bt)
    (hown1 : w1.ownsRow 0 77 5 (.slice (some ⟨gg, 0, none⟩) (E.length + 1) cap) (E.length + 1) (E.flatMap End.cells ++ e.cells)) (hgrow : (w.alloc o).drew.grownBy w1 v.ownBlock) (hat : v.ownBlock = some gg ∨ gg = w.heap.size + 1) :
    ∃ v', EndsIs (w1.setCell ⟨bt, 2, none⟩ (.slice (some ⟨gg, 0, none⟩) (E.length + 1) cap)) v' (E ++ [e]) ∧ (w1.setCell ⟨bt, 2, none⟩ (.slice (some ⟨gg, 0, none⟩) (E.length + 1) cap)).heap[bt]? = some (.cells (cs.setIfInBounds 2 v') t (0, 0)) ∧ v'.ownBlock ≠ some bt ∧
      (∀ k, v'.ownBlock = some k → v.ownBlock = some k ∨ w.heap.size ≤ k) ∧ Kept (fun k => k = bt ∨ v.ownBlock = some k) w (w1.setCell ⟨bt, 2, none⟩ (.slice (some ⟨gg, 0, none⟩) (E.length + 1) cap)) := by
  have lb : bt < w.heap.size := (Array.getElem?_eq_some_iff.1 hb).1
  have hgb : gg ≠ bt := fun e => by
    rcases hat with h | h
    · exact hne (by rw [h, e])
    · omega
  have hsz : (w.alloc o).drew.heap.size = w.heap.size + 1 := World.size_alloc w o
  have k1 : Kept (fun k => k = bt ∨ v.ownBlock = some k) w w1 := ((Kept.refl (fun k => k = bt ∨ v.ownBlock = some k) w).alloc o).drew.andThen (Kept.grown (S := fun k => v.ownBlock = some k) hgrow (fun k hk => hk)) (fun k _ hk => .inr hk)
  have hb1 : w1.heap[bt]? = some (.cells cs t (0, 0)) := by
    rw [hgrow.block bt (by rw [hsz]; omega) (fun e => hne e.symm)]
    exact (Below.heap_alloc w o bt lb).trans hb
  refine ⟨_, ?_, heap_setCell_same w1 bt 2 cs t _ hb1, fun e => hgb (Option.some.inj e), fun k hk => ?_, k1.setCell (fun _ => .inl rfl) _⟩
  · have hE : EndsIs w1 (.slice (some ⟨gg, 0, none⟩) (E.length + 1) cap) (E ++ [e]) := by
      unfold EndsIs
      rw [List.length_append, List.flatMap_append, List.flatMap_singleton]
      exact hown1
    exact hE.kept (fun k hk => heap_setCell_other _ _ _ _ (fun e => hgb ((Option.some.inj hk).trans e)))
  · have hk' : gg = k := Option.some.inj hk
    rcases hat with h | h
    · exact .inl (by rw [h, hk'])
    · exact .inr (by omega)

set_option maxHeartbeats 800000 in
set_option maxRecDepth 100000 in
theorem ends_push (w : World) (bt : Nat) (v : Value) (E : List End) (h : EndsIs w v E) (cs : Array Value) (t : TypeId) (hb : w.heap[bt]? = some (.cells cs t (0, 0))) (hcs : cs[2]? = some v) (hne : v.ownBlock ≠ some bt) (hE : E.length + 1 ≤ 1000000000) (e : End) :
    Calls Tryz.prog 130 #[.pointer (some ⟨bt, 2, none⟩), .iface 77 e.val] w fun e' w' => e' = .returned (.tuple #[]) ∧ ∃ v', EndsIs w' v' (E ++ [e]) ∧ w'.heap[bt]? = some (.cells (cs.setIfInBounds 2 v') t (0, 0)) ∧ v'.ownBlock ≠ some bt ∧
      (∀ k, v'.ownBlock = some k → v.ownBlock = some k ∨ w.heap.size ≤ k) ∧ Kept (fun k => k = bt ∨ v.ownBlock = some k) w w' := by
  obtain ⟨i0, hi0, hz0, hz1, hz2⟩ := info_parts info_end
  have hc : w.cell? ⟨bt, 2, none⟩ = some v := (cell_of hb 2).1.trans hcs
  have hf := (cell_of hb 2).2
  have lb := World.block_lt_of_cell? w _ hc
  have H := Aside1.mk h
  have HB := Aside1.mk hb
  obtain ⟨et, ⟨ek, eh, el, eb⟩⟩ := e
  clear h hb hcs
  simp only [End.val]
  have hta : ∀ W : World, (Instr.typeAssert (.iface 77 (.agg #[.int .i64 et, .int .i64 ek, .int .u64 eh, .int .u64 el, .int .i64 eb])) 20 77 false).run Tryz.prog W = .ok (.agg #[.int .i64 et, .int .i64 ek, .int .u64 eh, .int .u64 el, .int .i64 eb]) W := fun _ => by kernel_rfl
  go_enter Tryz.func130, Tryz.ntmps130
  go_wp2_with fail
  go_region_law
    ((refine step_append_lies _ (by rfl) _ _ _ (by rfl) 0 77 i0 _ 5 40 Tryz.underlying58 hi0 hz0 hz1 hz2 rfl (by omega) v E.length _ (by rfl) ((H.out.alloc _).drew)
        ⟨w.heap.size, 0, none⟩ 1 1 [.int .i64 et, .int .i64 ek, .int .u64 eh, .int .u64 el, .int .i64 eb] (by rfl) (by rfl) (World.news_of_block (cs := #[.int .i64 et, .int .i64 ek, .int .u64 eh, .int .u64 el, .int .i64 eb]) (t := 77) (fr := (0, 0)) (heap_alloc_new w _)) (by simp [Value.oneCell'])
        (by omega) (by unfold maxLen; omega) (by omega) (by simp) (w.heap.size + 1) (by simp) ?_; intro gg cap w1 hown1 hgrow hat hlt; have hc1 : w1.cell? ⟨bt, 2, none⟩ = some v := (hgrow.cell_far _ (by simp; omega) (Ne.symm hne)).trans ((World.cell?_of_block (w := w) (a := ⟨bt, 2, none⟩) (Below.heap_alloc w _ bt lb)).trans hc); have hf1 : w1.frozen? ⟨bt, 2, none⟩ = false := (hgrow.frozen_far _ (by simp; omega) (Ne.symm hne)).trans ((World.frozen?_of_block (w := w) (a := ⟨bt, 2, none⟩) (Below.heap_alloc w _ bt lb)).trans hf)))
  all_goals
    go_end0
    exact ⟨rfl, push_done HB.out hne hown1 hgrow hat⟩

theorem take_flat (E : List End) (e : End) : (E ++ [e]).flatMap End.cells = E.flatMap End.cells ++ e.cells := by rw [List.flatMap_append, List.flatMap_singleton]
theorem flat_len (E : List End) : (E.flatMap End.cells).length = E.length * 5 := by
  induction E with
  | nil => rfl
  | cons e E ih => rw [List.flatMap_cons, List.length_append, ih, show e.cells.length = 5 from rfl, List.length_cons]; omega
theorem pop_done {w : World} {o : Obj} {bt g cap : Nat} {E : List End} {e : End} {cs : Array Value} {t : TypeId} (hb : w.heap[bt]? = some (.cells cs t (0, 0))) (h : EndsIs w (.slice (some ⟨g, 0, none⟩) (E ++ [e]).length cap) (E ++ [e])) (hg : g ≠ bt) :
    ∃ v', EndsIs ((w.setCell ⟨bt, 2, none⟩ (.slice (some ⟨g, 0, none⟩) E.length cap)).alloc o) v' E ∧ ((w.setCell ⟨bt, 2, none⟩ (.slice (some ⟨g, 0, none⟩) E.length cap)).alloc o).heap[bt]? = some (.cells (cs.setIfInBounds 2 v') t (0, 0)) ∧ v'.ownBlock = (.slice (some ⟨g, 0, none⟩) (E ++ [e]).length cap : Value).ownBlock ∧
      Kept (fun k => k = bt) w ((w.setCell ⟨bt, 2, none⟩ (.slice (some ⟨g, 0, none⟩) E.length cap)).alloc o) := by
  have lb : bt < w.heap.size := (Array.getElem?_eq_some_iff.1 hb).1
  have hl : (E ++ [e]).length = E.length + 1 := by simp
  have b1 := heap_setCell_same w bt 2 cs t (.slice (some ⟨g, 0, none⟩) E.length cap) hb
  have k1 : Kept (fun k => k = bt) w (w.setCell ⟨bt, 2, none⟩ (.slice (some ⟨g, 0, none⟩) E.length cap)) := (Kept.refl (fun k => k = bt) w).setCell (p := ⟨bt, 2, none⟩) (fun _ => rfl) _
  refine ⟨.slice (some ⟨g, 0, none⟩) E.length cap, ?_, ?_, rfl, k1.alloc o⟩
  · obtain ⟨h1, h2⟩ := h
    rcases h2 with ⟨hv, _⟩ | ⟨g', cap', cur, hv, hg0, hh, hn, hm, hc, ht⟩
    · cases hv
    · obtain ⟨rfl, rfl⟩ : g = g' ∧ cap = cap' := by simpa using hv
      have lg : g < w.heap.size := (Array.getElem?_eq_some_iff.1 hh).1
      have hh2 : ((w.setCell ⟨bt, 2, none⟩ (.slice (some ⟨g, 0, none⟩) E.length cap)).alloc o).heap[g]? = some (.cells cur 77 (0, 0)) := by
        rw [Below.heap_alloc _ _ _ (Nat.lt_of_lt_of_le lg k1.size), heap_setCell_other _ _ _ _ hg]; exact hh
      refine ⟨flat_len E, .inr ⟨g, cap, cur, rfl, hg0, hh2, by omega, hm, hc, ?_⟩⟩
      have := congrArg (List.take (E.length * 5)) ht
      rw [List.take_take, take_flat, hl, Nat.min_eq_left (by omega), List.take_left' (flat_len E)] at this
      exact this
  · rw [Below.heap_alloc _ _ _ (Nat.lt_of_lt_of_le lb k1.size)]; exact b1
set_option maxHeartbeats 800000 in
set_option maxRecDepth 100000 in
theorem ends_pop (w : World) (bt : Nat) (v : Value) (E : List End) (e : End) (h : EndsIs w v (E ++ [e])) (cs : Array Value) (t : TypeId) (hb : w.heap[bt]? = some (.cells cs t (0, 0))) (hcs : cs[2]? = some v) (hne : v.ownBlock ≠ some bt) :
    Calls Tryz.prog 129 #[.pointer (some ⟨bt, 2, none⟩)] w fun e' w' => e' = .returned (.iface 77 e.val) ∧ ∃ v', EndsIs w' v' E ∧ w'.heap[bt]? = some (.cells (cs.setIfInBounds 2 v') t (0, 0)) ∧ v'.ownBlock = v.ownBlock ∧ Kept (fun k => k = bt) w w' := by
  have hl : (E ++ [e]).length = E.length + 1 := by simp
  obtain ⟨g, cap, rfl, hn, hm, hcell⟩ := ends_cell h E.length (by omega)
  have he : (E ++ [e])[E.length]'(by omega) = e := by simp
  rw [he] at hcell
  have hc : w.cell? ⟨bt, 2, none⟩ = some (.slice (some ⟨g, 0, none⟩) (E ++ [e]).length cap) := (cell_of hb 2).1.trans hcs
  have hf := (cell_of hb 2).2
  have lb := World.block_lt_of_cell? w _ hc
  have a0 := (hcell 0 (by omega)).1
  have a1 := (hcell 1 (by omega)).1
  have a2 := (hcell 2 (by omega)).1
  have a3 := (hcell 3 (by omega)).1
  have a4 := (hcell 4 (by omega)).1
  have H := Aside1.mk h
  have HB := Aside1.mk hb
  obtain ⟨et, ⟨ek, eh, el, eb⟩⟩ := e
  simp only [End.cells, List.getElem?_cons_zero, List.getElem?_cons_succ, Nat.add_zero] at a0 a1 a2 a3 a4
  rw [hl] at hc hn
  have e1 : (.slice (some ⟨g, 0, none⟩) (E ++ [(⟨et, ⟨ek, eh, el, eb⟩⟩ : End)]).length cap : Value) = .slice (some ⟨g, 0, none⟩) (E.length + 1) cap := by rw [hl]
  clear h hb hcs hcell he
  simp only [End.val]
  have hn0 : (E.length : Int) < (cap : Int) := by omega
  have hnb : (E.length : Int) + 1 ≤ 9223372036854775807 := by unfold maxLen at hm; omega
  generalize hN : E.length = n at *
  go_enter Tryz.func129, Tryz.ntmps129
  go_wp2_with fail
  go_ret
  have hg : g ≠ bt := fun e => hne (by rw [← e]; rfl)
  have hp := pop_done (o := .cells #[.int .i64 et, .int .i64 ek, .int .u64 eh, .int .u64 el, .int .i64 eb] 77) HB.out H.out hg
  rw [hN] at hp
  exact ⟨rfl, hp⟩
end Go.Proofs.YtmegbllhidkmoaaGreat.Tb

/- container/heap over the ends of a table. -/
namespace Go.Proofs.YtmegbllhidkmoaaGreat.Tb
open Go.RowKit Go.Maps
set_option linter.unusedVariables false

def tillAt (E : List End) (i : Nat) : Int := ((E[i]?).map End.till).getD 0
theorem tillAt_eq {E : List End} {i : Nat} (h : i < E.length) : tillAt E i = (E[i]'h).till := by simp [tillAt, h]
def nilEnd : End := ⟨0, ⟨0, 0, 0, 0⟩⟩
def swapE (E : List End) (i j : Nat) : List End := (E.set i (E.getD j nilEnd)).set j (E.getD i nilEnd)
theorem swapE_eq {E : List End} {i j : Nat} (hi : i < E.length) (hj : j < E.length) : swapE E i j = (E.set i (E[j]'hj)).set j (E[i]'hi) := by simp [swapE, List.getD, hi, hj]
theorem swapE_len (E : List End) (i j : Nat) : (swapE E i j).length = E.length := by simp [swapE]
def siftUp (E : List End) (j : Nat) : List End :=
  if h : j = 0 then E else if tillAt E j < tillAt E ((j - 1) / 2) then siftUp (swapE E ((j - 1) / 2) j) ((j - 1) / 2) else E
  termination_by j
  decreasing_by omega

/-- A heap's place: a pointer to the ends in a block of cells. -/
structure HeapAt (w : World) (bt : Nat) (cs : Array Value) (t : TypeId) (v : Value) (E : List End) : Prop where
  blk : w.heap[bt]? = some (.cells (cs.setIfInBounds 2 v) t (0, 0))
  sz : 2 < cs.size
  ends : EndsIs w v E
  ne : v.ownBlock ≠ some bt

theorem meth_len {bt : Nat} {w : World} {v : Value} (hc : w.cell? ⟨bt, 2, none⟩ = some v) : (method 259 79 (.pointer (some ⟨bt, 2, none⟩)) "Len").run Tryz.prog w = .ok (126, v) w := by
  have h0 : (method 259 79 (.pointer (some ⟨bt, 2, none⟩)) "Len").run Tryz.prog w = (do let v ← loadVar 58 ⟨bt, 2, none⟩; pure (126, v) : Sem (FuncId × Value)).run Tryz.prog w := by kernel_rfl
  rw [h0]
  simp [loadVar, go_sem, hc]
theorem meth_less {bt : Nat} {w : World} {v : Value} (hc : w.cell? ⟨bt, 2, none⟩ = some v) : (method 259 79 (.pointer (some ⟨bt, 2, none⟩)) "Less").run Tryz.prog w = .ok (127, v) w := by
  have h0 : (method 259 79 (.pointer (some ⟨bt, 2, none⟩)) "Less").run Tryz.prog w = (do let v ← loadVar 58 ⟨bt, 2, none⟩; pure (127, v) : Sem (FuncId × Value)).run Tryz.prog w := by kernel_rfl
  rw [h0]
  simp [loadVar, go_sem, hc]
theorem meth_swap {bt : Nat} {w : World} {v : Value} (hc : w.cell? ⟨bt, 2, none⟩ = some v) : (method 259 79 (.pointer (some ⟨bt, 2, none⟩)) "Swap").run Tryz.prog w = .ok (128, v) w := by
  have h0 : (method 259 79 (.pointer (some ⟨bt, 2, none⟩)) "Swap").run Tryz.prog w = (do let v ← loadVar 58 ⟨bt, 2, none⟩; pure (128, v) : Sem (FuncId × Value)).run Tryz.prog w := by kernel_rfl
  rw [h0]
  simp [loadVar, go_sem, hc]
theorem meth_push (bt : Nat) (w : World) : (method 259 79 (.pointer (some ⟨bt, 2, none⟩)) "Push").run Tryz.prog w = .ok (130, .pointer (some ⟨bt, 2, none⟩)) w := by kernel_rfl
theorem meth_pop (bt : Nat) (w : World) : (method 259 79 (.pointer (some ⟨bt, 2, none⟩)) "Pop").run Tryz.prog w = .ok (129, .pointer (some ⟨bt, 2, none⟩)) w := by kernel_rfl

theorem heap_drewN' (w : World) (q : Nat) : (w.drewN q).heap = w.heap := rfl
theorem HeapAt.drewN {w : World} {bt : Nat} {cs : Array Value} {t : TypeId} {v : Value} {E : List End} (h : HeapAt w bt cs t v E) (q : Nat) : HeapAt (w.drewN q) bt cs t v E := ⟨h.blk, h.sz, h.ends, h.ne⟩
theorem Kept.drewN {S : Nat → Prop} {a w : World} (h : Kept S a w) (n : Nat) : Kept S a (w.drewN n) := ⟨h.os, h.tape, h.output, h.size, h.block⟩
/-- Behind an exchange. -/
theorem HeapAt.swap {w w' : World} {bt : Nat} {cs : Array Value} {t : TypeId} {v : Value} {E E' : List End} (h : HeapAt w bt cs t v E) (he : EndsIs w' v E') (hg : w.grownBy w' v.ownBlock) : HeapAt w' bt cs t v E' :=
  ⟨(hg.block bt (Array.getElem?_eq_some_iff.1 h.blk).1 (Ne.symm h.ne)).trans h.blk, h.sz, he, h.ne⟩

set_option maxHeartbeats 800000 in
set_option maxRecDepth 100000 in
theorem heap_up (w : World) (bt : Nat) (cs : Array Value) (t : TypeId) (v : Value) (E : List End) (h : HeapAt w bt cs t v E) (j : Nat) (hj : j < E.length) (hE : E.length ≤ 1000000000) :
    Calls Tryz.prog 75 #[.iface 79 (.pointer (some ⟨bt, 2, none⟩)), .int .i64 j] w fun e' w' => e' = .returned (.tuple #[]) ∧ HeapAt w' bt cs t v (siftUp E j) ∧ (siftUp E j).length = E.length ∧ Kept (fun k => v.ownBlock = some k) w w' := by
  have HH := Aside1.mk h
  go_enter Tryz.func75, Tryz.ntmps75
  go_wp2_with fail
  go_loopw [1] (fun v1 wr => ∃ (Ec : List End) (jc : Nat), v1 = .int .i64 jc ∧ jc < Ec.length ∧ Ec.length = E.length ∧ Aside1 (siftUp Ec jc = siftUp E j) ∧ Aside1 (HeapAt wr bt cs t v Ec) ∧ Aside1 (Kept (fun k => v.ownBlock = some k) w wr)) (fun v1 _ => (RowKit.intOf v1).toNat)
  case atStart => exact ⟨E, j, rfl, hj, rfl, ⟨rfl⟩, HH, ⟨Kept.refl _ _⟩⟩
  case round =>
    clear h hj HH
    obtain ⟨Ec, jc, rfl, hjc, hlen, HS, HH, HK⟩ := hrel
    have hnb : (jc : Int) ≤ 1000000000 := by omega
    by_cases hz : jc = 0
    · subst hz
      have hq : ((((0 : Nat) : Int) - 1).tdiv 2 == ((0 : Nat) : Int)) = true := rfl
      have hs0 := HS.out
      rw [siftUp, dif_pos rfl] at hs0
      go_wp2_with fail
      go_end0
      exact ⟨rfl, hs0 ▸ HH.out, hs0 ▸ hlen, HK.out⟩
    · obtain ⟨i, hi⟩ : ∃ i, (jc - 1) / 2 = i := ⟨_, rfl⟩
      have hij : i < jc := by omega
      have hil : i < Ec.length := by omega
      have hqi : ((jc : Int) - 1) / 2 = (i : Int) := by omega
      have hqn : ((i : Int) == (jc : Int)) = false := by simp; omega
      have hcell : wr.cell? ⟨bt, 2, none⟩ = some v := (cell_of HH.out.blk 2).1.trans (by simp [HH.out.sz])
      have hm1 := meth_less hcell
      have hm2 := meth_swap hcell
      have hL := Aside1.mk (ends_less wr v Ec HH.out.ends jc i hjc hil)
      go_wp2_with fail
      refine hL.out.mono ?_
      rintro e w2 ⟨rfl, q, rfl⟩
      have hS := Aside1.mk (ends_swap (wr.drewN q) v Ec (HH.out.drewN q).ends i jc hil hjc)
      have hs0 := HS.out
      rw [siftUp, dif_neg hz, hi, tillAt_eq hjc, tillAt_eq hil] at hs0
      by_cases hlt : (Ec[jc]'hjc).till < (Ec[i]'hil).till
      · rw [if_pos hlt] at hs0
        have hd : decide ((Ec[jc]'hjc).till < (Ec[i]'hil).till) = true := decide_eq_true hlt
        rw [hd]
        have HS2 := Aside1.mk hs0
        have hcell2 : (wr.drewN q).cell? ⟨bt, 2, none⟩ = some v := hcell
        have hm3 := meth_swap hcell2
        clear hs0 hd hlt
        go_wp2_with fail
        refine hS.out.mono ?_
        rintro e w3 ⟨rfl, he, hg⟩
        have HE := Aside1.mk he
        have HG := Aside1.mk hg
        clear he hg
        go_wp2_with fail
        go_roundw
        case rel => exact ⟨_, i, rfl, by simpa using hil, by simpa using hlen, ⟨by rw [← swapE_eq hil hjc]; exact HS2.out⟩, ⟨(HH.out.drewN q).swap HE.out HG.out⟩, ⟨(HK.out.drewN q).andThen (Kept.grown (S := fun k => v.ownBlock = some k) HG.out (fun k hk => hk)) (fun _ _ hk => hk)⟩⟩
        case measure => simp [RowKit.intOf]; omega
      · rw [if_neg hlt] at hs0
        have hd : decide ((Ec[jc]'hjc).till < (Ec[i]'hil).till) = false := decide_eq_false hlt
        rw [hd]
        clear hd hlt
        go_wp2_with fail
        go_end0
        exact ⟨rfl, hs0 ▸ HH.out.drewN q, hs0 ▸ hlen, HK.out.drewN q⟩

set_option maxHeartbeats 800000 in
set_option maxRecDepth 100000 in
theorem heap_push (w : World) (bt : Nat) (cs : Array Value) (t : TypeId) (v : Value) (E : List End) (h : HeapAt w bt cs t v E) (e : End) (hE : E.length + 1 ≤ 1000000000) :
    Calls Tryz.prog 61 #[.iface 79 (.pointer (some ⟨bt, 2, none⟩)), .iface 77 e.val] w fun e' w' => e' = .returned (.tuple #[]) ∧ ∃ v', HeapAt w' bt cs t v' (siftUp (E ++ [e]) E.length) ∧
      (∀ k, v'.ownBlock = some k → v.ownBlock = some k ∨ w.heap.size ≤ k) ∧ Kept (fun k => k = bt ∨ v.ownBlock = some k) w w' := by
  have hm := meth_push bt w
  have HP := Aside1.mk (ends_push w bt v E h.ends _ t h.blk (by simp [h.sz]) h.ne hE e)
  have hsz := h.sz
  have HH := Aside1.mk h
  clear h
  go_enter Tryz.func61, Tryz.ntmps61
  go_wp2_with fail
  refine HP.out.mono ?_
  rintro e2 w2 ⟨rfl, v2, he, hb, hne, hnew, hk⟩
  have HH2 : Aside1 (HeapAt w2 bt cs t v2 (E ++ [e])) := ⟨⟨by rw [hb]; simp, hsz, he, hne⟩⟩
  have hcell : w2.cell? ⟨bt, 2, none⟩ = some v2 := (cell_of HH2.out.blk 2).1.trans (by simp [hsz])
  have hm2 := meth_len hcell
  have hL := Aside1.mk (ends_len w2 v2 (E ++ [e]) he)
  have hl : (E ++ [e]).length = E.length + 1 := by simp
  have HU := Aside1.mk (heap_up w2 bt cs t v2 (E ++ [e]) HH2.out E.length (by omega) (by omega))
  have HN := Aside1.mk hnew
  have HK := Aside1.mk hk
  have hnb : (E.length : Int) ≤ 1000000000 := by omega
  rw [hl] at hL
  clear he hb hne hnew hk hcell hsz hl HP
  go_wp2_with fail
  refine hL.out.mono ?_
  rintro e3 w3 ⟨rfl, rfl⟩
  go_wp2_with fail
  refine HU.out.mono ?_
  rintro e4 w4 ⟨rfl, hh, _, hk4⟩
  have HH4 := Aside1.mk hh
  have HK4 := Aside1.mk hk4
  clear hh hk4
  go_wp2_with fail
  go_end0
  exact ⟨rfl, v2, HH4.out, HN.out, HK.out.andThen HK4.out (fun k hk hv => (HN.out k hv).elim (fun x => .inr x) (fun x => by omega))⟩
end Go.Proofs.YtmegbllhidkmoaaGreat.Tb

/- container/heap's down and Pop over the ends of a table. -/
namespace Go.Proofs.YtmegbllhidkmoaaGreat.Tb
open Go.RowKit Go.Maps
set_option linter.unusedVariables false

/-- The lesser child of i among the first n. -/
def child (E : List End) (i n : Nat) : Nat := if 2 * i + 2 < n ∧ tillAt E (2 * i + 2) < tillAt E (2 * i + 1) then 2 * i + 2 else 2 * i + 1
def siftDown (E : List End) (i n : Nat) : List End :=
  if h : n ≤ 2 * i + 1 then E else if tillAt E (child E i n) < tillAt E i then siftDown (swapE E i (child E i n)) (child E i n) n else E
  termination_by n - i
  decreasing_by unfold child; split <;> omega

set_option maxHeartbeats 1600000 in
set_option maxRecDepth 100000 in
theorem heap_down (w : World) (bt : Nat) (cs : Array Value) (t : TypeId) (v : Value) (E : List End) (h : HeapAt w bt cs t v E) (i n : Nat) (hi : i ≤ n) (hn : n < E.length) (hE : E.length ≤ 1000000000) :
    Calls Tryz.prog 55 #[.iface 79 (.pointer (some ⟨bt, 2, none⟩)), .int .i64 i, .int .i64 n] w fun e' w' => (∃ b : Bool, e' = .returned (.bool b)) ∧ HeapAt w' bt cs t v (siftDown E i n) ∧ (siftDown E i n).length = E.length ∧ Kept (fun k => v.ownBlock = some k) w w' := by
  have HH := Aside1.mk h
  have hnb : (n : Int) ≤ 1000000000 := by omega
  go_enter Tryz.func55, Tryz.ntmps55
  go_wp2_with fail
  go_loopw [7] (fun v7 wr => ∃ (Ec : List End) (ic : Nat), v7 = .int .i64 ic ∧ ic ≤ n ∧ Ec.length = E.length ∧ Aside1 (siftDown Ec ic n = siftDown E i n) ∧ Aside1 (HeapAt wr bt cs t v Ec) ∧ Aside1 (Kept (fun k => v.ownBlock = some k) w wr)) (fun v7 _ => n - (RowKit.intOf v7).toNat)
  case atStart => exact ⟨E, i, rfl, hi, rfl, ⟨rfl⟩, HH, ⟨Kept.refl _ _⟩⟩
  case round =>
    clear h hi HH
    obtain ⟨Ec, ic, rfl, hic, hlen, HS, HH, HK⟩ := hrel
    have hcell : wr.cell? ⟨bt, 2, none⟩ = some v := (cell_of HH.out.blk 2).1.trans (by simp [HH.out.sz])
    by_cases h1 : n ≤ 2 * ic + 1
    · have h1' : (n : Int) ≤ 2 * (ic : Int) + 1 := by omega
      have hs0 := HS.out
      rw [siftDown, dif_pos h1] at hs0
      go_wp2_with fail
      go_ret
      exact ⟨⟨_, rfl⟩, hs0 ▸ HH.out, hs0 ▸ hlen, HK.out⟩
    · have h1' : ¬ (n : Int) ≤ 2 * (ic : Int) + 1 := by omega
      have hl1 : 2 * ic + 1 < Ec.length := by omega
      have hl0 : ic < Ec.length := by omega
      have c1 : ((2 * ic + 1 : Nat) : Int) = 2 * (ic : Int) + 1 := by omega
      have c2 : ((2 * ic + 2 : Nat) : Int) = 2 * (ic : Int) + 1 + 1 := by omega
      by_cases h2 : 2 * ic + 2 < n
      · have h2' : 2 * (ic : Int) + 1 + 1 < (n : Int) := by omega
        have hl2 : 2 * ic + 2 < Ec.length := by omega
        have hm1 := meth_less hcell
        have hL := Aside1.mk (ends_less wr v Ec HH.out.ends (2 * ic + 2) (2 * ic + 1) hl2 hl1)
        rw [c1, c2] at hL
        go_wp2_with fail
        refine hL.out.mono ?_
        rintro e w1 ⟨rfl, q, rfl⟩
        by_cases hlt0 : (Ec[2 * ic + 2]'hl2).till < (Ec[2 * ic + 1]'hl1).till
        · have hd0 : decide ((Ec[2 * ic + 2]'hl2).till < (Ec[2 * ic + 1]'hl1).till) = true := decide_eq_true hlt0
          rw [hd0]
          clear hd0
          have hcellW : (wr.drewN q).cell? ⟨bt, 2, none⟩ = some v := hcell
          have hmW := meth_less hcellW
          have hL2 := Aside1.mk (ends_less (wr.drewN q) v Ec (HH.out.drewN q).ends (2 * ic + 2) ic hl2 hl0)
          rw [c2] at hL2
          have hs0 := HS.out
          rw [siftDown, dif_neg h1, show child Ec ic n = 2 * ic + 2 from by unfold child; rw [tillAt_eq hl2, tillAt_eq hl1, if_pos ⟨h2, hlt0⟩], tillAt_eq hl2, tillAt_eq hl0] at hs0
          go_wp2_with fail
          refine hL2.out.mono ?_
          rintro e w2 ⟨rfl, q2, rfl⟩
          by_cases hlt : (Ec[2 * ic + 2]'hl2).till < (Ec[ic]'hl0).till
          · rw [if_pos hlt] at hs0
            have hd : decide ((Ec[2 * ic + 2]'hl2).till < (Ec[ic]'hl0).till) = true := decide_eq_true hlt
            rw [hd]
            have HS2 := Aside1.mk hs0
            have hm3 := meth_swap (w := wr.drewN (q + q2)) hcellW
            have hSw := Aside1.mk (ends_swap (wr.drewN (q + q2)) v Ec (HH.out.drewN (q + q2)).ends ic (2 * ic + 2) hl0 hl2)
            rw [c2] at hSw
            clear hs0 hd hlt
            go_wp2_with fail
            refine hSw.out.mono ?_
            rintro e w3 ⟨rfl, he, hg⟩
            have HE := Aside1.mk he
            have HG := Aside1.mk hg
            clear he hg
            go_wp2_with fail
            go_roundw
            case rel => exact ⟨_, 2 * ic + 2, by rw [c2], by omega, by simpa using hlen, ⟨by rw [← swapE_eq hl0 hl2]; exact HS2.out⟩, ⟨(HH.out.drewN (q + q2)).swap HE.out HG.out⟩, ⟨(HK.out.drewN (q + q2)).andThen (Kept.grown (S := fun k => v.ownBlock = some k) HG.out (fun k hk => hk)) (fun _ _ hk => hk)⟩⟩
            case measure => simp [RowKit.intOf]; omega
          · rw [if_neg hlt] at hs0
            have hd : decide ((Ec[2 * ic + 2]'hl2).till < (Ec[ic]'hl0).till) = false := decide_eq_false hlt
            rw [hd]
            clear hd hlt
            go_wp2_with fail
            go_ret
            exact ⟨⟨_, rfl⟩, hs0 ▸ HH.out.drewN (q + q2), hs0 ▸ hlen, HK.out.drewN (q + q2)⟩
        · have hd0 : decide ((Ec[2 * ic + 2]'hl2).till < (Ec[2 * ic + 1]'hl1).till) = false := decide_eq_false hlt0
          rw [hd0]
          clear hd0
          have hcellW : (wr.drewN q).cell? ⟨bt, 2, none⟩ = some v := hcell
          have hmW := meth_less hcellW
          have hL2 := Aside1.mk (ends_less (wr.drewN q) v Ec (HH.out.drewN q).ends (2 * ic + 1) ic hl1 hl0)
          rw [c1] at hL2
          have hs0 := HS.out
          rw [siftDown, dif_neg h1, show child Ec ic n = 2 * ic + 1 from by unfold child; rw [tillAt_eq hl2, tillAt_eq hl1, if_neg (fun h => hlt0 h.2)], tillAt_eq hl1, tillAt_eq hl0] at hs0
          go_wp2_with fail
          refine hL2.out.mono ?_
          rintro e w2 ⟨rfl, q2, rfl⟩
          by_cases hlt : (Ec[2 * ic + 1]'hl1).till < (Ec[ic]'hl0).till
          · rw [if_pos hlt] at hs0
            have hd : decide ((Ec[2 * ic + 1]'hl1).till < (Ec[ic]'hl0).till) = true := decide_eq_true hlt
            rw [hd]
            have HS2 := Aside1.mk hs0
            have hm3 := meth_swap (w := wr.drewN (q + q2)) hcellW
            have hSw := Aside1.mk (ends_swap (wr.drewN (q + q2)) v Ec (HH.out.drewN (q + q2)).ends ic (2 * ic + 1) hl0 hl1)
            rw [c1] at hSw
            clear hs0 hd hlt
            go_wp2_with fail
            refine hSw.out.mono ?_
            rintro e w3 ⟨rfl, he, hg⟩
            have HE := Aside1.mk he
            have HG := Aside1.mk hg
            clear he hg
            go_wp2_with fail
            go_roundw
            case rel => exact ⟨_, 2 * ic + 1, by rw [c1], by omega, by simpa using hlen, ⟨by rw [← swapE_eq hl0 hl1]; exact HS2.out⟩, ⟨(HH.out.drewN (q + q2)).swap HE.out HG.out⟩, ⟨(HK.out.drewN (q + q2)).andThen (Kept.grown (S := fun k => v.ownBlock = some k) HG.out (fun k hk => hk)) (fun _ _ hk => hk)⟩⟩
            case measure => simp [RowKit.intOf]; omega
          · rw [if_neg hlt] at hs0
            have hd : decide ((Ec[2 * ic + 1]'hl1).till < (Ec[ic]'hl0).till) = false := decide_eq_false hlt
            rw [hd]
            clear hd hlt
            go_wp2_with fail
            go_ret
            exact ⟨⟨_, rfl⟩, hs0 ▸ HH.out.drewN (q + q2), hs0 ▸ hlen, HK.out.drewN (q + q2)⟩
      · have h2' : ¬ 2 * (ic : Int) + 1 + 1 < (n : Int) := by omega
        have hcellW : (wr).cell? ⟨bt, 2, none⟩ = some v := hcell
        have hmW := meth_less hcellW
        have hL2 := Aside1.mk (ends_less (wr) v Ec (HH.out).ends (2 * ic + 1) ic hl1 hl0)
        rw [c1] at hL2
        have hs0 := HS.out
        rw [siftDown, dif_neg h1, show child Ec ic n = 2 * ic + 1 from by unfold child; rw [if_neg (fun h => h2 h.1)], tillAt_eq hl1, tillAt_eq hl0] at hs0
        go_wp2_with fail
        refine hL2.out.mono ?_
        rintro e w2 ⟨rfl, q2, rfl⟩
        by_cases hlt : (Ec[2 * ic + 1]'hl1).till < (Ec[ic]'hl0).till
        · rw [if_pos hlt] at hs0
          have hd : decide ((Ec[2 * ic + 1]'hl1).till < (Ec[ic]'hl0).till) = true := decide_eq_true hlt
          rw [hd]
          have HS2 := Aside1.mk hs0
          have hm3 := meth_swap (w := (wr).drewN q2) hcellW
          have hSw := Aside1.mk (ends_swap ((wr).drewN q2) v Ec ((HH.out).drewN q2).ends ic (2 * ic + 1) hl0 hl1)
          rw [c1] at hSw
          clear hs0 hd hlt
          go_wp2_with fail
          refine hSw.out.mono ?_
          rintro e w3 ⟨rfl, he, hg⟩
          have HE := Aside1.mk he
          have HG := Aside1.mk hg
          clear he hg
          go_wp2_with fail
          go_roundw
          case rel => exact ⟨_, 2 * ic + 1, by rw [c1], by omega, by simpa using hlen, ⟨by rw [← swapE_eq hl0 hl1]; exact HS2.out⟩, ⟨((HH.out).drewN q2).swap HE.out HG.out⟩, ⟨((HK.out).drewN q2).andThen (Kept.grown (S := fun k => v.ownBlock = some k) HG.out (fun k hk => hk)) (fun _ _ hk => hk)⟩⟩
          case measure => simp [RowKit.intOf]; omega
        · rw [if_neg hlt] at hs0
          have hd : decide ((Ec[2 * ic + 1]'hl1).till < (Ec[ic]'hl0).till) = false := decide_eq_false hlt
          rw [hd]
          clear hd hlt
          go_wp2_with fail
          go_ret
          exact ⟨⟨_, rfl⟩, hs0 ▸ (HH.out).drewN q2, hs0 ▸ hlen, (HK.out).drewN q2⟩

/-- The ends behind heap.Pop. -/
def popped (E : List End) : List End := (siftDown (swapE E 0 (E.length - 1)) 0 (E.length - 1)).dropLast
set_option maxHeartbeats 800000 in
set_option maxRecDepth 100000 in
theorem heap_pop (w : World) (bt : Nat) (cs : Array Value) (t : TypeId) (v : Value) (E : List End) (h : HeapAt w bt cs t v E) (h0 : E ≠ []) (hE : E.length ≤ 1000000000) :
    Calls Tryz.prog 36 #[.iface 79 (.pointer (some ⟨bt, 2, none⟩))] w fun e' w' => (∃ x : Value, e' = .returned (.iface 77 x)) ∧ ∃ v', HeapAt w' bt cs t v' (popped E) ∧ v'.ownBlock = v.ownBlock ∧ Kept (fun k => k = bt ∨ v.ownBlock = some k) w w' := by
  have hlen : 0 < E.length := List.length_pos_iff.2 h0
  obtain ⟨n, hn⟩ : ∃ n, E.length = n + 1 := ⟨E.length - 1, by omega⟩
  have hcell : w.cell? ⟨bt, 2, none⟩ = some v := (cell_of h.blk 2).1.trans (by simp [h.sz])
  have hm1 := meth_len hcell
  have hL := Aside1.mk (ends_len w v E h.ends)
  rw [hn] at hL
  have c1 : ((n + 1 : Nat) : Int) = (n : Int) + 1 := by omega
  rw [c1] at hL
  have hnb : (n : Int) ≤ 1000000000 := by omega
  have l0 : 0 < E.length := by omega
  have l1 : n < E.length := by omega
  have hS := Aside1.mk (ends_swap w v E h.ends 0 n l0 l1)
  have HH := Aside1.mk h
  have HN := Aside1.mk hn
  have H0 := Aside1.mk l1
  have H00 := Aside1.mk l0
  have HEl := Aside1.mk hE
  have hm2 := meth_swap hcell
  clear h h0 hE hlen hn c1
  go_enter Tryz.func36, Tryz.ntmps36
  go_wp2_with fail
  refine hL.out.mono ?_
  rintro e w1 ⟨rfl, rfl⟩
  go_wp2_with fail
  refine hS.out.mono ?_
  rintro e w2 ⟨rfl, he, hg⟩
  rw [← swapE_eq H00.out H0.out] at he
  have HH2 := Aside1.mk (HH.out.swap he hg)
  have HG := Aside1.mk hg
  have HD := Aside1.mk (heap_down w2 bt cs t v _ HH2.out 0 n (Nat.zero_le _) (by rw [swapE_len]; exact H0.out) (by rw [swapE_len]; exact HEl.out))
  clear he hg hcell hm1 hm2
  go_wp2_with fail
  refine HD.out.mono ?_
  rintro e w3 ⟨⟨b, rfl⟩, hh, hl, hk⟩
  have HH3 := Aside1.mk hh
  have HK := Aside1.mk hk
  have hl2 : (siftDown (swapE E 0 n) 0 n).length = n + 1 := by rw [hl, swapE_len, HN.out]
  have hne3 : siftDown (swapE E 0 n) 0 n ≠ [] := fun e => by rw [e] at hl2; simp at hl2
  have hsplit : siftDown (swapE E 0 n) 0 n = popped E ++ [(siftDown (swapE E 0 n) 0 n).getLast hne3] := by
    unfold popped
    rw [show E.length - 1 = n by rw [HN.out]; rfl]
    exact (List.dropLast_concat_getLast hne3).symm
  have HP := Aside1.mk (ends_pop w3 bt v (popped E) ((siftDown (swapE E 0 n) 0 n).getLast hne3) (by rw [← hsplit]; exact HH3.out.ends) _ t HH3.out.blk (by simp [HH3.out.sz]) HH3.out.ne)
  generalize (siftDown (swapE E 0 n) 0 n).getLast hne3 = last at HP
  have hm3 := meth_pop bt w3
  clear hh hl hk hl2 hsplit hne3
  go_wp2_with fail
  refine HP.out.mono ?_
  rintro e w4 ⟨rfl, v4, he4, hb4, ho4, hk4⟩
  have HE4 := Aside1.mk he4
  have HB4 := Aside1.mk hb4
  have HO4 := Aside1.mk ho4
  have HK4 := Aside1.mk hk4
  clear he4 hb4 ho4 hk4
  go_wp2_with fail
  go_ret
  refine ⟨⟨_, rfl⟩, v4, ⟨?_, HH.out.sz, HE4.out, by rw [HO4.out]; exact HH.out.ne⟩, HO4.out, ?_⟩
  · rw [HB4.out]; simp
  · exact ((Kept.grown (S := fun k => v.ownBlock = some k) HG.out (fun k hk => hk)).andThen HK.out (fun _ _ hk => hk)).mono (fun k hk => .inr hk) |>.andThen HK4.out (fun k _ hk => .inl hk)
end Go.Proofs.YtmegbllhidkmoaaGreat.Tb

/- A table in memory; New, keyOf, ownerOf, Size, Find, Of. -/
namespace Go.Proofs.YtmegbllhidkmoaaGreat.Tb
open Go.RowKit Go.Maps
set_option linter.unusedVariables false

def Lease.bound (l : Lease) : Bool := l.state == 1
/-- The pairs of the two maps. -/
def leasesOf (L : List Lease) : List (Key × Lease) := L.map fun l => (l.key, l)
def ownersOf (L : List Lease) : List (Owner × Key) := (L.filter Lease.bound).map fun l => (l.owner, l.key)
abbrev LeaseMap (w : World) (b n : Nat) (L : List Lease) : Prop := MapIs Tryz.prog 71 Key.val Key.ok Lease.val w b n (leasesOf L)
abbrev OwnerMap (w : World) (b n : Nat) (L : List Lease) : Prop := MapIs Tryz.prog 74 Owner.val Owner.ok Key.val w b n (ownersOf L)
/-- A table in memory. -/
structure TabAt (w : World) (bt b1 b2 : Nat) (v : Value) (N : Nat) (L : List Lease) (E : List End) : Prop where
  blk : w.heap[bt]? = some (.cells #[.map (some b1), .map (some b2), v] 60 (0, 0))
  m1 : LeaseMap w b1 N L
  m2 : OwnerMap w b2 N L
  ends : EndsIs w v E
  len : E.length ≤ N
  n12 : b1 ≠ b2
  v1 : v.ownBlock ≠ some b1
  v2 : v.ownBlock ≠ some b2
  vt : v.ownBlock ≠ some bt
  oks : ∀ l ∈ L, l.ok
theorem map_not_cells {w : World} {P : Program} {k : TypeId} {α β : Type} {kv : α → Value} {ok : α → Prop} {ev : β → Value} {b n : Nat} {A : List (α × β)} (h : MapIs P k kv ok ev w b n A) {cs : Array Value} {t : TypeId} {fr : Nat × Nat} (hc : w.heap[b]? = some (.cells cs t fr)) : False := by
  obtain ⟨D, ⟨es, clock, hb, _⟩, _⟩ := h
  rw [hb] at hc; cases hc
theorem TabAt.ne1 {w : World} {bt b1 b2 N : Nat} {v : Value} {L : List Lease} {E : List End} (h : TabAt w bt b1 b2 v N L E) : bt ≠ b1 := fun e => map_not_cells h.m1 (by rw [← e]; exact h.blk)
theorem TabAt.ne2 {w : World} {bt b1 b2 N : Nat} {v : Value} {L : List Lease} {E : List End} (h : TabAt w bt b1 b2 v N L E) : bt ≠ b2 := fun e => map_not_cells h.m2 (by rw [← e]; exact h.blk)
/-- The blocks of a table. -/
def Foot (bt b1 b2 : Nat) (v : Value) (k : Nat) : Prop := k = bt ∨ k = b1 ∨ k = b2 ∨ v.ownBlock = some k
theorem TabAt.kept {w w' : World} {bt b1 b2 N : Nat} {v : Value} {L : List Lease} {E : List End} {S : Nat → Prop} (h : TabAt w bt b1 b2 v N L E) (hk : Kept S w w') (hs : ∀ k, Foot bt b1 b2 v k → ¬ S k) : TabAt w' bt b1 b2 v N L E := by
  have lt : bt < w.heap.size := (Array.getElem?_eq_some_iff.1 h.blk).1
  refine ⟨(hk.block bt lt (hs bt (.inl rfl))).trans h.blk, h.m1.block (hk.block b1 h.m1.lt (hs b1 (.inr (.inl rfl)))), h.m2.block (hk.block b2 h.m2.lt (hs b2 (.inr (.inr (.inl rfl))))), ?_, h.len, h.n12, h.v1, h.v2, h.vt, h.oks⟩
  refine h.ends.kept fun k hk' => hk.block k ?_ (hs k (.inr (.inr (.inr hk'))))
  obtain ⟨_, h2⟩ := h.ends
  rcases h2 with ⟨rfl, _⟩ | ⟨g, cap, cur, rfl, _, hh, _⟩
  · cases hk'
  · obtain rfl : g = k := Option.some.inj hk'
    exact (Array.getElem?_eq_some_iff.1 hh).1
abbrev Quiet (w w' : World) : Prop := Kept (fun _ => False) w w'

set_option maxRecDepth 100000 in
theorem key_of (w : World) (l : Lease) : Calls Tryz.prog 44 #[l.val] w fun e w' => e = .returned l.key.val ∧ Quiet w w' := by
  obtain ⟨⟨k, h, lo, b⟩, s, c, i, t⟩ := l
  simp only [Lease.val, Key.val]
  go_enter Tryz.func44, Tryz.ntmps44
  go_wp2_with fail
  refine bodyPost_ret (v := .agg #[.int .i64 k, .int .u64 h, .int .u64 lo, .int .i64 b]) (by simp [results, Tryz.results44, go_sem]) rfl ⟨rfl, ?_⟩
  exact ((Kept.refl _ w).alloc _).alloc _
set_option maxRecDepth 100000 in
theorem owner_of (w : World) (l : Lease) : Calls Tryz.prog 60 #[l.val] w fun e w' => e = .returned l.owner.val ∧ Quiet w w' := by
  obtain ⟨⟨k, h, lo, b⟩, s, c, i, t⟩ := l
  simp only [Lease.val, Owner.val, Lease.owner]
  go_enter Tryz.func60, Tryz.ntmps60
  go_wp2_with fail
  refine bodyPost_ret (v := .agg #[.int .i64 k, .string c, .int .u32 i]) (by simp [results, Tryz.results60, go_sem]) rfl ⟨rfl, ?_⟩
  exact ((Kept.refl _ w).alloc _).alloc _
set_option maxRecDepth 100000 in
theorem new_table (w : World) : Calls Tryz.prog 5 #[] w fun e w' => ∃ bt b1 b2, e = .returned (.pointer (some ⟨bt, 0, none⟩)) ∧ TabAt w' bt b1 b2 (.slice none 0 0) 0 [] [] ∧ (∀ k, Foot bt b1 b2 (.slice none 0 0) k → w.heap.size ≤ k) ∧ Quiet w w' := by
  have hmm := @run_makeMap Tryz.prog
  go_enter Tryz.func5, Tryz.ntmps5
  go_wp2_with fail
  go_ret
  have s1 : (w.alloc (.map #[] 0)).heap.size = w.heap.size + 1 := World.size_alloc _ _
  have s2 : ((w.alloc (.map #[] 0)).alloc (.map #[] 0)).heap.size = w.heap.size + 1 + 1 := by rw [World.size_alloc, s1]
  have k0 := Below.heap_alloc (w.alloc (.map #[] 0)) (.map #[] 0) w.heap.size (by omega)
  have k1 := Below.heap_alloc ((w.alloc (.map #[] 0)).alloc (.map #[] 0)) (.cells #[.map (some w.heap.size), .map (some (w.heap.size + 1)), .slice none 0 0] 60) w.heap.size (by omega)
  have k2 := Below.heap_alloc ((w.alloc (.map #[] 0)).alloc (.map #[] 0)) (.cells #[.map (some w.heap.size), .map (some (w.heap.size + 1)), .slice none 0 0] 60) (w.heap.size + 1) (by omega)
  have hn := heap_alloc_new ((w.alloc (.map #[] 0)).alloc (.map #[] 0)) (.cells #[.map (some w.heap.size), .map (some (w.heap.size + 1)), .slice none 0 0] 60)
  rw [s2] at hn
  have m2 := MapIs.made (P := Tryz.prog) (k := 74) (kv := Owner.val) (ok := Owner.ok) (ev := Key.val) (w.alloc (.map #[] 0))
  rw [s1] at m2
  refine ⟨w.heap.size + 1 + 1, w.heap.size, w.heap.size + 1, rfl, ⟨hn, (MapIs.made w).block (k1.trans k0), m2.block k2, ⟨rfl, .inl ⟨rfl, rfl⟩⟩, Nat.le_refl _, by omega, (fun e => by cases e), (fun e => by cases e), (fun e => by cases e), (fun l hl => by cases hl)⟩, fun k hk => ?_, (((Kept.refl _ w).alloc _).alloc _).alloc _⟩
  rcases hk with rfl | rfl | rfl | hk
  · omega
  · omega
  · omega
  · cases hk

theorem cell_tab {w : World} {bt b1 b2 N : Nat} {v : Value} {L : List Lease} {E : List End} (h : TabAt w bt b1 b2 v N L E) : w.cell? ⟨bt, 0, none⟩ = some (.map (some b1)) ∧ w.cell? ⟨bt, 1, none⟩ = some (.map (some b2)) ∧ w.cell? ⟨bt, 2, none⟩ = some v :=
  ⟨(cell_of h.blk 0).1, (cell_of h.blk 1).1, (cell_of h.blk 2).1⟩
def zeroLease : Lease := ⟨⟨0, 0, 0, 0⟩, 0, ⟨#[]⟩, 0, 0⟩
def zeroKey : Key := ⟨0, 0, 0, 0⟩
theorem zero_lease (w : World) : (zeroValue 30).run Tryz.prog w = .ok zeroLease.val w := by kernel_rfl
theorem zero_key (w : World) : (zeroValue 71).run Tryz.prog w = .ok zeroKey.val w := by kernel_rfl
def findL (L : List Lease) (k : Key) : Option Lease := look (leasesOf L) k
def findO (L : List Lease) (o : Owner) : Option Key := look (ownersOf L) o
theorem look_lease {w : World} {b n : Nat} {L : List Lease} (h : LeaseMap w b n L) (k : Key) (hk : k.ok) :
    (Instr.lookup 55 (.map (some b)) k.val true).run Tryz.prog w = .ok (.tuple #[((findL L k).getD zeroLease).val, .bool (findL L k).isSome]) w := by
  have := h.look_ok encKey Tryz.underlying55 (zero_lease w) hk
  rw [this]
  unfold findL
  cases look (leasesOf L) k <;> rfl
theorem look_lease1 {w : World} {b n : Nat} {L : List Lease} (h : LeaseMap w b n L) (k : Key) (hk : k.ok) :
    (Instr.lookup 55 (.map (some b)) k.val false).run Tryz.prog w = .ok ((findL L k).getD zeroLease).val w := by
  have := h.look_one encKey Tryz.underlying55 (zero_lease w) hk
  rw [this]
  unfold findL
  cases look (leasesOf L) k <;> rfl
theorem look_owner {w : World} {b n : Nat} {L : List Lease} (h : OwnerMap w b n L) (o : Owner) (ho : o.ok) :
    (Instr.lookup 56 (.map (some b)) o.val true).run Tryz.prog w = .ok (.tuple #[((findO L o).getD zeroKey).val, .bool (findO L o).isSome]) w := by
  have := h.look_ok encOwner Tryz.underlying56 (zero_key w) ho
  rw [this]
  unfold findO
  cases look (ownersOf L) o <;> rfl

set_option maxHeartbeats 1600000 in
set_option maxRecDepth 100000 in
theorem tab_find (w : World) (bt b1 b2 N : Nat) (v : Value) (L : List Lease) (E : List End) (h : TabAt w bt b1 b2 v N L E) (k : Key) (hk : k.ok) :
    Calls Tryz.prog 17 #[.pointer (some ⟨bt, 0, none⟩), .int .i64 k.kind, .agg #[.int .u64 k.hi, .int .u64 k.lo, .int .i64 k.bits]] w fun e w' => e = .returned (.tuple #[((findL L k).getD zeroLease).val, .bool (findL L k).isSome]) ∧ Quiet w w' := by
  have lt : bt < w.heap.size := (Array.getElem?_eq_some_iff.1 h.blk).1
  have Sk1 : Aside1 (∀ w2, Quiet w w2 → w2.cell? ⟨bt, 0, none⟩ = some (.map (some b1))) := ⟨fun w2 hq => (cell_tab (h.kept hq (fun _ _ h => h))).1⟩
  have Sk : Aside1 (∀ w2, Quiet w w2 → (Instr.lookup 55 (.map (some b1)) k.val true).run Tryz.prog w2 = .ok (.tuple #[((findL L k).getD zeroLease).val, .bool (findL L k).isSome]) w2) :=
    ⟨fun w2 hq => by
      have h2 := h.kept hq (fun _ _ h => h)
      exact look_lease h2.m1 k hk⟩
  obtain ⟨kk, kh, kl, kb⟩ := k
  obtain ⟨r, hr⟩ : ∃ r, (findL L ⟨kk, kh, kl, kb⟩).getD zeroLease = r := ⟨_, rfl⟩
  obtain ⟨f, hf⟩ : ∃ f, (findL L ⟨kk, kh, kl, kb⟩).isSome = f := ⟨_, rfl⟩
  rw [hr, hf] at Sk ⊢
  obtain ⟨⟨rk, rh, rl, rb⟩, rs, rc, ri, rt⟩ := r
  simp only [Lease.val, Key.val] at Sk ⊢
  clear h hr hf hk
  go_enter Tryz.func17, Tryz.ntmps17
  go_wp2_with fail
  go_region_held3 (fun w' => w'.cell? ⟨bt, 0, none⟩ = some (.map (some b1)) ∧ w'.cell? ⟨w.heap.size, 0, none⟩ = some (.int .u64 kh) ∧ w'.cell? ⟨w.heap.size, 1, none⟩ = some (.int .u64 kl) ∧ w'.cell? ⟨w.heap.size, 2, none⟩ = some (.int .i64 kb) ∧ (Instr.lookup 55 (.map (some b1)) (.agg #[.int .i64 kk, .int .u64 kh, .int .u64 kl, .int .i64 kb]) true).run Tryz.prog w' = .ok (.tuple #[.agg #[.int .i64 rk, .int .u64 rh, .int .u64 rl, .int .i64 rb, .int .i64 rs, .string rc, .int .u32 ri, .int .i64 rt], .bool f]) w')
    ((go_split_ands; refine ⟨Sk1.out _ ?_, by go_keep, by go_keep, by go_keep, Sk.out _ ?_⟩ <;> (repeat (first | exact Kept.refl _ _ | apply Kept.drew | apply Kept.drewN | apply Kept.alloc)))) (fail)
  all_goals go_wp2_with fail
  all_goals
    refine bodyPost_ret (v := .tuple #[.agg #[.int .i64 rk, .int .u64 rh, .int .u64 rl, .int .i64 rb, .int .i64 rs, .string rc, .int .u32 ri, .int .i64 rt], .bool f]) (by simp [results, Tryz.results17, go_sem]) rfl ⟨rfl, ?_⟩
    (repeat (first | exact Kept.refl _ _ | apply Kept.drew | apply Kept.drewN | apply Kept.alloc))
end Go.Proofs.YtmegbllhidkmoaaGreat.Tb

/- A table's drop. -/
namespace Go.Proofs.YtmegbllhidkmoaaGreat.Tb
open Go.RowKit Go.Maps
set_option linter.unusedVariables false

/-- What is leased has one owner of a kind. -/
def Uniq (L : List Lease) : Prop := ∀ a ∈ L, ∀ b ∈ L, a.bound = true → b.bound = true → a.owner = b.owner → a = b
def without (L : List Lease) (k : Key) : List Lease := L.filter fun l => l.key ≠ k
theorem leases_without (L : List Lease) (k : Key) : struck (leasesOf L) k = leasesOf (without L k) := by
  unfold struck leasesOf without
  rw [List.filter_map]
  rfl
theorem leases_nodup {w : World} {bt b1 b2 N : Nat} {v : Value} {L : List Lease} {E : List End} (h : TabAt w bt b1 b2 v N L E) : (L.map Lease.key).Nodup := by
  have := h.m1.nodup
  unfold leasesOf at this
  rw [List.map_map] at this
  exact this
theorem same_key : ∀ {L : List Lease}, (L.map Lease.key).Nodup → ∀ {a b : Lease}, a ∈ L → b ∈ L → a.key = b.key → a = b
  | [], _, a, _, ha, _, _ => by cases ha
  | c :: L, hn, a, b, ha, hb, he => by
    rw [List.map_cons, List.nodup_cons] at hn
    rcases List.mem_cons.1 ha with e1 | ha'
    · rcases List.mem_cons.1 hb with e2 | hb'
      · rw [e1, e2]
      · exact absurd (List.mem_map.2 ⟨b, hb', by rw [← he, e1]⟩) hn.1
    · rcases List.mem_cons.1 hb with e2 | hb'
      · exact absurd (List.mem_map.2 ⟨a, ha', by rw [he, e2]⟩) hn.1
      · exact same_key hn.2 ha' hb' he
theorem findL_some {L : List Lease} {k : Key} {l : Lease} (h : findL L k = some l) : l ∈ L ∧ l.key = k := by
  have := look_some h
  obtain ⟨x, hx, he⟩ := List.mem_map.1 this
  simp only [Prod.mk.injEq] at he
  obtain ⟨rfl, rfl⟩ := he
  exact ⟨hx, rfl⟩
theorem findL_none {L : List Lease} {k : Key} (h : findL L k = none) : ∀ l ∈ L, l.key ≠ k := fun l hl => look_none h (l.key, l) (List.mem_map.2 ⟨l, hl, rfl⟩)
theorem without_none {L : List Lease} {k : Key} (h : findL L k = none) : without L k = L := by
  unfold without
  rw [List.filter_eq_self]
  intro l hl
  simpa using findL_none h l hl
/-- Where a lease that isn't bound goes, no owner goes. -/
theorem owners_idle {L : List Lease} {k : Key} (hn : (L.map Lease.key).Nodup) (h : ((findL L k).getD zeroLease).bound = false) : ownersOf (without L k) = ownersOf L := by
  unfold ownersOf without
  rw [List.filter_filter]
  congr 1
  apply List.filter_congr
  intro l hl
  by_cases hk : l.key = k
  · have : findL L k = some l := by
      unfold findL
      exact look_mem (by unfold leasesOf; rw [List.map_map]; exact hn) (List.mem_map.2 ⟨l, hl, by rw [hk]⟩)
    rw [this] at h
    simp only [Option.getD_some] at h
    simp [h]
  · simp [hk]
theorem owners_gone {L : List Lease} {k : Key} {l0 : Lease} (hu : Uniq L) (hn : (L.map Lease.key).Nodup) (h : findL L k = some l0) (hb : l0.bound = true) : struck (ownersOf L) l0.owner = ownersOf (without L k) := by
  obtain ⟨h0, hk0⟩ := findL_some h
  unfold struck ownersOf without
  rw [List.filter_map, List.filter_filter, List.filter_filter]
  congr 1
  apply List.filter_congr
  intro l hl
  cases hlb : l.bound with
  | false => simp
  | true =>
    by_cases hk : l.key = k
    · have : l = l0 := same_key hn hl h0 (by rw [hk, hk0])
      simp [this, hk0]
    · have : l.owner ≠ l0.owner := fun e => hk (by rw [hu l hl l0 h0 hlb hb e, hk0])
      simp [hk, this]

theorem drop_done {w wY : World} {bt b1 b2 N : Nat} {v : Value} {L : List Lease} {E : List End} {k : Key} (hb : w.heap[bt]? = some (.cells #[.map (some b1), .map (some b2), v] 60 (0, 0))) (m2 : OwnerMap w b2 N (without L k)) (he : EndsIs w v E) (hl : E.length ≤ N) (n12 : b1 ≠ b2) (v1 : v.ownBlock ≠ some b1) (v2 : v.ownBlock ≠ some b2) (vt : v.ownBlock ≠ some bt) (oks : ∀ l ∈ L, l.ok) (n1 : bt ≠ b1)
    (hm : MapIs Tryz.prog 71 Key.val Key.ok Lease.val wY b1 N (struck (leasesOf L) k)) (ht : w.drew.mapTurned wY b1) : TabAt wY bt b1 b2 v N (without L k) E ∧ Kept (fun i => i = b1) w wY := by
  have hk : Kept (fun i => i = b1) w wY := (Kept.refl (fun i => i = b1) w).drew.andThen (Kept.grown (S := fun i => i = b1) ht.grown (fun k hk => (Option.some.inj hk).symm)) (fun _ _ h => h)
  refine ⟨⟨(hk.block bt (Array.getElem?_eq_some_iff.1 hb).1 n1).trans hb, by unfold LeaseMap; rw [← leases_without]; exact hm, m2.block (hk.block b2 m2.lt (fun e => n12 e.symm)), he.kept fun i hi => ?_, hl, n12, v1, v2, vt, fun l hl => oks l (List.mem_filter.1 hl).1⟩, hk⟩
  refine hk.block i ?_ (fun e => v1 (by rw [hi, e]))
  obtain ⟨_, h2⟩ := he
  rcases h2 with ⟨rfl, _⟩ | ⟨g, cap, cur, rfl, _, hh, _⟩
  · cases hi
  · obtain rfl : g = i := Option.some.inj hi
    exact (Array.getElem?_eq_some_iff.1 hh).1

set_option maxHeartbeats 3200000 in
set_option maxRecDepth 100000 in
theorem tab_drop (w : World) (bt b1 b2 N : Nat) (v : Value) (L : List Lease) (E : List End) (h : TabAt w bt b1 b2 v N L E) (hu : Uniq L) (k : Key) (hk : k.ok) :
    Calls Tryz.prog 45 #[.pointer (some ⟨bt, 0, none⟩), k.val] w fun e w' => e = .returned (.tuple #[]) ∧ TabAt w' bt b1 b2 v N (without L k) E ∧ Kept (fun i => i = b1 ∨ i = b2) w w' := by
  have lt : bt < w.heap.size := (Array.getElem?_eq_some_iff.1 h.blk).1
  have Sk1 : Aside1 (∀ w2, Quiet w w2 → w2.cell? ⟨bt, 0, none⟩ = some (.map (some b1))) := ⟨fun w2 hq => (cell_tab (h.kept hq (fun _ _ h => h))).1⟩
  have Sk : Aside1 (∀ w2, Quiet w w2 → (Instr.lookup 55 (.map (some b1)) k.val false).run Tryz.prog w2 = .ok ((findL L k).getD zeroLease).val w2) :=
    ⟨fun w2 hq => look_lease1 (h.kept hq (fun _ _ h => h)).m1 k hk⟩
  have HT := Aside1.mk h
  have HKk := Aside1.mk hk
  obtain ⟨kk, kh, kl, kb⟩ := k
  obtain ⟨r, hr⟩ : ∃ r, (findL L ⟨kk, kh, kl, kb⟩).getD zeroLease = r := ⟨_, rfl⟩
  rw [hr] at Sk
  obtain ⟨⟨rk, rh, rl, rb⟩, rs, rc, ri, rt⟩ := r
  have HR := Aside1.mk hr
  simp only [Lease.val, Key.val] at Sk ⊢
  clear h hr hk
  go_enter Tryz.func45, Tryz.ntmps45
  go_wp2_with fail
  go_region_held3 (fun w' => w'.cell? ⟨bt, 0, none⟩ = some (.map (some b1)) ∧ w'.cell? ⟨w.heap.size, 0, none⟩ = some (.int .i64 kk) ∧ w'.cell? ⟨w.heap.size, 1, none⟩ = some (.int .u64 kh) ∧ w'.cell? ⟨w.heap.size, 2, none⟩ = some (.int .u64 kl) ∧ w'.cell? ⟨w.heap.size, 3, none⟩ = some (.int .i64 kb) ∧ (Instr.lookup 55 (.map (some b1)) (.agg #[.int .i64 kk, .int .u64 kh, .int .u64 kl, .int .i64 kb]) false).run Tryz.prog w' = .ok (.agg #[.int .i64 rk, .int .u64 rh, .int .u64 rl, .int .i64 rb, .int .i64 rs, .string rc, .int .u32 ri, .int .i64 rt]) w')
    ((go_split_ands; refine ⟨Sk1.out _ ?_, by go_keep, by go_keep, by go_keep, by go_keep, Sk.out _ ?_⟩ <;> (repeat (first | exact Kept.refl _ _ | apply Kept.drew | apply Kept.drewN | apply Kept.alloc)))) (fail)
  all_goals
    have s1 : (w.alloc (.cells #[.int .i64 kk, .int .u64 kh, .int .u64 kl, .int .i64 kb] 71)).heap.size = w.heap.size + 1 := World.size_alloc _ _
    have hb1 := heap_alloc_new (w.alloc (.cells #[.int .i64 kk, .int .u64 kh, .int .u64 kl, .int .i64 kb] 71)) (.cells #[.int .i64 rk, .int .u64 rh, .int .u64 rl, .int .i64 rb, .int .i64 rs, .string rc, .int .u32 ri, .int .i64 rt] 30)
    have hb0 := (Below.heap_alloc (w.alloc (.cells #[.int .i64 kk, .int .u64 kh, .int .u64 kl, .int .i64 kb] 71)) (.cells #[.int .i64 rk, .int .u64 rh, .int .u64 rl, .int .i64 rb, .int .i64 rs, .string rc, .int .u32 ri, .int .i64 rt] 30) w.heap.size (by omega)).trans (heap_alloc_new w _)
    rw [s1] at hb1
    have HQ1 : Quiet w ((w.alloc (.cells #[.int .i64 kk, .int .u64 kh, .int .u64 kl, .int .i64 kb] 71)).alloc (.cells #[.int .i64 rk, .int .u64 rh, .int .u64 rl, .int .i64 rb, .int .i64 rs, .string rc, .int .u32 ri, .int .i64 rt] 30)).drew := (((Kept.refl _ w).alloc _).alloc _).drew
    replace hb1 : (((w.alloc (.cells #[.int .i64 kk, .int .u64 kh, .int .u64 kl, .int .i64 kb] 71)).alloc (.cells #[.int .i64 rk, .int .u64 rh, .int .u64 rl, .int .i64 rb, .int .i64 rs, .string rc, .int .u32 ri, .int .i64 rt] 30)).drew).heap[w.heap.size + 1]? = some (.cells #[.int .i64 rk, .int .u64 rh, .int .u64 rl, .int .i64 rb, .int .i64 rs, .string rc, .int .u32 ri, .int .i64 rt] 30 (0, 0)) := hb1
    replace hb0 : (((w.alloc (.cells #[.int .i64 kk, .int .u64 kh, .int .u64 kl, .int .i64 kb] 71)).alloc (.cells #[.int .i64 rk, .int .u64 rh, .int .u64 rl, .int .i64 rb, .int .i64 rs, .string rc, .int .u32 ri, .int .i64 rt] 30)).drew).heap[w.heap.size]? = some (.cells #[.int .i64 kk, .int .u64 kh, .int .u64 kl, .int .i64 kb] 71 (0, 0)) := hb0
    generalize ((w.alloc (.cells #[.int .i64 kk, .int .u64 kh, .int .u64 kl, .int .i64 kb] 71)).alloc (.cells #[.int .i64 rk, .int .u64 rh, .int .u64 rl, .int .i64 rb, .int .i64 rs, .string rc, .int .u32 ri, .int .i64 rt] 30)).drew = W1 at hb1 hb0 HQ1 ⊢
    rename_i hheld
    clear hheld s1
    have HQ := Aside1.mk HQ1
    have HB0 := Aside1.mk hb0
    have HB1 := Aside1.mk hb1
    have z4 : W1.cell? ⟨w.heap.size + 1, 4, none⟩ = some (.int .i64 rs) := (cell_of hb1 4).1
    clear HQ1 hb0 hb1
    by_cases hst : rs = 1
    · subst hst
      have HT1 := Aside1.mk (HT.out.kept HQ.out (fun _ _ h => h))
      have c1 := (cell_tab HT1.out).2.1
      have z0 : W1.cell? ⟨w.heap.size + 1, 0, none⟩ = some (.int .i64 rk) := (cell_of HB1.out 0).1
      have z1 : W1.cell? ⟨w.heap.size + 1, 1, none⟩ = some (.int .u64 rh) := (cell_of HB1.out 1).1
      have z2 : W1.cell? ⟨w.heap.size + 1, 2, none⟩ = some (.int .u64 rl) := (cell_of HB1.out 2).1
      have z3 : W1.cell? ⟨w.heap.size + 1, 3, none⟩ = some (.int .i64 rb) := (cell_of HB1.out 3).1
      have z5 : W1.cell? ⟨w.heap.size + 1, 5, none⟩ = some (.string rc) := (cell_of HB1.out 5).1
      have z6 : W1.cell? ⟨w.heap.size + 1, 6, none⟩ = some (.int .u32 ri) := (cell_of HB1.out 6).1
      have z7 : W1.cell? ⟨w.heap.size + 1, 7, none⟩ = some (.int .i64 rt) := (cell_of HB1.out 7).1
      have hfound : findL L ⟨kk, kh, kl, kb⟩ = some ⟨⟨rk, rh, rl, rb⟩, 1, rc, ri, rt⟩ := by
        have := HR.out
        cases hf : findL L ⟨kk, kh, kl, kb⟩ with
        | none => rw [hf] at this; simp [zeroLease] at this
        | some x => rw [hf] at this; rw [← this]; rfl
      obtain ⟨hin, hke⟩ := findL_some hfound
      have HF := Aside1.mk hfound
      have HOK := Aside1.mk (HT.out.oks _ hin)
      clear hfound hin hke
      go_wp2_with fail
      have HOO : Aside1 (Owner.ok (Lease.owner ⟨⟨rk, rh, rl, rb⟩, 1, rc, ri, rt⟩)) := ⟨⟨HOK.out.1.1, HOK.out.2.2.1, HOK.out.2.2.2.1⟩⟩
      go_region_with (first | (go_at_call 60; refine (owner_of _ ⟨⟨rk, rh, rl, rb⟩, 1, rc, ri, rt⟩).mono ?_; rintro e w2 ⟨rfl, hq⟩; have c1' : w2.cell? ⟨bt, 1, none⟩ = some (.map (some b2)) := hq.cell c1 (fun h => h); obtain ⟨w3, hrun, hm, hturn⟩ := (HT1.out.m2.block (w' := w2) (hq.block b2 HT1.out.m2.lt (fun h => h))).drop encOwner Tryz.underlying56 HOO.out 0; have HM := Aside1.mk hm; have HTU := Aside1.mk hturn; have HQ2 := Aside1.mk hq; clear hm hturn hq))
      all_goals
        have hk3 : Kept (fun i => i = b2) W1 w3 := ((Kept.refl (fun i => i = b2) W1).drew.andThen HQ2.out (fun _ _ h => h.elim)).andThen (Kept.grown (S := fun i => i = b2) HTU.out.grown (fun k hk => (Option.some.inj hk).symm)) (fun _ _ h => h)
        have HK3 := Aside1.mk hk3
        have lb1 := HT1.out.m1.lt
        have lw0 : w.heap.size < W1.heap.size := (Array.getElem?_eq_some_iff.1 HB0.out).1
        have nb2 : w.heap.size ≠ b2 := fun e => by have := HT.out.m2.lt; omega
        have c0 : w3.cell? ⟨bt, 0, none⟩ = some (.map (some b1)) := hk3.cell (cell_tab HT1.out).1 HT1.out.ne2
        have y0 : w3.cell? ⟨w.heap.size, 0, none⟩ = some (.int .i64 kk) := hk3.cell (cell_of HB0.out 0).1 nb2
        have y1 : w3.cell? ⟨w.heap.size, 1, none⟩ = some (.int .u64 kh) := hk3.cell (cell_of HB0.out 1).1 nb2
        have y2 : w3.cell? ⟨w.heap.size, 2, none⟩ = some (.int .u64 kl) := hk3.cell (cell_of HB0.out 2).1 nb2
        have y3 : w3.cell? ⟨w.heap.size, 3, none⟩ = some (.int .i64 kb) := hk3.cell (cell_of HB0.out 3).1 nb2
        obtain ⟨wY, hrunY, hmY, hturnY⟩ := (HT1.out.m1.block (w' := w3.drew) (hk3.block b1 lb1 HT1.out.n12)).drop encKey Tryz.underlying55 HKk.out 0
        simp only [Key.val] at hrunY
        have HMY := Aside1.mk hmY
        have HTUY := Aside1.mk hturnY
        clear hmY hturnY hk3 hrun c1 z0 z1 z2 z3 z4 z5 z6 z7 lb1 lw0 nb2
        go_wp2_with fail
        go_region
        all_goals go_wp2_with fail
        go_end0
        have hgone := owners_gone hu (leases_nodup HT.out) HF.out rfl
        have hb3 := (HK3.out.block bt (Array.getElem?_eq_some_iff.1 HT1.out.blk).1 HT1.out.ne2).trans HT1.out.blk
        have he3 : EndsIs w3 v E := by
          refine HT1.out.ends.kept fun i hi => HK3.out.block i ?_ (fun e => HT1.out.v2 (by rw [hi, e]))
          obtain ⟨_, h2⟩ := HT1.out.ends
          rcases h2 with ⟨rfl, _⟩ | ⟨g, cap, cur, rfl, _, hh, _⟩
          · cases hi
          · obtain rfl : g = i := Option.some.inj hi
            exact (Array.getElem?_eq_some_iff.1 hh).1
        obtain ⟨r1, r2⟩ := drop_done (k := ⟨kk, kh, kl, kb⟩) hb3 (by unfold OwnerMap; rw [← hgone]; exact HM.out) he3 HT1.out.len HT1.out.n12 HT1.out.v1 HT1.out.v2 HT1.out.vt HT1.out.oks HT1.out.ne1 HMY.out HTUY.out
        exact ⟨rfl, r1, ((HQ.out.mono (S' := fun i => i = b1 ∨ i = b2) (fun _ h => h.elim)).andThen HK3.out (fun _ _ h => .inr h)).andThen r2 (fun _ _ h => .inl h)⟩
    · have hst' : (rs == 1) = false := by simpa using hst
      have HT1 := Aside1.mk (HT.out.kept HQ.out (fun _ _ h => h))
      have c0 := (cell_tab HT1.out).1
      have y0 : W1.cell? ⟨w.heap.size, 0, none⟩ = some (.int .i64 kk) := (cell_of HB0.out 0).1
      have y1 : W1.cell? ⟨w.heap.size, 1, none⟩ = some (.int .u64 kh) := (cell_of HB0.out 1).1
      have y2 : W1.cell? ⟨w.heap.size, 2, none⟩ = some (.int .u64 kl) := (cell_of HB0.out 2).1
      have y3 : W1.cell? ⟨w.heap.size, 3, none⟩ = some (.int .i64 kb) := (cell_of HB0.out 3).1
      obtain ⟨wY, hrun, hm, hturn⟩ := (HT1.out.m1.block (w' := W1.drew) rfl).drop encKey Tryz.underlying55 HKk.out 0
      simp only [Key.val] at hrun
      have HM := Aside1.mk hm
      have HTU := Aside1.mk hturn
      clear hm hturn
      go_wp2_with fail
      go_region
      all_goals go_wp2_with fail
      go_end0
      have hidle := owners_idle (k := ⟨kk, kh, kl, kb⟩) (leases_nodup HT.out) (by rw [HR.out]; exact hst')
      obtain ⟨r1, r2⟩ := drop_done (k := ⟨kk, kh, kl, kb⟩) HT1.out.blk (by unfold OwnerMap; rw [hidle]; exact HT1.out.m2) HT1.out.ends HT1.out.len HT1.out.n12 HT1.out.v1 HT1.out.v2 HT1.out.vt HT1.out.oks HT1.out.ne1 HM.out HTU.out
      exact ⟨rfl, r1, (HQ.out.mono (S' := fun i => i = b1 ∨ i = b2) (fun _ h => h.elim)).andThen r2 (fun _ _ h => .inl h)⟩
end Go.Proofs.YtmegbllhidkmoaaGreat.Tb

/- The order of leases: cmp's functions, addr.Cmp, lease.Compare, table.compare, each with the very world behind it. -/
namespace Go.Proofs.YtmegbllhidkmoaaGreat.Tb
open Go.RowKit Go.Maps Go.Sort
set_option linter.unusedVariables false

def cmpI (x y : Int) : Int := if x < y then -1 else if y < x then 1 else 0
def orI : List Int → Int
  | [] => 0
  | x :: l => if x = 0 then orI l else x
def cmpA (h l h' l' : Int) : Int := orI [cmpI h h', cmpI l l']
def cmpK (a b : Key) : Int := orI [cmpI a.kind b.kind, cmpA a.hi a.lo b.hi b.lo, cmpI a.bits b.bits]
/-- Draws and new blocks alone. -/
def Grows (w w' : World) : Prop := ∃ q os, w' = grow (w.drewN q) os
theorem Grows.refl (w : World) : Grows w w := ⟨0, #[], by rw [grow_empty]; rfl⟩
theorem Grows.alloc {a w : World} (h : Grows a w) (o : Obj) : Grows a (w.alloc o) := by
  obtain ⟨q, os, rfl⟩ := h
  exact ⟨q, os ++ #[o], by rw [alloc_eq_grow, grow_grow]⟩
theorem Grows.drew {a w : World} (h : Grows a w) : Grows a w.drew := by
  obtain ⟨q, os, rfl⟩ := h
  exact ⟨q + 1, os, by rw [drew_grow]; rfl⟩
theorem Grows.drewN {a w : World} (h : Grows a w) (n : Nat) : Grows a (w.drewN n) := by
  obtain ⟨q, os, rfl⟩ := h
  exact ⟨q + n, os, by show grow ((a.drewN q).drewN n) os = _; rw [World.drewN_drewN]⟩
theorem Grows.trans {a b c : World} (h : Grows a b) (k : Grows b c) : Grows a c := by
  obtain ⟨q, os, rfl⟩ := k
  have h2 := h.drewN q
  obtain ⟨p, os', e⟩ := h2
  exact ⟨p, os' ++ os, by rw [e, grow_grow]⟩
theorem Grows.quiet {w w' : World} (h : Grows w w') : Quiet w w' := by
  obtain ⟨q, os, rfl⟩ := h
  exact ⟨rfl, rfl, rfl, by rw [size_grow]; exact Nat.le_add_right _ _, fun k hk _ => heap_grow_old (w.drewN q) os hk⟩

theorem isnan_i (w : World) (x : Int) : Calls Tryz.prog 57 #[.int .i64 x] w fun e w' => e = .returned (.bool false) ∧ w' = w := by
  go_enter Tryz.func57, Tryz.ntmps57
  go_wp2_with fail
  go_ret
  exact ⟨by simp, rfl⟩
theorem isnan_u (w : World) (x : Int) : Calls Tryz.prog 109 #[.int .u64 x] w fun e w' => e = .returned (.bool false) ∧ w' = w := by
  go_enter Tryz.func109, Tryz.ntmps109
  go_wp2_with fail
  go_ret
  exact ⟨by simp, rfl⟩
set_option maxHeartbeats 800000 in
theorem compare_i (w : World) (x y : Int) : Calls Tryz.prog 40 #[.int .i64 x, .int .i64 y] w fun e w' => e = .returned (.int .i64 (cmpI x y)) ∧ w' = w := by
  unfold cmpI
  by_cases h1 : x < y
  · rw [if_pos h1]
    go_enter Tryz.func40, Tryz.ntmps40
    go_wp2_with (go_at_call 57; refine (isnan_i _ _).mono ?_; rintro e w' ⟨rfl, rfl⟩)
    go_ret
    exact ⟨rfl, rfl⟩
  · rw [if_neg h1]
    by_cases h2 : y < x
    · rw [if_pos h2]
      go_enter Tryz.func40, Tryz.ntmps40
      go_wp2_with (go_at_call 57; refine (isnan_i _ _).mono ?_; rintro e w' ⟨rfl, rfl⟩)
      go_ret
      exact ⟨rfl, rfl⟩
    · rw [if_neg h2]
      go_enter Tryz.func40, Tryz.ntmps40
      go_wp2_with (go_at_call 57; refine (isnan_i _ _).mono ?_; rintro e w' ⟨rfl, rfl⟩)
      go_ret
      exact ⟨rfl, rfl⟩
set_option maxHeartbeats 800000 in
theorem compare_u (w : World) (x y : Int) : Calls Tryz.prog 103 #[.int .u64 x, .int .u64 y] w fun e w' => e = .returned (.int .i64 (cmpI x y)) ∧ w' = w := by
  unfold cmpI
  by_cases h1 : x < y
  · rw [if_pos h1]
    go_enter Tryz.func103, Tryz.ntmps103
    go_wp2_with (go_at_call 109; refine (isnan_u _ _).mono ?_; rintro e w' ⟨rfl, rfl⟩)
    go_ret
    exact ⟨rfl, rfl⟩
  · rw [if_neg h1]
    by_cases h2 : y < x
    · rw [if_pos h2]
      go_enter Tryz.func103, Tryz.ntmps103
      go_wp2_with (go_at_call 109; refine (isnan_u _ _).mono ?_; rintro e w' ⟨rfl, rfl⟩)
      go_ret
      exact ⟨rfl, rfl⟩
    · rw [if_neg h2]
      go_enter Tryz.func103, Tryz.ntmps103
      go_wp2_with (go_at_call 109; refine (isnan_u _ _).mono ?_; rintro e w' ⟨rfl, rfl⟩)
      go_ret
      exact ⟨rfl, rfl⟩
set_option maxHeartbeats 800000 in
theorem or_i (w : World) (b cap : Nat) (xs : List Int) (hl : xs.length ≤ 10) (hc : ∀ j x, xs[j]? = some x → w.cell? ⟨b, j, none⟩ = some (.int .i64 x)) :
    Calls Tryz.prog 89 #[.slice (some ⟨b, 0, none⟩) xs.length cap] w fun e w' => e = .returned (.int .i64 (orI xs)) ∧ w' = w := by
  have HC := Aside1.mk hc
  clear hc
  go_enter Tryz.func89, Tryz.ntmps89
  go_wp2_with fail
  go_loopw [8] (fun v8 wr => w = wr ∧ ∃ j : Nat, v8 = .int .i64 j ∧ j ≤ xs.length ∧ Aside1 (orI (xs.drop j) = orI xs)) (fun v8 _ => xs.length - (RowKit.intOf v8).toNat)
  case atStart => exact ⟨rfl, 0, rfl, Nat.zero_le _, ⟨rfl⟩⟩
  case round =>
    obtain ⟨rfl, j, rfl, hj, HO⟩ := hrel
    by_cases hlt : j < xs.length
    · have hi : (j : Int) < (xs.length : Int) := by omega
      have hx := HC.out j _ (List.getElem?_eq_getElem hlt)
      have ho := HO.out
      rw [List.drop_eq_getElem_cons hlt] at ho
      generalize xs[j] = x at hx ho
      by_cases hz : x = 0
      · have HO2 := Aside1.mk (show orI (xs.drop (j + 1)) = orI xs by rw [← ho]; simp [orI, hz])
        clear ho
        go_wp2_with fail
        go_roundw
        case rel => exact ⟨trivial, j + 1, by go_num, by omega, HO2⟩
        case measure => simp [RowKit.intOf]; omega
      · have HO2 := Aside1.mk (show x = orI xs by rw [← ho]; simp [orI, hz])
        clear ho
        go_wp2_with fail
        go_ret
        exact ⟨by rw [← HO2.out]; rfl, rfl⟩
    · have HO2 := Aside1.mk (show 0 = orI xs by rw [← HO.out, List.drop_of_length_le (by omega)]; rfl)
      have hje : ¬ (j : Int) < (xs.length : Int) := by omega
      go_wp2_with fail
      go_ret
      exact ⟨by rw [← HO2.out]; rfl, rfl⟩

set_option maxHeartbeats 1600000 in
set_option maxRecDepth 100000 in
theorem addr_cmp (w : World) (h l h' l' : Int) : Calls Tryz.prog 90 #[.agg #[.int .u64 h, .int .u64 l], .agg #[.int .u64 h', .int .u64 l']] w fun e w' => e = .returned (.int .i64 (cmpA h l h' l')) ∧ Grows w w' := by
  have hb := heap_alloc_new ((w.alloc (.cells #[.int .u64 h, .int .u64 l] 25)).alloc (.cells #[.int .u64 h', .int .u64 l'] 25)) (.cells #[.int .i64 (cmpI h h'), .int .i64 (cmpI l l')] 3)
  simp only [World.size_alloc] at hb
  have HB := Aside1.mk hb
  clear hb
  go_enter Tryz.func90, Tryz.ntmps90
  go_wp2_with fail
  go_region_held3 (fun w' => w'.cell? ⟨w.heap.size, 0, none⟩ = some (.int .u64 h) ∧ w'.cell? ⟨w.heap.size, 1, none⟩ = some (.int .u64 l) ∧ w'.cell? ⟨w.heap.size + 1, 0, none⟩ = some (.int .u64 h') ∧ w'.cell? ⟨w.heap.size + 1, 1, none⟩ = some (.int .u64 l')) (go_keep)
    (first | (go_at_call 103; refine (compare_u _ _ _).mono ?_; rintro e w' ⟨rfl, rfl⟩) | (go_at_call 89; refine (or_i _ _ _ [cmpI h h', cmpI l l'] (by simp) ?_).mono ?_; (intro j x hx; rcases j with _ | _ | j; (· obtain rfl := Option.some.inj hx; exact (cell_of HB.out 0).1); (· obtain rfl := Option.some.inj hx; exact (cell_of HB.out 1).1); (· simp at hx)); rintro e w' ⟨rfl, rfl⟩))
  all_goals go_wp2_with fail
  go_ret
  exact ⟨rfl, ((((Grows.refl w).alloc _).alloc _).alloc _).drew⟩
theorem keep_alloc {w : World} {a : Addr} {v : Value} {o : Obj} (h : w.cell? a = some v) : (w.alloc o).cell? a = some v := ((Kept.refl (fun _ => False) w).alloc o).cell h (fun h => h)
theorem keep_grows {w w' : World} {a : Addr} {v : Value} (hg : Grows w w') (h : w.cell? a = some v) : w'.cell? a = some v := hg.quiet.cell h (fun h => h)
set_option maxHeartbeats 1600000 in
set_option maxRecDepth 100000 in
theorem lease_compare (w : World) (a b : Key) : Calls Tryz.prog 70 #[.int .i64 a.kind, .agg #[.int .u64 a.hi, .int .u64 a.lo, .int .i64 a.bits], .int .i64 b.kind, .agg #[.int .u64 b.hi, .int .u64 b.lo, .int .i64 b.bits]] w fun e w' => e = .returned (.int .i64 (cmpK a b)) ∧ Grows w w' := by
  obtain ⟨k, h, l, n⟩ := a
  obtain ⟨k', h', l', n'⟩ := b
  go_enter Tryz.func70, Tryz.ntmps70
  go_wp2_with fail
  have hg0 : Grows w ((w.alloc (.cells #[.int .u64 h, .int .u64 l, .int .i64 n] 27)).alloc (.cells #[.int .u64 h', .int .u64 l', .int .i64 n'] 27)) := ((Grows.refl w).alloc _).alloc _
  go_region_held3 (fun w' => w'.cell? ⟨w.heap.size, 0, none⟩ = some (.int .u64 h) ∧ w'.cell? ⟨w.heap.size, 1, none⟩ = some (.int .u64 l) ∧ w'.cell? ⟨w.heap.size, 2, none⟩ = some (.int .i64 n) ∧ w'.cell? ⟨w.heap.size + 1, 0, none⟩ = some (.int .u64 h') ∧ w'.cell? ⟨w.heap.size + 1, 1, none⟩ = some (.int .u64 l') ∧ w'.cell? ⟨w.heap.size + 1, 2, none⟩ = some (.int .i64 n') ∧ Grows w w') ((refine ⟨?_, ?_, ?_, ?_, ?_, ?_, ?_⟩ <;> first | assumption | (go_keep; done) | (apply Grows.drew; assumption) | (obtain ⟨_, _, _, _, _, _, _⟩ := ‹_ ∧ _ ∧ _ ∧ _ ∧ _ ∧ _ ∧ _›; first | assumption | (apply keep_alloc; assumption) | (apply Grows.alloc; assumption) | (apply Grows.drew; assumption) | (apply Grows.alloc; apply Grows.drew; assumption) | (apply keep_grows <;> assumption) | (apply Grows.trans <;> assumption))))
    (first | (go_at_call 40; refine (compare_i _ _ _).mono ?_; rintro e w' ⟨rfl, rfl⟩) | (go_at_call 90; refine (addr_cmp _ _ _ _ _).mono ?_; rintro e w' ⟨rfl, hg⟩) | (go_at_call 89; refine (or_i _ _ _ [cmpI k k', cmpA h l h' l', cmpI n n'] (by simp) ?_).mono ?_; (intro j x hx; rcases j with _ | _ | _ | j; (· obtain rfl := Option.some.inj hx; exact (cell_of (heap_alloc_new _ _) 0).1); (· obtain rfl := Option.some.inj hx; exact (cell_of (heap_alloc_new _ _) 1).1); (· obtain rfl := Option.some.inj hx; exact (cell_of (heap_alloc_new _ _) 2).1); (· simp at hx)); rintro e w' ⟨rfl, rfl⟩))
  all_goals go_wp2_with fail
  go_ret
  exact ⟨rfl, ((hg0.drew).trans hg).alloc _⟩
set_option maxRecDepth 100000 in
theorem table_compare (w : World) (a b : Lease) : Calls Tryz.prog 53 #[a.val, b.val] w fun e w' => e = .returned (.int .i64 (cmpK a.key b.key)) ∧ Grows w w' := by
  obtain ⟨⟨k, h, l, n⟩, s, c, i, t⟩ := a
  obtain ⟨⟨k', h', l', n'⟩, s', c', i', t'⟩ := b
  simp only [Lease.val]
  go_enter Tryz.func53, Tryz.ntmps53
  have hg0 : Grows w ((w.alloc (.cells #[.int .i64 k, .int .u64 h, .int .u64 l, .int .i64 n, .int .i64 s, .string c, .int .u32 i, .int .i64 t] 30)).alloc (.cells #[.int .i64 k', .int .u64 h', .int .u64 l', .int .i64 n', .int .i64 s', .string c', .int .u32 i', .int .i64 t'] 30)) := ((Grows.refl w).alloc _).alloc _
  go_wp2_with (go_at_call 70; refine (lease_compare _ ⟨k, h, l, n⟩ ⟨k', h', l', n'⟩).mono ?_; rintro e w' ⟨rfl, hg⟩)
  go_ret
  exact ⟨rfl, hg0.trans hg⟩
end Go.Proofs.YtmegbllhidkmoaaGreat.Tb

/- Fields of addresses and prefixes as values. -/
namespace Go.Proofs.YtmegbllhidkmoaaGreat.Tb
theorem fldA_0 (a b : Value) (w : World) : (Instr.field 25 (.agg #[a, b]) 0).run Tryz.prog w = .ok a w := by kernel_rfl
theorem fldA_1 (a b : Value) (w : World) : (Instr.field 25 (.agg #[a, b]) 1).run Tryz.prog w = .ok b w := by kernel_rfl
theorem fldP_0 (a b c : Value) (w : World) : (Instr.field 27 (.agg #[a, b, c]) 0).run Tryz.prog w = .ok (.agg #[a, b]) w := by kernel_rfl
theorem fldP_1 (a b c : Value) (w : World) : (Instr.field 27 (.agg #[a, b, c]) 1).run Tryz.prog w = .ok c w := by kernel_rfl
end Go.Proofs.YtmegbllhidkmoaaGreat.Tb

-- BY wip/tools/gprint.py, over the kit's printer: machine-made text of this session
namespace Go.Proofs.YtmegbllhidkmoaaGreat.Tb
open Go.RowKit Go.Proofs.YtmegbllhidkmoaaGreatW.PrintWords Go.Proofs.YtmegbllhidkmoaaGreatW.PrintLast Go.Proofs.YtmegbllhidkmoaaGreatW.PrintMore
attribute [local go_sem] max2_int min2_int max_two min_two max_three min_three max_four min_four   -- for this text's walks alone
attribute [local go_sem] fldA_0 fldA_1 fldP_0 fldP_1
set_option linter.unusedVariables false
set_option linter.unusedSimpArgs false



def errW : Option Int → Value
  | none => .nilIface
  | some c => .iface 0 (.int .i64 c)
theorem errW_none : errW none = .nilIface := rfl
theorem errW_some (c : Int) : errW (some c) = .iface 0 (.int .i64 c) := rfl

theorem info3 : (Tryz.prog.info? 3).map (fun i => (i.zero, i.size, i.bytes)) = some (some (.int .i64 0), 1, 8) := by kernel_rfl
-- the values' own types

end Go.Proofs.YtmegbllhidkmoaaGreat.Tb

-- BY wip/tools/gprint.py, over the kit's printer: machine-made text of this session
namespace Go.Proofs.YtmegbllhidkmoaaGreat.Tb
open Go.RowKit Go.Proofs.YtmegbllhidkmoaaGreatW.PrintWords Go.Proofs.YtmegbllhidkmoaaGreatW.PrintLast Go.Proofs.YtmegbllhidkmoaaGreatW.PrintMore
attribute [local go_sem] max2_int min2_int max_two min_two max_three min_three max_four min_four   -- for this text's walks alone
attribute [local go_sem] fldA_0 fldA_1 fldP_0 fldP_1
set_option linter.unusedVariables false
set_option linter.unusedSimpArgs false

theorem eqA25 (d : Nat) (w : World) (x0 y0 : Int) (x1 y1 : Int) :
    (Op.equalIn (d + 2) 25 (.agg #[.int .u64 x0, .int .u64 x1]) (.agg #[.int .u64 y0, .int .u64 y1])).run Tryz.prog w = .ok (x0 == y0 && (x1 == y1)) w := by
  refine eqA_of Tryz.underlying25 (by kernel_rfl) ?_
  refine eqf_cons (by rfl) (by go_simp; rfl) (by go_simp; rfl) (by go_simp) ?_
  exact eqf_last (by rfl) (by go_simp; rfl) (by go_simp; rfl) (by go_simp)
theorem eqA27 (d : Nat) (w : World) (x0 y0 : Int) (x1 y1 : Int) (x2 y2 : Int) :
    (Op.equalIn (d + 3) 27 (.agg #[.int .u64 x0, .int .u64 x1, .int .i64 x2]) (.agg #[.int .u64 y0, .int .u64 y1, .int .i64 y2])).run Tryz.prog w = .ok ((x0 == y0 && (x1 == y1)) && (x2 == y2)) w := by
  refine eqA_of Tryz.underlying27 (by kernel_rfl) ?_
  refine eqf_cons (by rfl) (by go_simp) (by go_simp) (eqA25 (d + 0) w _ _ _ _) ?_
  exact eqf_last (by rfl) (by go_simp; rfl) (by go_simp; rfl) (by go_simp)
end Go.Proofs.YtmegbllhidkmoaaGreat.Tb

/- addr's functions: what they answer. -/
namespace Go.Proofs.YtmegbllhidkmoaaGreat.Tb
open Go.RowKit Go.Proofs.YtmegbllhidkmoaaGreatW.PrintWords Go.Proofs.YtmegbllhidkmoaaGreatW.PrintLast Go.Proofs.YtmegbllhidkmoaaGreatW.PrintMore
set_option linter.unusedVariables false
attribute [local go_sem] fldA_0 fldA_1 fldP_0 fldP_1
attribute [local go_sem high] eqA27
theorem kept_low {U : Nat → Prop} {w w' : World} (h : Below w.heap.size w w') : Quiet w w' := ⟨h.os, h.tape, h.output, h.size, fun k hk _ => h.block k hk⟩
/-- Blocks that were laid last, and what stands in them behind calls that leave all as it lay. -/
theorem new0 (w : World) (o : Obj) : (w.alloc o).heap[w.heap.size]? = some o := heap_alloc_new w o
theorem new1 (w : World) (o p : Obj) : ((w.alloc o).alloc p).heap[w.heap.size + 1]? = some p := by have := heap_alloc_new (w.alloc o) p; rwa [World.size_alloc] at this
theorem old1 (w : World) (o p : Obj) : ((w.alloc o).alloc p).heap[w.heap.size]? = some o := (Below.heap_alloc (w.alloc o) p w.heap.size (by rw [World.size_alloc]; exact Nat.lt_succ_self _)).trans (heap_alloc_new w o)
theorem put2 {w : World} {b : Nat} {x y x' y' : Value} {t : TypeId} (h : w.heap[b]? = some (.cells #[x, y] t (0, 0))) : ((w.setCell ⟨b, 0, none⟩ x').setCell ⟨b, 1, none⟩ y').heap[b]? = some (.cells #[x', y'] t (0, 0)) :=
  heap_setCell_same _ b 1 #[x', y] t y' (heap_setCell_same _ b 0 #[x, y] t x' h)
theorem put3 {w : World} {b : Nat} {x y z x' y' z' : Value} {t : TypeId} (h : w.heap[b]? = some (.cells #[x, y, z] t (0, 0))) : (((w.setCell ⟨b, 0, none⟩ x').setCell ⟨b, 1, none⟩ y').setCell ⟨b, 2, none⟩ z').heap[b]? = some (.cells #[x', y', z'] t (0, 0)) :=
  heap_setCell_same _ b 2 #[x', y', z] t z' (heap_setCell_same _ b 1 #[x', y, z] t y' (heap_setCell_same _ b 0 #[x, y, z] t x' h))
theorem put4 {w : World} {b : Nat} {x y z u x' y' z' u' : Value} {t : TypeId} (h : w.heap[b]? = some (.cells #[x, y, z, u] t (0, 0))) : ((((w.setCell ⟨b, 0, none⟩ x').setCell ⟨b, 1, none⟩ y').setCell ⟨b, 2, none⟩ z').setCell ⟨b, 3, none⟩ u').heap[b]? = some (.cells #[x', y', z', u'] t (0, 0)) :=
  heap_setCell_same _ b 3 #[x', y', z', u] t u' (heap_setCell_same _ b 2 #[x', y', z, u] t z' (heap_setCell_same _ b 1 #[x', y, z, u] t y' (heap_setCell_same _ b 0 #[x, y, z, u] t x' h)))
theorem set2 {U : Nat → Prop} {a w : World} {b : Nat} {x y : Value} (h : Kept U a w) (hb : a.heap.size ≤ b) : Kept U a ((w.setCell ⟨b, 0, none⟩ x).setCell ⟨b, 1, none⟩ y) :=
  have k : ∀ (o : Nat), (⟨b, o, none⟩ : Addr).block < a.heap.size → U (⟨b, o, none⟩ : Addr).block := fun _ hk => absurd hk (Nat.not_lt.2 hb)
  (h.setCell (k 0) _).setCell (k 1) _
theorem set3 {U : Nat → Prop} {a w : World} {b : Nat} {x y z : Value} (h : Kept U a w) (hb : a.heap.size ≤ b) : Kept U a (((w.setCell ⟨b, 0, none⟩ x).setCell ⟨b, 1, none⟩ y).setCell ⟨b, 2, none⟩ z) :=
  (set2 h hb).setCell (fun hk => absurd hk (Nat.not_lt.2 hb)) _
theorem set4 {U : Nat → Prop} {a w : World} {b : Nat} {x y z u : Value} (h : Kept U a w) (hb : a.heap.size ≤ b) : Kept U a ((((w.setCell ⟨b, 0, none⟩ x).setCell ⟨b, 1, none⟩ y).setCell ⟨b, 2, none⟩ z).setCell ⟨b, 3, none⟩ u) :=
  (set3 h hb).setCell (fun hk => absurd hk (Nat.not_lt.2 hb)) _
theorem blk {w w' : World} {b : Nat} {o : Obj} (h : w.heap[b]? = some o) (hq : Quiet w w') : w'.heap[b]? = some o := (hq.block b (Array.getElem?_eq_some_iff.1 h).1 (fun h => h)).trans h
theorem at2 {w : World} {b : Nat} {x y : Value} {t : TypeId} (h : w.heap[b]? = some (.cells #[x, y] t (0, 0))) : w.cell? ⟨b, 0, none⟩ = some x ∧ w.cell? ⟨b, 1, none⟩ = some y ∧ w.frozen? ⟨b, 0, none⟩ = false ∧ w.frozen? ⟨b, 1, none⟩ = false :=
  ⟨(cell_of h 0).1, by simpa using (cell_of h 1).1, (cell_of h 0).2, (cell_of h 1).2⟩
theorem at3 {w : World} {b : Nat} {x y z : Value} {t : TypeId} (h : w.heap[b]? = some (.cells #[x, y, z] t (0, 0))) : w.cell? ⟨b, 0, none⟩ = some x ∧ w.cell? ⟨b, 1, none⟩ = some y ∧ w.cell? ⟨b, 2, none⟩ = some z ∧ w.frozen? ⟨b, 0, none⟩ = false ∧ w.frozen? ⟨b, 1, none⟩ = false ∧ w.frozen? ⟨b, 2, none⟩ = false :=
  ⟨(cell_of h 0).1, by simpa using (cell_of h 1).1, by simpa using (cell_of h 2).1, (cell_of h 0).2, (cell_of h 1).2, (cell_of h 2).2⟩
theorem at4 {w : World} {b : Nat} {x y z u : Value} {t : TypeId} (h : w.heap[b]? = some (.cells #[x, y, z, u] t (0, 0))) : w.cell? ⟨b, 0, none⟩ = some x ∧ w.cell? ⟨b, 1, none⟩ = some y ∧ w.cell? ⟨b, 2, none⟩ = some z ∧ w.cell? ⟨b, 3, none⟩ = some u ∧ w.frozen? ⟨b, 0, none⟩ = false ∧ w.frozen? ⟨b, 1, none⟩ = false ∧ w.frozen? ⟨b, 2, none⟩ = false ∧ w.frozen? ⟨b, 3, none⟩ = false :=
  ⟨(cell_of h 0).1, by simpa using (cell_of h 1).1, by simpa using (cell_of h 2).1, by simpa using (cell_of h 3).1, (cell_of h 0).2, (cell_of h 1).2, (cell_of h 2).2, (cell_of h 3).2⟩
def addr_To4.f (a0_0 : Int) (a0_1 : Int) : Option (Int × Bool) := if a0_0 = 0 then (if a0_1 > 4294967295 then (some (0, false)) else (some ((a0_1) % 4294967296, true))) else (some (0, false))
set_option maxRecDepth 100000 in
theorem addr_To4.calls (h l r1 : Int) (r2 : Bool) (w : World) (e : addr_To4.f h l = some (r1, r2)) : Calls Tryz.prog 73 #[.agg #[.int .u64 h, .int .u64 l]] w fun e w' => e = .returned (.tuple #[.int .u32 r1, .bool r2]) ∧ Quiet w w' := by
  unfold addr_To4.f at e
  split at e <;> rename_i c0
  · have b0 : (h != 0) = false := by simp [c0]
    split at e <;> rename_i c1
    all_goals
      obtain ⟨rfl, rfl⟩ := Prod.mk.inj (Option.some.inj e)
      clear c0
      go_enter Tryz.func73, Tryz.ntmps73
      go_wp2_with fail
      go_ret2
      exact ⟨rfl, by (repeat (first | exact Kept.refl _ _ | assumption | apply Kept.drew | apply Kept.drewN | apply Kept.alloc | refine Kept.setCell ?_ (fun hlt => absurd hlt (Nat.lt_irrefl _)) _ | refine Kept.andThen ?_ (by assumption) (fun _ _ h => h)))⟩
  · have b0 : (h != 0) = true := by simp [c0]
    obtain ⟨rfl, rfl⟩ := Prod.mk.inj (Option.some.inj e)
    go_enter Tryz.func73, Tryz.ntmps73
    go_wp2_with fail
    go_ret2
    exact ⟨rfl, by (repeat (first | exact Kept.refl _ _ | assumption | apply Kept.drew | apply Kept.drewN | apply Kept.alloc | refine Kept.setCell ?_ (fun hlt => absurd hlt (Nat.lt_irrefl _)) _ | refine Kept.andThen ?_ (by assumption) (fun _ _ h => h)))⟩

theorem bits64 : IntKind.u64.bits = 64 := rfl
theorem wrap_back {n : Int} (h1 : 0 < n) (h2 : n < 64) : wrap64 (64 - n) = 64 - n := by unfold wrap64; omega
theorem shl_in (x : Int) {n : Int} (h1 : 0 < n) (h2 : n < 64) : shl .u64 x n = IntKind.u64.wrap (x * 2 ^ n.toNat) := by unfold shl; rw [bits64, Nat.min_eq_left (by omega)]
theorem shr_in (x : Int) {n : Int} (h1 : 0 < n) (h2 : n < 64) : shr .u64 x n = x / 2 ^ n.toNat := by unfold shr; rw [bits64, Nat.min_eq_left (by omega)]
theorem shl_out (x : Int) {n : Int} (h1 : 0 < n) (h2 : n < 64) : shl .u64 x (wrap64 (64 - n)) = IntKind.u64.wrap (x * 2 ^ (64 - n).toNat) := by rw [wrap_back h1 h2]; exact shl_in x (by omega) (by omega)
theorem shr_out (x : Int) {n : Int} (h1 : 0 < n) (h2 : n < 64) : shr .u64 x (wrap64 (64 - n)) = x / 2 ^ (64 - n).toNat := by rw [wrap_back h1 h2]; exact shr_in x (by omega) (by omega)
def addr_Up.f (a0_0 : Int) (a0_1 : Int) (a1 : Int) : Option (Int × Int) := if a1 ≤ 0 then (some (a0_0, a0_1)) else (if a1 ≥ 64 then (if 0 ≤ (wrap64 (a1 - 64)) then (some (shl .u64 a0_1 (wrap64 (a1 - 64)), 0)) else (none)) else (if 0 ≤ a1 then (if 0 ≤ (wrap64 (64 - a1)) then (some (Go.bits .or .u64 (shl .u64 a0_0 a1) (shr .u64 a0_1 (wrap64 (64 - a1))), shl .u64 a0_1 a1)) else (none)) else (none)))
set_option maxRecDepth 100000 in
theorem addr_Up.calls (h l n r1 r2 : Int) (w : World) (e : addr_Up.f h l n = some (r1, r2)) : Calls Tryz.prog 105 #[.agg #[.int .u64 h, .int .u64 l], .int .i64 n] w fun e w' => e = .returned (.agg #[.int .u64 r1, .int .u64 r2]) ∧ Quiet w w' := by
  unfold addr_Up.f at e
  split at e <;> rename_i c0
  · obtain ⟨rfl, rfl⟩ := Prod.mk.inj (Option.some.inj e)
    go_enter Tryz.func105, Tryz.ntmps105
    go_wp2_with fail
    refine bodyPost_ret (v := .agg #[.int .u64 h, .int .u64 l]) (by simp [results, Tryz.results105, go_sem]) rfl ⟨rfl, ?_⟩
    (repeat (first | exact Kept.refl _ _ | assumption | apply Kept.drew | apply Kept.drewN | apply Kept.alloc | refine Kept.setCell ?_ (fun hlt => absurd hlt (Nat.lt_irrefl _)) _ | refine Kept.andThen ?_ (by assumption) (fun _ _ h => h)))
  · split at e <;> rename_i c1
    · split at e <;> rename_i c2
      · obtain ⟨rfl, rfl⟩ := Prod.mk.inj (Option.some.inj e)
        go_enter Tryz.func105, Tryz.ntmps105
        go_wp2_with fail
        refine bodyPost_ret (v := .agg #[.int .u64 (shl .u64 l (wrap64 (n - 64))), .int .u64 0]) (by simp [results, Tryz.results105, go_sem, shl]) rfl ⟨rfl, ?_⟩
        (repeat (first | exact Kept.refl _ _ | assumption | apply Kept.drew | apply Kept.drewN | apply Kept.alloc | refine Kept.setCell ?_ (fun hlt => absurd hlt (Nat.lt_irrefl _)) _ | refine Kept.andThen ?_ (by assumption) (fun _ _ h => h)))
      · cases e
    · split at e <;> rename_i c2
      · split at e <;> rename_i c3
        · obtain ⟨rfl, rfl⟩ := Prod.mk.inj (Option.some.inj e)
          have n1 : 0 < n := by omega
          have n2 : n < 64 := by omega
          have e1 : shl .u64 h n = IntKind.u64.wrap (h * 2 ^ n.toNat) := shl_in h n1 n2
          have e2 : shl .u64 l n = IntKind.u64.wrap (l * 2 ^ n.toNat) := shl_in l n1 n2
          have e3 : shr .u64 l (wrap64 (64 - n)) = l / 2 ^ (64 - n).toNat := shr_out l n1 n2
          rw [e1, e2, e3]
          clear e1 e2 e3
          go_enter Tryz.func105, Tryz.ntmps105
          go_wp2_with fail
          go_region
          all_goals go_wp2_with fail
          refine bodyPost_ret (v := .agg #[.int .u64 (Go.bits .or .u64 (IntKind.u64.wrap (h * 2 ^ n.toNat)) (l / 2 ^ (64 - n).toNat)), .int .u64 (IntKind.u64.wrap (l * 2 ^ n.toNat))]) (by simp [results, Tryz.results105, go_sem]) rfl ⟨rfl, ?_⟩
          (repeat (first | exact Kept.refl _ _ | assumption | apply Kept.drew | apply Kept.drewN | apply Kept.alloc | refine Kept.setCell ?_ (fun hlt => absurd hlt (Nat.lt_irrefl _)) _ | refine Kept.andThen ?_ (by assumption) (fun _ _ h => h)))
        · cases e
      · cases e
def addr_Down.f (a0_0 : Int) (a0_1 : Int) (a1 : Int) : Option (Int × Int) := if a1 ≤ 0 then (some (a0_0, a0_1)) else (if a1 ≥ 64 then (if 0 ≤ (wrap64 (a1 - 64)) then (some (0, shr .u64 a0_0 (wrap64 (a1 - 64)))) else (none)) else (if 0 ≤ a1 then (if 0 ≤ (wrap64 (64 - a1)) then (some (shr .u64 a0_0 a1, Go.bits .or .u64 (shr .u64 a0_1 a1) (shl .u64 a0_0 (wrap64 (64 - a1))))) else (none)) else (none)))
set_option maxRecDepth 100000 in
theorem addr_Down.calls (h l n r1 r2 : Int) (w : World) (e : addr_Down.f h l n = some (r1, r2)) : Calls Tryz.prog 106 #[.agg #[.int .u64 h, .int .u64 l], .int .i64 n] w fun e w' => e = .returned (.agg #[.int .u64 r1, .int .u64 r2]) ∧ Quiet w w' := by
  unfold addr_Down.f at e
  split at e <;> rename_i c0
  · obtain ⟨rfl, rfl⟩ := Prod.mk.inj (Option.some.inj e)
    go_enter Tryz.func106, Tryz.ntmps106
    go_wp2_with fail
    refine bodyPost_ret (v := .agg #[.int .u64 h, .int .u64 l]) (by simp [results, Tryz.results106, go_sem]) rfl ⟨rfl, ?_⟩
    (repeat (first | exact Kept.refl _ _ | assumption | apply Kept.drew | apply Kept.drewN | apply Kept.alloc | refine Kept.setCell ?_ (fun hlt => absurd hlt (Nat.lt_irrefl _)) _ | refine Kept.andThen ?_ (by assumption) (fun _ _ h => h)))
  · split at e <;> rename_i c1
    · split at e <;> rename_i c2
      · obtain ⟨rfl, rfl⟩ := Prod.mk.inj (Option.some.inj e)
        go_enter Tryz.func106, Tryz.ntmps106
        go_wp2_with fail
        refine bodyPost_ret (v := .agg #[.int .u64 0, .int .u64 (shr .u64 h (wrap64 (n - 64)))]) (by simp [results, Tryz.results106, go_sem, shr]) rfl ⟨rfl, ?_⟩
        (repeat (first | exact Kept.refl _ _ | assumption | apply Kept.drew | apply Kept.drewN | apply Kept.alloc | refine Kept.setCell ?_ (fun hlt => absurd hlt (Nat.lt_irrefl _)) _ | refine Kept.andThen ?_ (by assumption) (fun _ _ h => h)))
      · cases e
    · split at e <;> rename_i c2
      · split at e <;> rename_i c3
        · obtain ⟨rfl, rfl⟩ := Prod.mk.inj (Option.some.inj e)
          have n1 : 0 < n := by omega
          have n2 : n < 64 := by omega
          have e1 : shr .u64 h n = h / 2 ^ n.toNat := shr_in h n1 n2
          have e2 : shr .u64 l n = l / 2 ^ n.toNat := shr_in l n1 n2
          have e3 : shl .u64 h (wrap64 (64 - n)) = IntKind.u64.wrap (h * 2 ^ (64 - n).toNat) := shl_out h n1 n2
          rw [e1, e2, e3]
          clear e1 e2 e3
          go_enter Tryz.func106, Tryz.ntmps106
          go_wp2_with fail
          go_region
          all_goals go_wp2_with fail
          refine bodyPost_ret (v := .agg #[.int .u64 (h / 2 ^ n.toNat), .int .u64 (Go.bits .or .u64 (l / 2 ^ n.toNat) (IntKind.u64.wrap (h * 2 ^ (64 - n).toNat)))]) (by simp [results, Tryz.results106, go_sem]) rfl ⟨rfl, ?_⟩
          (repeat (first | exact Kept.refl _ _ | assumption | apply Kept.drew | apply Kept.drewN | apply Kept.alloc | refine Kept.setCell ?_ (fun hlt => absurd hlt (Nat.lt_irrefl _)) _ | refine Kept.andThen ?_ (by assumption) (fun _ _ h => h)))
        · cases e
      · cases e

def addr_Clip.j0 : Nat → Int → Bool → Int → Int → Option (Int × Int × Int × Bool)
  | 0, _, _, _, _ => none
  | k + 1, x1, x11, x107000, x107001 => if x11 = true then (some (0, 0, 0, false)) else ((addr_Down.f x107000 x107001 (wrap64 (128 - x1))).bind fun bt108 => ((addr_Up.f bt108.1 bt108.2 (wrap64 (128 - x1))).bind fun bt110 => (some (bt110.1, bt110.2, x1, true))))
def addr_Clip.f (k : Nat) (a0_0 : Int) (a0_1 : Int) (a1 : Int) : Option (Int × Int × Int × Bool) := if a1 < 0 then (addr_Clip.j0 k a1 true a0_0 a0_1) else (addr_Clip.j0 k a1 (decide (a1 > 128)) a0_0 a0_1)
theorem clip_cases {k : Nat} {h l n r1 r2 r3 : Int} {r4 : Bool} (e : addr_Clip.f k h l n = some (r1, r2, r3, r4)) : ((n < 0 ∨ n > 128) ∧ r1 = 0 ∧ r2 = 0 ∧ r3 = 0 ∧ r4 = false) ∨ (0 ≤ n ∧ n ≤ 128 ∧ ∃ d1 d2, addr_Down.f h l (128 - n) = some (d1, d2) ∧ addr_Up.f d1 d2 (128 - n) = some (r1, r2) ∧ r3 = n ∧ r4 = true) := by
  unfold addr_Clip.f at e
  cases k with
  | zero => split at e <;> cases e
  | succ k =>
    have hs : addr_Clip.j0 (k + 1) n true h l = some (r1, r2, r3, r4) → r1 = 0 ∧ r2 = 0 ∧ r3 = 0 ∧ r4 = false := fun e => by
      simp only [addr_Clip.j0, if_true, Option.some.injEq, Prod.mk.injEq] at e
      obtain ⟨rfl, rfl, rfl, rfl⟩ := e
      exact ⟨rfl, rfl, rfl, rfl⟩
    split at e <;> rename_i c
    · exact .inl ⟨.inl c, hs e⟩
    · by_cases c1 : n > 128
      · rw [decide_eq_true c1] at e
        exact .inl ⟨.inr c1, hs e⟩
      · rw [decide_eq_false c1] at e
        have ew : wrap64 (128 - n) = 128 - n := by unfold wrap64; omega
        simp only [addr_Clip.j0, Bool.false_eq_true, if_false, ew] at e
        obtain ⟨⟨d1, d2⟩, hd, e⟩ := Option.bind_eq_some_iff.1 e
        obtain ⟨⟨u1, u2⟩, hu, e⟩ := Option.bind_eq_some_iff.1 e
        simp only [Option.some.injEq, Prod.mk.injEq] at e
        obtain ⟨rfl, rfl, rfl, rfl⟩ := e
        exact .inr ⟨by omega, by omega, d1, d2, hd, hu, rfl, rfl⟩
set_option maxRecDepth 100000 in
theorem addr_Clip.calls (k : Nat) (h l n r1 r2 r3 : Int) (r4 : Bool) (w : World) (e : addr_Clip.f k h l n = some (r1, r2, r3, r4)) : Calls Tryz.prog 92 #[.agg #[.int .u64 h, .int .u64 l], .int .i64 n] w fun e w' => e = .returned (.tuple #[.agg #[.int .u64 r1, .int .u64 r2, .int .i64 r3], .bool r4]) ∧ Quiet w w' := by
  rcases clip_cases e with ⟨hn, rfl, rfl, rfl, rfl⟩ | ⟨h1, h2, d1, d2, hd, hu, rfl, rfl⟩
  · clear e
    rcases hn with h1 | h1
    · go_enter Tryz.func92, Tryz.ntmps92
      go_wp2_with fail
      refine bodyPost_ret (v := .tuple #[.agg #[.int .u64 0, .int .u64 0, .int .i64 0], .bool false]) (by simp [results, Tryz.results92, go_sem]) rfl ⟨rfl, ?_⟩
      (repeat (first | exact Kept.refl _ _ | assumption | apply Kept.drew | apply Kept.drewN | apply Kept.alloc | refine Kept.setCell ?_ (fun hlt => absurd hlt (Nat.lt_irrefl _)) _ | refine Kept.andThen ?_ (by assumption) (fun _ _ h => h)))
    · have h2 : ¬ n < 0 := by omega
      go_enter Tryz.func92, Tryz.ntmps92
      go_wp2_with fail
      refine bodyPost_ret (v := .tuple #[.agg #[.int .u64 0, .int .u64 0, .int .i64 0], .bool false]) (by simp [results, Tryz.results92, go_sem]) rfl ⟨rfl, ?_⟩
      (repeat (first | exact Kept.refl _ _ | assumption | apply Kept.drew | apply Kept.drewN | apply Kept.alloc | refine Kept.setCell ?_ (fun hlt => absurd hlt (Nat.lt_irrefl _)) _ | refine Kept.andThen ?_ (by assumption) (fun _ _ h => h)))
  · have HD := Aside1.mk (fun W => addr_Down.calls _ _ _ _ _ W hd)
    have HU := Aside1.mk (fun W => addr_Up.calls _ _ _ _ _ W hu)
    have hn1 : ¬ r3 < 0 := by omega
    have hn2 : ¬ r3 > 128 := by omega
    clear e hd hu
    go_enter Tryz.func92, Tryz.ntmps92
    go_wp2_with (first
      | (go_at_call 106; refine (HD.out _).mono ?_; rintro e w1 ⟨rfl, hq1⟩)
      | (go_at_call 105; refine (HU.out _).mono ?_; rintro e w2 ⟨rfl, hq2⟩; have hb := blk (new1 w _ _) (hq1.andThen hq2 (fun _ _ h => h)); obtain ⟨c0, c1, c2, f0, f1, f2⟩ := at3 hb))
    obtain ⟨g0, g1, g2, _⟩ := at3 (put3 (x' := .int .u64 r1) (y' := .int .u64 r2) (z' := .int .i64 r3) hb)
    refine bodyPost_ret (v := .tuple #[.agg #[.int .u64 r1, .int .u64 r2, .int .i64 r3], .bool true]) (by simp [results, Tryz.results92, go_sem, g0, g1, g2]) rfl ⟨rfl, ?_⟩
    exact set3 ((((Kept.refl _ w).alloc _).alloc _).andThen (hq1.andThen hq2 (fun _ _ h => h)) (fun _ _ h => h)) (by simp)

def addr_Sound.f (k : Nat) (a0_0 : Int) (a0_1 : Int) (a0_2 : Int) : Option (Bool) := (addr_Clip.f k a0_0 a0_1 a0_2).bind fun bt113 => (if bt113.2.2.2 = true then (some ((bt113.1 == a0_0 && (bt113.2.1 == a0_1)) && (bt113.2.2.1 == a0_2))) else (some false))
set_option maxRecDepth 100000 in
theorem addr_Sound.calls (k : Nat) (h l n : Int) (r : Bool) (w : World) (e : addr_Sound.f k h l n = some r) : Calls Tryz.prog 74 #[.agg #[.int .u64 h, .int .u64 l, .int .i64 n]] w fun e w' => e = .returned (.bool r) ∧ Quiet w w' := by
  unfold addr_Sound.f at e
  obtain ⟨⟨p1, p2, p3, ok⟩, hc, e⟩ := Option.bind_eq_some_iff.1 e
  have HC := Aside1.mk (fun W => addr_Clip.calls _ _ _ _ _ _ _ _ W hc)
  have HE := Aside1.mk e
  clear hc e
  cases ok
  all_goals
    go_enter Tryz.func74, Tryz.ntmps74
    go_wp2_with (go_at_call 92; refine (HC.out _).mono ?_; rintro e w1 ⟨rfl, hq1⟩; have hb := blk (new0 w _) hq1; obtain ⟨c0, c1, c2, _⟩ := at3 hb; have hlt : w.heap.size < w1.heap.size := (Array.getElem?_eq_some_iff.1 hb).1)
    go_ret
    have := HE.out
    simp only [if_true, Bool.false_eq_true, if_false, Option.some.injEq] at this
    exact ⟨by rw [← this]; first | rfl | simp, by (repeat (first | exact Kept.refl _ _ | assumption | apply Kept.drew | apply Kept.drewN | apply Kept.alloc | refine Kept.setCell ?_ (fun hlt => absurd hlt (Nat.lt_irrefl _)) _ | refine Kept.andThen ?_ (by assumption) (fun _ _ h => h)))⟩

def addr_Span.f (k : Nat) (a0_0 : Int) (a0_1 : Int) (a0_2 : Int) : Option (Int × Int × Int × Int) := (addr_Sound.f k a0_0 a0_1 a0_2).bind fun t124 => (if t124 = true then ((addr_Down.f 18446744073709551615 18446744073709551615 a0_2).bind fun bt125 => (some (a0_0, a0_1, Go.bits .or .u64 a0_0 bt125.1, Go.bits .or .u64 a0_1 bt125.2))) else (some (0, 0, 0, 0)))
set_option maxRecDepth 100000 in
theorem addr_Span.calls (k : Nat) (h l n r1 r2 r3 r4 : Int) (w : World) (e : addr_Span.f k h l n = some (r1, r2, r3, r4)) : Calls Tryz.prog 96 #[.agg #[.int .u64 h, .int .u64 l, .int .i64 n]] w fun e w' => e = .returned (.agg #[.int .u64 r1, .int .u64 r2, .int .u64 r3, .int .u64 r4]) ∧ Quiet w w' := by
  unfold addr_Span.f at e
  obtain ⟨ok, hs, e⟩ := Option.bind_eq_some_iff.1 e
  have HS := Aside1.mk (fun W => addr_Sound.calls _ _ _ _ _ W hs)
  clear hs
  cases ok with
  | false =>
    rw [if_neg (by decide)] at e
    simp only [Option.some.injEq, Prod.mk.injEq] at e
    obtain ⟨rfl, rfl, rfl, rfl⟩ := e
    go_enter Tryz.func96, Tryz.ntmps96
    go_wp2_with (go_at_call 74; refine (HS.out _).mono ?_; rintro e w1 ⟨rfl, hq1⟩; have hb := blk (new1 w _ _) hq1; obtain ⟨c0, c1, c2, c3, f0, f1, f2, f3⟩ := at4 hb)
    obtain ⟨g0, g1, g2, g3, _⟩ := at4 (put4 (x' := .int .u64 0) (y' := .int .u64 0) (z' := .int .u64 0) (u' := .int .u64 0) hb)
    refine bodyPost_ret (v := .agg #[.int .u64 0, .int .u64 0, .int .u64 0, .int .u64 0]) (by simp [results, Tryz.results96, go_sem, g0, g1, g2, g3]) rfl ⟨rfl, ?_⟩
    exact set4 ((((Kept.refl _ w).alloc _).alloc _).andThen hq1 (fun _ _ h => h)) (by simp)
  | true =>
    rw [if_pos rfl] at e
    obtain ⟨⟨d1, d2⟩, hd, e⟩ := Option.bind_eq_some_iff.1 e
    simp only [Option.some.injEq, Prod.mk.injEq] at e
    obtain ⟨rfl, rfl, rfl, rfl⟩ := e
    have HD := Aside1.mk (fun W => addr_Down.calls _ _ _ _ _ W hd)
    clear hd
    go_enter Tryz.func96, Tryz.ntmps96
    go_wp2_with (first
      | (go_at_call 74; refine (HS.out _).mono ?_; rintro e w1 ⟨rfl, hq1⟩; have hb := blk (old1 w _ _) hq1; obtain ⟨c0, c1, c2, _⟩ := at3 hb)
      | (go_at_call 106; refine (HD.out _).mono ?_; rintro e w2 ⟨rfl, hq2⟩; have hb2 := blk hb hq2; obtain ⟨c0', c1', c2', _⟩ := at3 hb2; have hlt := (Array.getElem?_eq_some_iff.1 hb2).1; have hb3 := blk (new1 w _ _) (hq1.andThen hq2 (fun _ _ h => h)); obtain ⟨g0, g1, g2, g3, f0, f1, f2, f3⟩ := at4 hb3; have hlt3 := (Array.getElem?_eq_some_iff.1 hb3).1))
    obtain ⟨y0, y1, y2, y3, _⟩ := at4 (put4 (x' := .int .u64 h) (y' := .int .u64 l) (z' := .int .u64 (Go.bits .or .u64 h d1)) (u' := .int .u64 (Go.bits .or .u64 l d2)) hb3)
    refine bodyPost_ret (v := .agg #[.int .u64 h, .int .u64 l, .int .u64 (Go.bits .or .u64 h d1), .int .u64 (Go.bits .or .u64 l d2)]) (by simp [results, Tryz.results96, go_sem, y0, y1, y2, y3, hlt3]) rfl ⟨rfl, ?_⟩
    exact (set4 ((((Kept.refl _ w).alloc _).alloc _).andThen (hq1.andThen hq2 (fun _ _ h => h)) (fun _ _ h => h)) (by simp)).alloc _

def addr_Cmp.f (k : Nat) (h l h' l' : Int) : Option Int := some (cmpA h l h' l')
def addr_Has.f (k : Nat) (a0_0 : Int) (a0_1 : Int) (a0_2 : Int) (a1_0 : Int) (a1_1 : Int) : Option (Bool) := (addr_Span.f k a0_0 a0_1 a0_2).bind fun bt141 => ((addr_Sound.f k a0_0 a0_1 a0_2).bind fun t146 => (if t146 = true then ((addr_Cmp.f k bt141.1 bt141.2.1 a1_0 a1_1).bind fun t147 => (if t147 ≤ 0 then ((addr_Cmp.f k a1_0 a1_1 bt141.2.2.1 bt141.2.2.2).bind fun t148 => (some (decide (t148 ≤ 0)))) else (some false))) else (some false)))
set_option maxHeartbeats 1600000 in
set_option maxRecDepth 100000 in
theorem addr_Has.calls (k : Nat) (h l n x y : Int) (r : Bool) (w : World) (e : addr_Has.f k h l n x y = some r) : Calls Tryz.prog 97 #[.agg #[.int .u64 h, .int .u64 l, .int .i64 n], .agg #[.int .u64 x, .int .u64 y]] w fun e w' => e = .returned (.bool r) ∧ Quiet w w' := by
  unfold addr_Has.f addr_Cmp.f at e
  obtain ⟨⟨s1, s2, s3, s4⟩, hs, e⟩ := Option.bind_eq_some_iff.1 e
  obtain ⟨ok, hd, e⟩ := Option.bind_eq_some_iff.1 e
  have HS := Aside1.mk (fun W => addr_Span.calls _ _ _ _ _ _ _ _ W hs)
  have HD := Aside1.mk (fun W => addr_Sound.calls _ _ _ _ _ W hd)
  have hr : r = (ok && (decide (cmpA s1 s2 x y ≤ 0) && decide (cmpA x y s3 s4 ≤ 0))) := by
    simp only [Option.bind_some] at e
    cases ok with
    | false => rw [if_neg (by decide)] at e; rw [← Option.some.inj e]; rfl
    | true =>
      rw [if_pos rfl] at e
      split at e <;> rename_i c
      · rw [← Option.some.inj e, decide_eq_true c]; rfl
      · rw [← Option.some.inj e, decide_eq_false c]; rfl
  have HR := Aside1.mk hr
  clear hs hd e hr
  cases ok with
  | false =>
    go_enter Tryz.func97, Tryz.ntmps97
    go_wp2_with (first
      | (go_at_call 96; refine (HS.out _).mono ?_; rintro e w1 ⟨rfl, hq1⟩; have hp := blk (old1 w _ _) hq1; obtain ⟨p0, p1, p2, _⟩ := at3 hp; have lp := (Array.getElem?_eq_some_iff.1 hp).1)
      | (go_at_call 74; refine (HD.out _).mono ?_; rintro e w2 ⟨rfl, hq2⟩))
    go_ret
    exact ⟨by rw [HR.out]; rfl, by (repeat (first | exact Kept.refl _ _ | assumption | apply Kept.drew | apply Kept.drewN | apply Kept.alloc | refine Kept.setCell ?_ (fun hlt => absurd hlt (Nat.lt_irrefl _)) _ | refine Kept.andThen ?_ (by assumption) (fun _ _ h => h)))⟩
  | true =>
    have hcase : (cmpA s1 s2 x y ≤ 0 ∧ Aside1 (r = decide (cmpA x y s3 s4 ≤ 0))) ∨ (0 < cmpA s1 s2 x y ∧ Aside1 (r = false)) := by
      by_cases hc : cmpA s1 s2 x y ≤ 0
      · exact .inl ⟨hc, ⟨by rw [HR.out, decide_eq_true hc]; rfl⟩⟩
      · exact .inr ⟨by omega, ⟨by rw [HR.out, decide_eq_false hc]; rfl⟩⟩
    clear HR
    rcases hcase with ⟨hc, HR⟩ | ⟨hc, HR⟩
    all_goals
      go_enter Tryz.func97, Tryz.ntmps97
      go_wp2_with (first
        | (go_at_call 96; refine (HS.out _).mono ?_; rintro e w1 ⟨rfl, hq1⟩; have hp := blk (old1 w _ _) hq1; obtain ⟨p0, p1, p2, _⟩ := at3 hp; have lp := (Array.getElem?_eq_some_iff.1 hp).1)
        | (go_at_call 74; refine (HD.out _).mono ?_; rintro e w2 ⟨rfl, hq2⟩; have hs := blk (new0 w1 _) hq2; have ha := blk (new1 w _ _) (hq1.andThen (((Kept.refl _ w1).alloc _).andThen hq2 (fun _ _ h => h)) (fun _ _ h => h)); obtain ⟨z0, z1, z2, z3, _⟩ := at4 hs; obtain ⟨a0, a1, _⟩ := at2 ha)
        | (go_at_call 90; refine (addr_cmp _ _ _ _ _).mono ?_; rintro e w3 ⟨rfl, hg3⟩; have hq3 := hg3.quiet; try (have hs3 := blk hs hq3; have ha3 := blk ha hq3; obtain ⟨z0', z1', z2', z3', _⟩ := at4 hs3; obtain ⟨a0', a1', _⟩ := at2 ha3)))
      go_ret
      exact ⟨by rw [HR.out]; rfl, by (repeat (first | exact Kept.refl _ _ | assumption | apply Kept.drew | apply Kept.drewN | apply Kept.alloc | refine Kept.setCell ?_ (fun hlt => absurd hlt (Nat.lt_irrefl _)) _ | refine Kept.andThen ?_ (by assumption) (fun _ _ h => h)))⟩

def addr_Covers.f (k : Nat) (a0_0 : Int) (a0_1 : Int) (a0_2 : Int) (a1_0 : Int) (a1_1 : Int) (a1_2 : Int) : Option (Bool) := (addr_Span.f k a1_0 a1_1 a1_2).bind fun bt151 => ((addr_Sound.f k a1_0 a1_1 a1_2).bind fun t156 => (if t156 = true then ((addr_Has.f k a0_0 a0_1 a0_2 bt151.1 bt151.2.1).bind fun t157 => (if t157 = true then ((addr_Has.f k a0_0 a0_1 a0_2 bt151.2.2.1 bt151.2.2.2).bind fun t158 => (some t158)) else (some false))) else (some false)))
set_option maxHeartbeats 1600000 in
set_option maxRecDepth 100000 in
theorem addr_Covers.calls (k : Nat) (h l n x y m : Int) (r : Bool) (w : World) (e : addr_Covers.f k h l n x y m = some r) : Calls Tryz.prog 79 #[.agg #[.int .u64 h, .int .u64 l, .int .i64 n], .agg #[.int .u64 x, .int .u64 y, .int .i64 m]] w fun e w' => e = .returned (.bool r) ∧ Quiet w w' := by
  unfold addr_Covers.f at e
  obtain ⟨⟨s1, s2, s3, s4⟩, hs, e⟩ := Option.bind_eq_some_iff.1 e
  obtain ⟨ok, hd, e⟩ := Option.bind_eq_some_iff.1 e
  have HS := Aside1.mk (fun W => addr_Span.calls _ _ _ _ _ _ _ _ W hs)
  have HD := Aside1.mk (fun W => addr_Sound.calls _ _ _ _ _ W hd)
  clear hs hd
  cases ok with
  | false =>
    obtain rfl : false = r := by rw [if_neg (by decide)] at e; exact Option.some.inj e
    go_enter Tryz.func79, Tryz.ntmps79
    go_wp2_with (first
      | (go_at_call 96; refine (HS.out _).mono ?_; rintro e w1 ⟨rfl, hq1⟩; have hp := blk (new1 w _ _) hq1; obtain ⟨p0, p1, p2, _⟩ := at3 hp; have lp := (Array.getElem?_eq_some_iff.1 hp).1)
      | (go_at_call 74; refine (HD.out _).mono ?_; rintro e w2 ⟨rfl, hq2⟩))
    go_ret
    exact ⟨rfl, by (repeat (first | exact Kept.refl _ _ | assumption | apply Kept.drew | apply Kept.drewN | apply Kept.alloc | refine Kept.setCell ?_ (fun hlt => absurd hlt (Nat.lt_irrefl _)) _ | refine Kept.andThen ?_ (by assumption) (fun _ _ h => h)))⟩
  | true =>
    rw [if_pos rfl] at e
    obtain ⟨o1, h1, e⟩ := Option.bind_eq_some_iff.1 e
    have H1 := Aside1.mk (fun W => addr_Has.calls _ _ _ _ _ _ _ W h1)
    cases o1 with
    | false =>
      obtain rfl : false = r := by rw [if_neg (by decide)] at e; exact Option.some.inj e
      go_enter Tryz.func79, Tryz.ntmps79
      go_wp2_with (first
        | (go_at_call 96; refine (HS.out _).mono ?_; rintro e w1 ⟨rfl, hq1⟩; have hp := blk (new1 w _ _) hq1; obtain ⟨p0, p1, p2, _⟩ := at3 hp; have lp := (Array.getElem?_eq_some_iff.1 hp).1)
        | (go_at_call 74; refine (HD.out _).mono ?_; rintro e w2 ⟨rfl, hq2⟩; have hs := blk (new0 w1 _) hq2; have ha := blk (old1 w _ _) (hq1.andThen (((Kept.refl _ w1).alloc _).andThen hq2 (fun _ _ h => h)) (fun _ _ h => h)); obtain ⟨z0, z1, z2, z3, _⟩ := at4 hs; obtain ⟨a0, a1, a2, _⟩ := at3 ha))
      refine (H1.out _).mono ?_
      rintro e w3 ⟨rfl, hq3⟩
      go_wp2_with fail
      go_ret
      exact ⟨rfl, by (repeat (first | exact Kept.refl _ _ | assumption | apply Kept.drew | apply Kept.drewN | apply Kept.alloc | refine Kept.setCell ?_ (fun hlt => absurd hlt (Nat.lt_irrefl _)) _ | refine Kept.andThen ?_ (by assumption) (fun _ _ h => h)))⟩
    | true =>
      obtain ⟨o2, h2, e⟩ := Option.bind_eq_some_iff.1 e
      obtain rfl : o2 = r := Option.some.inj e
      have H2 := Aside1.mk (fun W => addr_Has.calls _ _ _ _ _ _ _ W h2)
      go_enter Tryz.func79, Tryz.ntmps79
      go_wp2_with (first
        | (go_at_call 96; refine (HS.out _).mono ?_; rintro e w1 ⟨rfl, hq1⟩; have hp := blk (new1 w _ _) hq1; obtain ⟨p0, p1, p2, _⟩ := at3 hp; have lp := (Array.getElem?_eq_some_iff.1 hp).1)
        | (go_at_call 74; refine (HD.out _).mono ?_; rintro e w2 ⟨rfl, hq2⟩; have hs := blk (new0 w1 _) hq2; have ha := blk (old1 w _ _) (hq1.andThen (((Kept.refl _ w1).alloc _).andThen hq2 (fun _ _ h => h)) (fun _ _ h => h)); obtain ⟨z0, z1, z2, z3, _⟩ := at4 hs; obtain ⟨a0, a1, a2, _⟩ := at3 ha))
      refine (H1.out _).mono ?_
      rintro e w3 ⟨rfl, hq3⟩
      obtain ⟨z0', z1', z2', z3', _⟩ := at4 (blk hs hq3)
      obtain ⟨a0', a1', a2', _⟩ := at3 (blk ha hq3)
      go_wp2_with fail
      refine (H2.out _).mono ?_
      rintro e w4 ⟨rfl, hq4⟩
      go_wp2_with fail
      go_ret
      exact ⟨rfl, by (repeat (first | exact Kept.refl _ _ | assumption | apply Kept.drew | apply Kept.drewN | apply Kept.alloc | refine Kept.setCell ?_ (fun hlt => absurd hlt (Nat.lt_irrefl _)) _ | refine Kept.andThen ?_ (by assumption) (fun _ _ h => h)))⟩

def addr_Meets.f (k : Nat) (a0_0 : Int) (a0_1 : Int) (a0_2 : Int) (a1_0 : Int) (a1_1 : Int) (a1_2 : Int) : Option (Bool) := (addr_Covers.f k a0_0 a0_1 a0_2 a1_0 a1_1 a1_2).bind fun t161 => (if t161 = true then (some true) else ((addr_Covers.f k a1_0 a1_1 a1_2 a0_0 a0_1 a0_2).bind fun t162 => (some t162)))
set_option maxRecDepth 100000 in
theorem addr_Meets.calls (k : Nat) (h l n x y m : Int) (r : Bool) (w : World) (e : addr_Meets.f k h l n x y m = some r) : Calls Tryz.prog 67 #[.agg #[.int .u64 h, .int .u64 l, .int .i64 n], .agg #[.int .u64 x, .int .u64 y, .int .i64 m]] w fun e w' => e = .returned (.bool r) ∧ Quiet w w' := by
  unfold addr_Meets.f at e
  obtain ⟨o1, h1, e⟩ := Option.bind_eq_some_iff.1 e
  have H1 := Aside1.mk (fun W => addr_Covers.calls _ _ _ _ _ _ _ _ W h1)
  cases o1 with
  | true =>
    obtain rfl : true = r := by rw [if_pos rfl] at e; exact Option.some.inj e
    go_enter Tryz.func67, Tryz.ntmps67
    go_wp2_with fail
    refine (H1.out _).mono ?_
    rintro e w1 ⟨rfl, hq1⟩
    go_wp2_with fail
    go_ret
    exact ⟨rfl, by (repeat (first | exact Kept.refl _ _ | assumption | apply Kept.drew | apply Kept.drewN | apply Kept.alloc | refine Kept.setCell ?_ (fun hlt => absurd hlt (Nat.lt_irrefl _)) _ | refine Kept.andThen ?_ (by assumption) (fun _ _ h => h)))⟩
  | false =>
    rw [if_neg (by decide)] at e
    obtain ⟨o2, h2, e⟩ := Option.bind_eq_some_iff.1 e
    obtain rfl : o2 = r := Option.some.inj e
    have H2 := Aside1.mk (fun W => addr_Covers.calls _ _ _ _ _ _ _ _ W h2)
    go_enter Tryz.func67, Tryz.ntmps67
    go_wp2_with fail
    refine (H1.out _).mono ?_
    rintro e w1 ⟨rfl, hq1⟩
    obtain ⟨a0, a1, a2, _⟩ := at3 (blk (old1 w _ _) hq1)
    obtain ⟨b0, b1, b2, _⟩ := at3 (blk (new1 w _ _) hq1)
    go_wp2_with fail
    refine (H2.out _).mono ?_
    rintro e w2 ⟨rfl, hq2⟩
    go_wp2_with fail
    go_ret
    exact ⟨rfl, by (repeat (first | exact Kept.refl _ _ | assumption | apply Kept.drew | apply Kept.drewN | apply Kept.alloc | refine Kept.setCell ?_ (fun hlt => absurd hlt (Nat.lt_irrefl _)) _ | refine Kept.andThen ?_ (by assumption) (fun _ _ h => h)))⟩
end Go.Proofs.YtmegbllhidkmoaaGreat.Tb

-- BY wip/tools/gprint.py, over the kit's printer: machine-made text of this session
namespace Go.Proofs.YtmegbllhidkmoaaGreat.Tb
open Go.RowKit Go.Proofs.YtmegbllhidkmoaaGreatW.PrintWords Go.Proofs.YtmegbllhidkmoaaGreatW.PrintLast Go.Proofs.YtmegbllhidkmoaaGreatW.PrintMore
attribute [local go_sem] max2_int min2_int max_two min_two max_three min_three max_four min_four   -- for this text's walks alone
attribute [local go_sem] fldA_0 fldA_1 fldP_0 fldP_1
set_option linter.unusedVariables false
set_option linter.unusedSimpArgs false

theorem eqA30 (d : Nat) (w : World) (x0 y0 : Int) (x1 y1 : Int) (x2 y2 : Int) (x3 y3 : Int) (x4 y4 : Int) (x5 y5 : ByteArray) (x6 y6 : Int) (x7 y7 : Int) :
    (Op.equalIn (d + 4) 30 (.agg #[.int .i64 x0, .int .u64 x1, .int .u64 x2, .int .i64 x3, .int .i64 x4, .string x5, .int .u32 x6, .int .i64 x7]) (.agg #[.int .i64 y0, .int .u64 y1, .int .u64 y2, .int .i64 y3, .int .i64 y4, .string y5, .int .u32 y6, .int .i64 y7])).run Tryz.prog w = .ok (x0 == y0 && (((x1 == y1 && (x2 == y2)) && (x3 == y3)) && (x4 == y4 && (x5.toList == y5.toList && (x6 == y6 && (x7 == y7)))))) w := by
  refine eqA_of Tryz.underlying30 (by kernel_rfl) ?_
  refine eqf_cons (by rfl) (by go_simp; rfl) (by go_simp; rfl) (by go_simp) ?_
  refine eqf_cons (by rfl) (by go_simp) (by go_simp) (eqA27 (d + 0) w _ _ _ _ _ _) ?_
  refine eqf_cons (by rfl) (by go_simp; rfl) (by go_simp; rfl) (by go_simp) ?_
  refine eqf_cons (by rfl) (by go_simp; rfl) (by go_simp; rfl) (by go_simp) ?_
  refine eqf_cons (by rfl) (by go_simp; rfl) (by go_simp; rfl) (by go_simp) ?_
  exact eqf_last (by rfl) (by go_simp; rfl) (by go_simp; rfl) (by go_simp)
end Go.Proofs.YtmegbllhidkmoaaGreat.Tb
