/- The library's contracts of strings.Builder's writers, laid at this translation by hand (the one command does not lay them: the cut comes to interface{} by another way). -/
import Derived.Test.YtmegbllhidkmoaaDoorShelf
import Derived.Shelf.Strings.BuilderK
namespace Go.Proofs
open Go.Shelf Go.RowKit
def Tryd.bld : Ren := { f := fun x => match x with | 166 => 50 | 167 => 49 | 169 => 51 | 240 => 71 | 276 => 94 | n => n, t := fun x => match x with | 70 => 72 | 72 => 74 | 37 => 64 | 75 => 67 | 80 => 78 | 164 => 108 | 127 => 93 | n => n, g := fun x => x }
theorem Tryd.bldX : Builder.Extra Tryd.prog Tryd.bld := by
  constructor
  · constructor <;> kernel_rfl
  · kernel_rfl
  · intro w; kernel_rfl
  · intro w; kernel_rfl
  · intro w; kernel_rfl
  · kernel_rfl
  · kernel_rfl
  · kernel_rfl
  · decide
set_option maxRecDepth 100000 in
theorem Tryd.bld166 : Lays.n166 Tryd.prog Tryd.bld := by
  constructor <;> first | (intro w; kernel_rfl) | kernel_rfl
set_option maxRecDepth 100000 in
theorem Tryd.bld167 : Lays.n167 Tryd.prog Tryd.bld := by
  constructor <;> first | (intro w; kernel_rfl) | kernel_rfl
theorem Tryd.Builder_WriteByte_k (B b : Nat) (bs : List Value) (c : Int) (w : World) (h : Lib.IsBuilderF 74 5 B b bs w) (hlen : bs.length + 1 ≤ 140737488355328) (hBw : B ≤ w.heap.size) :
    Calls Tryd.prog 49 #[.pointer (some ⟨b, 0, none⟩), .int .u8 c] w fun e w' => e = .returned .nilIface ∧ (Lib.BuilderAtF 74 5 B b (.pointer (some ⟨b, 0, none⟩)) (bs ++ [.int .u8 c]) w' ∧ Below B w w' ∧ Lib.OthersKept 5 (some b) w w') := Any.Builder_WriteByte_k Tryd.bld167 Tryd.bldX B b bs c w h hlen hBw
theorem Tryd.Builder_WriteString_k (B b : Nat) (bs : List Value) (s : ByteArray) (w : World) (h : Lib.IsBuilderF 74 5 B b bs w) (hlen : bs.length + s.size ≤ 140737488355328) (hBw : B ≤ w.heap.size) :
    Calls Tryd.prog 50 #[.pointer (some ⟨b, 0, none⟩), .string s] w fun e w' => e = .returned (.tuple #[.int .i64 s.size, .nilIface]) ∧ (Lib.BuilderAtF 74 5 B b (.pointer (some ⟨b, 0, none⟩)) (bs ++ Lib.strCells s) w' ∧ Below B w w' ∧ Lib.OthersKept 5 (some b) w w') := Any.Builder_WriteString_k Tryd.bld166 Tryd.bldX B b bs s w h hlen hBw
end Go.Proofs
