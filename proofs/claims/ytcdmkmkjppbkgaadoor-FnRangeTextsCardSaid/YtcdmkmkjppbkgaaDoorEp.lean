/- strconv.Itoa: the shelf's contract, laid at this dump; a range's text. -/
import Derived.Test.YtcdmkmkjppbkgaaDoorChecked
import Derived.Shelf.Strconv.Itoa3
import Derived.Shelf.Lay
import Derived.Ground.NamesProg
import Derived.Lib.AppendIntMem
namespace Go.Proofs
open Go.Shelf
shelf_lay LaysM.n171 Nm 171 at Tryd as YtcdmkmkjppbkgaaDoor.laysItoa
end Go.Proofs
set_option linter.unusedSimpArgs false
set_option linter.unusedVariables false
namespace Go.Proofs.YtcdmkmkjppbkgaaDoor
open Go.RowKit Go.Shelf

abbrev Tab (w : World) : Prop := Lib.TabIs Tryd.prog w "internal/strconv.uint64pow10" .u64 Lib.pow10Tab
theorem Itoa_full (n : Int) (h0 : -9223372036854775808 ≤ n) (h1 : n ≤ 9223372036854775807) (w : World) (htab : Tab w) :
    Calls Tryd.prog 56 #[.int .i64 n] w fun e w' => e = .returned (.string ⟨(Lib.itoa n).toArray⟩) ∧ Below w.heap.size w w' :=
  (Any.strconv_Itoa laysItoa n h0 h1 w htab).mono fun _ _ ⟨h, k, os, e⟩ => ⟨h, by rw [e]; exact Lib.below_grow _ w (Nat.le_refl _) k os⟩
end Go.Proofs.YtcdmkmkjppbkgaaDoor
