/- The text of a path, by both. -/
import Derived.Test.YtgegmampnpgcaaaDoorPt
import Derived.Test.YtgegmampnpgcaaaDoorEf
import Derived.Shelf.Strings.OnBuilder
import Derived.Laws.BytesArg
namespace Go.Proofs
open Go.Shelf
def YtgegmampnpgcaaaDoor.laysJoin_ren : Go.Shelf.Ren := ⟨fun | 156 => 55 | 165 => 80 | 166 => 81 | 169 => 82 | 240 => 88 | 241 => 89 | 276 => 94 | 277 => 95 | n => n, fun | 31 => 73 | 9 => 9 | 3 => 3 | 4 => 4 | 0 => 0 | 20 => 20 | 72 => 100 | 76 => 102 | 70 => 98 | 37 => 22 | 75 => 67 | 127 => 126 | 164 => 133 | 5 => 5 | 80 => 104 | n => n, fun | n => n⟩
theorem YtgegmampnpgcaaaDoor.laysJoin : Go.Proofs.Lays.n156 Tryd.prog YtgegmampnpgcaaaDoor.laysJoin_ren := {
  mixed := by kernel_rfl
  f156 := Tryd.func55.trans (congrArg some (by kernel_rfl))
  f165 := Tryd.func80.trans (congrArg some (by kernel_rfl))
  f166 := Tryd.func81.trans (congrArg some (by kernel_rfl))
  f169 := Tryd.func82.trans (congrArg some (by kernel_rfl))
  f240 := Tryd.func88.trans (congrArg some (by kernel_rfl))
  f241 := Tryd.func89.trans (congrArg some (by kernel_rfl))
  f276 := Tryd.func94.trans (congrArg some (by kernel_rfl))
  f277 := Tryd.func95.trans (congrArg some (by kernel_rfl))
  t0 := Tryd.underlying0
  a0 := Tryd.isAgg0
  z0 := Tryd.sizeOf0
  v0 := Tryd.zeroValue0
  t3 := Tryd.underlying3
  a3 := Tryd.isAgg3
  z3 := Tryd.sizeOf3
  v3 := Tryd.zeroValue3
  t4 := Tryd.underlying4
  a4 := Tryd.isAgg4
  z4 := Tryd.sizeOf4
  v4 := Tryd.zeroValue4
  t9 := Tryd.underlying9
  a9 := Tryd.isAgg9
  z9 := Tryd.sizeOf9
  v9 := Tryd.zeroValue9
  t20 := Tryd.underlying20
  a20 := Tryd.isAgg20
  z20 := Tryd.sizeOf20
  v20 := Tryd.zeroValue20
  t31 := Tryd.underlying73
  a31 := Tryd.isAgg73
  z31 := Tryd.sizeOf73
  v31 := Tryd.zeroValue73
  t37 := Tryd.underlying22
  a37 := Tryd.isAgg22
  z37 := Tryd.sizeOf22
  v37 := Tryd.zeroValue22
  t70 := Tryd.underlying98
  a70 := Tryd.isAgg98
  z70 := Tryd.sizeOf98
  v70 := Tryd.zeroValue98
  t72 := Tryd.underlying100
  a72 := Tryd.isAgg100
  z72 := Tryd.sizeOf100
  v72 := Tryd.zeroValue100
  t75 := Tryd.underlying67
  a75 := Tryd.isAgg67
  z75 := Tryd.sizeOf67
  v75 := Tryd.zeroValue67
  t76 := Tryd.underlying102
  a76 := Tryd.isAgg102
  z76 := Tryd.sizeOf102
  v76 := Tryd.zeroValue102
  t127 := Tryd.underlying126
  a127 := Tryd.isAgg126
  z127 := Tryd.sizeOf126
  v127 := Tryd.zeroValue126
  t164 := Tryd.underlying133
  a164 := Tryd.isAgg133
  z164 := Tryd.sizeOf133
  v164 := Tryd.zeroValue133 }
theorem YtgegmampnpgcaaaDoor.extraJoin : Builder.Extra Tryd.prog YtgegmampnpgcaaaDoor.laysJoin_ren := {
  sizeBuilder := by kernel_rfl
  liesBuilder := by kernel_rfl
  t5 := by kernel_rfl
  a5 := by intro w; kernel_rfl
  z5 := by intro w; kernel_rfl
  v5 := by intro w; kernel_rfl
  infoByte := by kernel_rfl
  cellsByte := by kernel_rfl
  sizeByte := by kernel_rfl
  neB5 := by decide }
end Go.Proofs
set_option linter.unusedSimpArgs false
set_option linter.unusedVariables false
namespace Go.Proofs.YtgegmampnpgcaaaDoor
open Go.RowKit Go.Shelf

def encS (s : ByteArray) : List Value := [.string s]
theorem infoStr : (Tryd.prog.info? 9).map (fun i => (i.zero, i.size, i.bytes)) = some (some (.string ⟨#[]⟩), 1, 16) := by kernel_rfl
theorem ba_app (l m : List UInt8) : (⟨l.toArray⟩ ++ ⟨m.toArray⟩ : ByteArray) = ⟨(l ++ m).toArray⟩ := by
  apply ByteArray.ext
  simp [ByteArray.data_append]
theorem Join_full (g n c : Nat) (xs : List ByteArray) (w : World) (hn : xs.length = n) (hnc : n ≤ c) (h9 : n ≤ 9) (hs : ∀ x ∈ xs, x.size ≤ 9) (hx : Rows w (.slice (some ⟨g, 0, none⟩) n c) 1 encS xs) (hg : g < w.heap.size)
    (hl : (Lib.join (xs.map (·.data.toList)) [45]).length ≤ 1000) :
    Calls Tryd.prog 55 #[.slice (some ⟨g, 0, none⟩) n c, .string ⟨#[45]⟩] w fun e w' => e = .returned (.string ⟨(Lib.join (xs.map (·.data.toList)) [45]).toArray⟩) ∧ Below w.heap.size w w' := by
  subst hn
  exact Any.strings_Join laysJoin extraJoin g 0 c xs ⟨#[45]⟩ w (fun j x hj => by have := hx.get hj (j := 0) rfl; simpa using this) hg (by omega) hnc (by
    show (Lib.join (xs.map (·.data.toList)) [45]).length ≤ _
    omega)
set_option maxRecDepth 100000 in
theorem l6Dec_d (n : Int) (hd : UInt8) (w : World) (h0 : 0 ≤ n) (h9 : n ≤ 9) (hs : strOfNums [48 + n] = tI n) :
    Calls Tryd.prog 56 #[.int .i64 n] w fun e w' => e = .returned (.string (tI n)) ∧ Below w.heap.size w w' := by
  have hc := run_convert_bytes_arg (P := Tryd.prog) (w.alloc (.cells #[.int .u8 (48 + n)] 5)) 22 5 Tryd.underlying22 Tryd.underlying5 w.heap.size 0 1 1 [48 + n] rfl (fun i hi => by
    obtain rfl : i = 0 := by omega
    simp) 9 Tryd.underlying9
  rw [hs] at hc
  clear hs
  go_enter Tryd.func56, Tryd.ntmps56
  go_wp2
  go_ret
  exact ⟨rfl, (Below.refl _ _).alloc (Nat.le_refl _) _⟩
theorem l6Dec_any (h : Int) (hb : Bts h 1 5) (w : World) :
    Calls Tryd.prog 56 #[.int .i64 h] w fun e w' => e = .returned (.string (tI h)) ∧ Below w.heap.size w w' := by
  refine l6Dec_d h 0 w (by have := hb.1; omega) (by have := hb.2; omega) ?_
  rcases five hb with rfl | rfl | rfl | rfl | rfl
  all_goals (unfold tI; rw [itoa_nat (by omega), Lib.decDigits, dif_pos (by decide)]; rfl)
end Go.Proofs.YtgegmampnpgcaaaDoor
