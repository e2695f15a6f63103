/- Nets: NetNone of the program. errors.Is at a sentinel: nil, itself, a joined error whose first one it is. After the kit's SentryIs. strconv.Itoa of a digit, errors.New, errors.Join of two. -/
import Derived.Test.YtdemclnhdggmcaaDoorZ8
import Derived.Test.YtdemclnhdggmcaaDoorZ3
import Derived.Test.YtdemclnhdggmcaaDoorChecked
import Derived.LaidEql
import Derived.Stop.Asserts
import Derived.RowKitTokens
import Derived.Laws.MakeOwn
import Derived.Deep.AppendLies
import Derived.RangeFuncBox
set_option linter.unusedSimpArgs false
set_option linter.unusedVariables false
namespace Go.Proofs.YtdemclnhdggmcaaDoor
open Go.RowKit Go.Maps Go.WideMaps

def zarrV (n : Nat) : Array Value := madeCells #[.slice none 0 0] n
theorem zarrV_list (n : Nat) : (zarrV n).toList = List.replicate n (.slice none 0 0) := toList_madeCells_one _ _
theorem zarrV_at {n j : Nat} (h : j < n) : (zarrV n)[j]? = some (.slice none 0 0) := by
  rw [← Array.getElem?_toList, zarrV_list]; simp [h]
theorem make_rows (n : Nat) (hn : n ≤ 1000) (w : World) : (Instr.makeSlice 22 (.int .i64 n) (.int .i64 n)).run Tryd.prog w = .ok (.slice (some ⟨w.heap.size, 0, none⟩) n n) (w.alloc (.cells (zarrV n) 28)) := by
  obtain ⟨j0, hj, hy0, hy1, hy2⟩ := info_parts infoRow
  have := run_make (P := Tryd.prog) w 22 28 j0 (.slice none 0 0) Tryd.underlying22 hj hy0 .i64 .i64 n n (by omega) (Int.le_refl _) (by rw [hy2]; omega) (by omega)
  rw [hy1] at this
  simpa [zarrV, Value.cells] using this
theorem own_zarrV (w : World) (B n : Nat) (hB : B ≤ w.heap.size) (hn : n ≤ 1000000) : Own 28 (w.alloc (.cells (zarrV n) 28)) B (.slice (some ⟨w.heap.size, 0, none⟩) n n) 1 encV (List.replicate n (.slice none 0 0)) := by
  have := World.ownsRow_lit (e := 28) (base := B) (size := 1) w (zarrV n) n hB (le_maxLen (by omega)) (by unfold zarrV; rw [size_madeCells]; omega)
  rw [zarrV_list] at this
  unfold Own
  rw [← flat_encV, List.length_replicate]
  exact this
theorem OwnV.set {E : TypeId} {w : World} {B g n cap : Nat} {vs : List Value} (h : Own E w B (.slice (some ⟨g, 0, none⟩) n cap) 1 encV vs) (i : Nat) (x : Value) : Own E (w.setCell ⟨g, i, none⟩ x) B (.slice (some ⟨g, 0, none⟩) n cap) 1 encV (vs.set i x) := by
  obtain ⟨ao, c, e⟩ := Own.sl h
  injection e with e1 e2 e3
  subst e2
  have := (World.ownsRow.stored h i x).1
  unfold Own
  rw [List.length_set, ← flat_encV]
  rwa [← flat_encV] at this
/-- Home's own way put into a row of none. -/
theorem none_own {w : World} {B g n k : Nat} {home : Int} (h : Own 28 w B (.slice (some ⟨g, 0, none⟩) n n) 1 encV (List.replicate n (.slice none 0 0))) (hk : home = (k : Int) + 1) (hkn : k < n) :
    GOwn shI 28 ((w.alloc (.cells #[.int .i64 home] 3)).setCell ⟨g, k, none⟩ (.slice (some ⟨w.heap.size, 0, none⟩) 1 1)) B (.slice (some ⟨g, 0, none⟩) n n) (noneL home n) := by
  have hg := h.lt g rfl
  have hge := h.ge g rfl
  have hO := OwnV.set (h.alloc (.cells #[.int .i64 home] 3)) k (.slice (some ⟨w.heap.size, 0, none⟩) 1 1)
  have hI : Ints ((w.alloc (.cells #[.int .i64 home] 3)).setCell ⟨g, k, none⟩ (.slice (some ⟨w.heap.size, 0, none⟩) 1 1)) (.slice (some ⟨w.heap.size, 0, none⟩) 1 1) [home] :=
    Rows.setO ((Own.lit 3 w w.heap.size 1 encI [home] (fun _ => rfl) (Nat.le_refl _) (by simp)).rows (fun _ => rfl)) (by simp [Value.ownBlock]; omega) _
  refine ⟨_, hO, by rw [List.length_set, List.length_replicate, noneL_len], fun i s hs => ?_⟩
  have hin : i < n := by have := (List.getElem?_eq_some_iff.1 hs).1; rwa [noneL_len] at this
  rw [noneL_at hin] at hs
  injection hs with hs
  subst hs
  by_cases hik : i = k
  · subst hik
    refine ⟨.slice (some ⟨w.heap.size, 0, none⟩) 1 1, by rw [List.getElem?_set_self (by simpa using hkn)], by show Ints _ _ _; unfold noneR; rw [if_pos hk.symm]; exact hI, fun u hu => ?_⟩
    rw [List.mem_singleton.1 hu]
    exact ⟨fun g' h1 h2 => by simp [Value.ownBlock] at h1 h2; omega, fun g' h1 => by simp [Value.ownBlock] at h1; simp; omega⟩
  · refine ⟨.slice none 0 0, by rw [List.getElem?_set_ne (fun e => hik e.symm)]; simp [hin], by show Ints _ _ _; unfold noneR; rw [if_neg (by omega)]; exact Rows.nil _ _ _ (Nat.zero_le _) _ _, fun u hu => ?_⟩
    rw [List.mem_singleton.1 hu]
    exact ⟨fun g' h1 _ => by simp [Value.ownBlock] at h1, fun g' h1 => by simp [Value.ownBlock] at h1⟩
end Go.Proofs.YtdemclnhdggmcaaDoor
set_option linter.unusedSimpArgs false
set_option linter.unusedVariables false
namespace Go.Proofs.YtdemclnhdggmcaaDoor
open Go.RowKit Go.Extern.Stop Go.Stop Go.Extern

theorem isTypeOf (v : Value) (w : World) : (Extern.ReflectliteType.typeOf #[.iface 72 v]).run Tryd.prog w = .ok (.iface 76 (.agg #[.pointer (some ⟨4, 72, none⟩)])) w := by kernel_rfl
noncomputable def cmpE : Array Value → Sem Value := Extern.ReflectliteType.method fun t => do Rtype.noPackHeld "Comparable" t; pure (.bool (← typeInfo t).comparable)
theorem isComparable (w : World) : (cmpE #[.agg #[.pointer (some ⟨4, 72, none⟩)]]).run Tryd.prog w = .ok (.bool true) w := by kernel_rfl
theorem comp_call (w : World) : (callFunc 74 #[.agg #[.pointer (some ⟨4, 72, none⟩)]]).run Tryd.prog w = .ok (.value (.bool true)) w := by
  have h := @run_callFunc_extern Tryd.prog 74 _ cmpE Tryd.func74 (by kernel_rfl) (by kernel_rfl) (by kernel_rfl) (by kernel_rfl)
  rw [h, isComparable]; rfl
theorem isComp : (Tryd.prog.info? 72).map (·.comparable) = some true := by kernel_rfl
theorem isSize : (Tryd.prog.info? 74).map (·.size) = some 1 := by kernel_rfl
theorem noIsJ (v : Value) (xT : TypeId) (w : World) : (Instr.typeAssert (.iface 69 v) xT 78 true).run Tryd.prog w = .ok (.tuple #[.nilIface, .bool false]) w := run_typeAssert_lacksB Tryd.underlying78 (by kernel_rfl) (by kernel_rfl) v xT w
theorem noUnwrapJ (v : Value) (xT : TypeId) (w : World) : (Instr.typeAssert (.iface 69 v) xT 81 true).run Tryd.prog w = .ok (.tuple #[.nilIface, .bool false]) w := run_typeAssert_lacksB Tryd.underlying81 (by kernel_rfl) (by kernel_rfl) v xT w
theorem hasUnwrapsJ (v : Value) (xT : TypeId) (w : World) : (Instr.typeAssert (.iface 69 v) xT 83 true).run Tryd.prog w = .ok (.tuple #[.iface 69 v, .bool true]) w := run_typeAssert_hasB Tryd.underlying83 (by kernel_rfl) v xT w

theorem isMethodComparable (v : Value) (w : World) : (Go.method 235 76 v "Comparable").run Tryd.prog w = .ok (74, v) w := by kernel_rfl
theorem isMethodUnwrap (v : Value) (w : World) : (Go.method 235 69 v "Unwrap").run Tryd.prog w = .ok (69, v) w := by kernel_rfl

/-- errors.is(x, x). -/
theorem is1_same (a : Addr) (w : World) :
    Calls Tryd.prog 38 #[.iface 72 (.pointer (some a)), .iface 72 (.pointer (some a)), .bool true] w fun e w' => e = .returned (.bool true) ∧ w' = w := by
  obtain ⟨i, hi, hcmp⟩ := Option.map_eq_some_iff.1 isComp
  obtain ⟨j, hj, hjs⟩ := Option.map_eq_some_iff.1 isSize
  have heq := run_eql_iface_ptr_same (P := Tryd.prog) w a Tryd.underlying56 Tryd.underlying72 hi hcmp hj
  go_enter Tryd.func38, Tryd.ntmps38
  go_wp2
  refine wp_loop_rounds 1 ?_
  rw [rounds_succ]
  go_wp2
  go_ret
  exact ⟨rfl, rfl⟩
/-- errors.is(a joined error whose first is x, x). -/
theorem is1_join (pb g n c : Nat) (a : Addr) (w : World) (hn : 0 < n) (h1 : w.cell? ⟨pb, 0, none⟩ = some (.slice (some ⟨g, 0, none⟩) n c)) (h2 : w.cell? ⟨g, 0, none⟩ = some (.iface 72 (.pointer (some a)))) :
    Calls Tryd.prog 38 #[.iface 69 (.pointer (some ⟨pb, 0, none⟩)), .iface 72 (.pointer (some a)), .bool true] w fun e w' => e = .returned (.bool true) ∧ w' = w := by
  have nI := noIsJ
  have nU := noUnwrapJ
  have hU := hasUnwrapsJ
  have mU := isMethodUnwrap
  have hty := run_eql_iface_types (P := Tryd.prog) 69 72 (.pointer (some ⟨pb, 0, none⟩)) (.pointer (some a)) Tryd.underlying56 (by decide) w
  go_enter Tryd.func38, Tryd.ntmps38
  go_wp2
  refine wp_loop_rounds 1 ?_
  rw [rounds_succ]
  go_wp2_with (first | (go_at_call 38; refine (is1_same _ _).mono ?_; rintro e w' ⟨rfl, rfl⟩) | go_in)
  refine wp_loop_rounds 1 ?_
  rw [rounds_succ]
  go_wp2_with (first | (go_at_call 38; refine (is1_same _ _).mono ?_; rintro e w' ⟨rfl, rfl⟩) | go_in)
  go_ret
  exact ⟨rfl, rfl⟩
/-- errors.Is(nil, x). -/
theorem is_nil (a : Addr) (w : World) :
    Calls Tryd.prog 31 #[.nilIface, .iface 72 (.pointer (some a))] w fun e w' => e = .returned (.bool false) ∧ w' = w := by
  have hn := run_eql_iface_nil_left (P := Tryd.prog) w 72 (.pointer (some a)) Tryd.underlying56
  go_enter Tryd.func31, Tryd.ntmps31
  go_wp2
  go_ret
  exact ⟨rfl, rfl⟩
/-- errors.Is(a joined error whose first is x, x). -/
theorem is_join (pb g n c : Nat) (a : Addr) (w : World) (hn : 0 < n) (h1 : w.cell? ⟨pb, 0, none⟩ = some (.slice (some ⟨g, 0, none⟩) n c)) (h2 : w.cell? ⟨g, 0, none⟩ = some (.iface 72 (.pointer (some a)))) :
    Calls Tryd.prog 31 #[.iface 69 (.pointer (some ⟨pb, 0, none⟩)), .iface 72 (.pointer (some a))] w fun e w' => e = .returned (.bool true) ∧ w' = w := by
  have h8 := @run_callFunc_extern Tryd.prog 37 _ Extern.ReflectliteType.typeOf Tryd.func37 (by kernel_rfl) (by kernel_rfl) (by kernel_rfl) (by kernel_rfl)
  have h32 := comp_call
  have tT := isTypeOf
  have mR := isMethodComparable
  go_enter Tryd.func31, Tryd.ntmps31
  go_wp2_with (first | (go_at_call 38; refine (is1_join _ _ _ _ _ _ hn h1 h2).mono ?_; rintro e w' ⟨rfl, rfl⟩) | go_in)
  go_ret
  exact ⟨rfl, rfl⟩
end Go.Proofs.YtdemclnhdggmcaaDoor
set_option linter.unusedSimpArgs false
set_option linter.unusedVariables false
namespace Go.Proofs.YtdemclnhdggmcaaDoor
open Go.RowKit

theorem Itoa_ex (k : Nat) (hk : k < 10) (w : World) :
    Calls Tryd.prog 36 #[.int .i64 k] w fun e w' => ∃ s : ByteArray, s.size ≤ 10 ∧ e = .returned (.string s) ∧ w' = w := by
  have h1 : (k : Int) < 100 := by omega
  have h2 : (k : Int) < 10 := by omega
  have h3 : (0 : Int) ≤ k := by omega
  go_enter Tryd.func36, Tryd.ntmps36
  go_wp2
  go_ret
  exact ⟨_, by simp [ByteArray.size_extract]; omega, rfl, rfl⟩
theorem New_any (s : ByteArray) (w : World) :
    Calls Tryd.prog 35 #[.string s] w fun e w' => e = .returned (.iface 72 (.pointer (some ⟨w.heap.size, 0, none⟩))) ∧ w' = w.alloc (.cells #[.string s] 74) := by
  go_enter Tryd.func35, Tryd.ntmps35
  go_wp2
  go_ret
  exact ⟨rfl, rfl⟩
theorem infoErr : (Tryd.prog.info? 56).map (fun i => (i.zero, i.size, i.bytes)) = some (some .nilIface, 1, 16) := by kernel_rfl
theorem make_err (w : World) : (Instr.makeSlice 68 (.int .i64 0) (.int .i64 2)).run Tryd.prog w = .ok (.slice (some ⟨w.heap.size, 0, none⟩) 0 2) (w.alloc (.cells #[.nilIface, .nilIface] 56)) := by
  obtain ⟨j0, hj, hy0, hy1, hy2⟩ := info_parts infoErr
  have := run_make (P := Tryd.prog) w 68 56 j0 .nilIface Tryd.underlying68 hj hy0 .i64 .i64 0 2 (by omega) (by omega) (by rw [hy2]; omega) (by omega)
  rw [hy1] at this
  have e : madeCells Value.nilIface.cells (Int.toNat 2 * 1) = #[.nilIface, .nilIface] := by kernel_rfl
  rw [e] at this
  exact this
set_option maxRecDepth 100000 in
theorem Join_any (g : Nat) (v0 v1 : Value) (w : World) (h0 : w.cell? ⟨g, 0, none⟩ = some (.iface 72 v0)) (h1 : w.cell? ⟨g, 1, none⟩ = some (.iface 72 v1)) :
    Calls Tryd.prog 34 #[.slice (some ⟨g, 0, none⟩) 2 2] w fun e w' => ∃ pb g2 n c, e = .returned (.iface 69 (.pointer (some ⟨pb, 0, none⟩))) ∧ 0 < n ∧ w'.cell? ⟨pb, 0, none⟩ = some (.slice (some ⟨g2, 0, none⟩) n c) ∧ w'.cell? ⟨g2, 0, none⟩ = some (.iface 72 v0) ∧ Below w.heap.size w w' := by
  have hm := make_err w
  have hg := World.block_lt_of_cell? _ _ h0
  dsimp only at hg
  go_enter Tryd.func34, Tryd.ntmps34
  go_wp2
  refine wp_loop_rounds 3 ?_
  rw [rounds_succ]
  go_wp2
  rw [rounds_succ]
  go_wp2
  rw [rounds_succ]
  go_wp2
  clear hm
  have n1 : w.heap.size + 1 ≠ w.heap.size := by omega
  have n2 : w.heap.size ≠ g := by omega
  have n3 : w.heap.size + 1 ≠ g := by omega
  have old : ∀ (A1 A2 A3 : Array Value) (T1 T2 T3 : TypeId), (((w.alloc (.cells A1 T1)).alloc (.cells A2 T2)).alloc (.cells A3 T3)).cell? ⟨g, 1, none⟩ = some (.iface 72 v1) := fun A1 A2 A3 T1 T2 T3 =>
    (((((Below.refl w.heap.size w).alloc (Nat.le_refl _) _).alloc (by simp) _).alloc (by simp; omega) _).cell (by dsimp only; omega)).trans h1
  refine wp_loop_rounds 3 ?_
  rw [rounds_succ]
  go_wp2
  rw [rounds_succ]
  go_wp2
  rw [rounds_succ]
  go_wp2
  go_ret
  have two : ∀ (A B C D : Array Value) (T1 T2 T3 T4 : TypeId), ((((w.alloc (.cells A T1)).alloc (.cells B T2)).alloc (.cells C T3)).alloc (.cells D T4)).cell? ⟨w.heap.size + 1, 0, none⟩ = B[0]? := fun A B C D T1 T2 T3 T4 => by
    have h1 := ((Below.refl (w.heap.size + 2) ((w.alloc (.cells A T1)).alloc (.cells B T2))).alloc (by simp) (.cells C T3)).alloc (by simp) (.cells D T4)
    have h2 := World.cell?_alloc_new (w.alloc (.cells A T1)) B T2 0
    rw [World.size_alloc] at h2
    exact (h1.cell (by dsimp only; omega)).trans h2
  have one : ∀ (A B C D : Array Value) (T1 T2 T3 T4 : TypeId), ((((w.alloc (.cells A T1)).alloc (.cells B T2)).alloc (.cells C T3)).alloc (.cells D T4)).cell? ⟨w.heap.size, 0, none⟩ = A[0]? := fun A B C D T1 T2 T3 T4 => by
    have h1 := (((Below.refl (w.heap.size + 1) (w.alloc (.cells A T1))).alloc (by simp) (.cells B T2)).alloc (by simp) (.cells C T3)).alloc (by simp) (.cells D T4)
    exact (h1.cell (by dsimp only; omega)).trans (World.cell?_alloc_new w A T1 0)
  refine ⟨w.heap.size + 1, w.heap.size, 2, 2, rfl, by omega, two _ _ _ _ _ _ _ _, one _ _ _ _ _ _ _ _, ?_⟩
  exact ((((Below.refl _ _).alloc (Nat.le_refl _) _).alloc (by simp) _).alloc (by simp; omega) _).alloc (by simp; omega) _
end Go.Proofs.YtdemclnhdggmcaaDoor
