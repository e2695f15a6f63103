/- errors.Is at a sentinel: nil, itself, a joined error whose first one it is. After the kit's SentryIs. strconv.Itoa of a digit, errors.New, errors.Join of two. Houses. -/
import Derived.Test.YtiocomefkckbfaaDoorZ3
import Derived.Test.YtiocomefkckbfaaDoorChecked
import Derived.LaidEql
import Derived.Stop.Asserts
import Derived.RowKitTokens
import Derived.Test.YtiocomefkckbfaaDoorZ5
import Derived.Laws.MakeOwn
import Derived.Deep.AppendLies
import Derived.RangeFuncBox
set_option linter.unusedSimpArgs false
set_option linter.unusedVariables false
namespace Go.Proofs.YtiocomefkckbfaaDoor
open Go.RowKit Go.Extern.Stop Go.Stop Go.Extern

theorem isTypeOf (v : Value) (w : World) : (Extern.ReflectliteType.typeOf #[.iface 110 v]).run Tryd.prog w = .ok (.iface 114 (.agg #[.pointer (some ⟨4, 110, none⟩)])) w := by kernel_rfl
noncomputable def cmpE : Array Value → Sem Value := Extern.ReflectliteType.method fun t => do Rtype.noPackHeld "Comparable" t; pure (.bool (← typeInfo t).comparable)
theorem isComparable (w : World) : (cmpE #[.agg #[.pointer (some ⟨4, 110, none⟩)]]).run Tryd.prog w = .ok (.bool true) w := by kernel_rfl
theorem comp_call (w : World) : (callFunc 115 #[.agg #[.pointer (some ⟨4, 110, none⟩)]]).run Tryd.prog w = .ok (.value (.bool true)) w := by
  have h := @run_callFunc_extern Tryd.prog 115 _ cmpE Tryd.func115 (by kernel_rfl) (by kernel_rfl) (by kernel_rfl) (by kernel_rfl)
  rw [h, isComparable]; rfl
theorem isComp : (Tryd.prog.info? 110).map (·.comparable) = some true := by kernel_rfl
theorem isSize : (Tryd.prog.info? 112).map (·.size) = some 1 := by kernel_rfl
theorem noIsJ (v : Value) (xT : TypeId) (w : World) : (Instr.typeAssert (.iface 107 v) xT 116 true).run Tryd.prog w = .ok (.tuple #[.nilIface, .bool false]) w := run_typeAssert_lacksB Tryd.underlying116 (by kernel_rfl) (by kernel_rfl) v xT w
theorem noUnwrapJ (v : Value) (xT : TypeId) (w : World) : (Instr.typeAssert (.iface 107 v) xT 119 true).run Tryd.prog w = .ok (.tuple #[.nilIface, .bool false]) w := run_typeAssert_lacksB Tryd.underlying119 (by kernel_rfl) (by kernel_rfl) v xT w
theorem hasUnwrapsJ (v : Value) (xT : TypeId) (w : World) : (Instr.typeAssert (.iface 107 v) xT 121 true).run Tryd.prog w = .ok (.tuple #[.iface 107 v, .bool true]) w := run_typeAssert_hasB Tryd.underlying121 (by kernel_rfl) v xT w

theorem isMethodComparable (v : Value) (w : World) : (Go.method 270 114 v "Comparable").run Tryd.prog w = .ok (115, v) w := by kernel_rfl
theorem isMethodUnwrap (v : Value) (w : World) : (Go.method 270 107 v "Unwrap").run Tryd.prog w = .ok (110, v) w := by kernel_rfl

/-- errors.is(x, x). -/
theorem is1_same (a : Addr) (w : World) :
    Calls Tryd.prog 79 #[.iface 110 (.pointer (some a)), .iface 110 (.pointer (some a)), .bool true] w fun e w' => e = .returned (.bool true) ∧ w' = w := by
  obtain ⟨i, hi, hcmp⟩ := Option.map_eq_some_iff.1 isComp
  obtain ⟨j, hj, hjs⟩ := Option.map_eq_some_iff.1 isSize
  have heq := run_eql_iface_ptr_same (P := Tryd.prog) w a Tryd.underlying92 Tryd.underlying110 hi hcmp hj
  go_enter Tryd.func79, Tryd.ntmps79
  go_wp2
  refine wp_loop_rounds 1 ?_
  rw [rounds_succ]
  go_wp2
  go_ret
  exact ⟨rfl, rfl⟩
/-- errors.is(a joined error whose first is x, x). -/
theorem is1_join (pb g n c : Nat) (a : Addr) (w : World) (hn : 0 < n) (h1 : w.cell? ⟨pb, 0, none⟩ = some (.slice (some ⟨g, 0, none⟩) n c)) (h2 : w.cell? ⟨g, 0, none⟩ = some (.iface 110 (.pointer (some a)))) :
    Calls Tryd.prog 79 #[.iface 107 (.pointer (some ⟨pb, 0, none⟩)), .iface 110 (.pointer (some a)), .bool true] w fun e w' => e = .returned (.bool true) ∧ w' = w := by
  have nI := noIsJ
  have nU := noUnwrapJ
  have hU := hasUnwrapsJ
  have mU := isMethodUnwrap
  have hty := run_eql_iface_types (P := Tryd.prog) 107 110 (.pointer (some ⟨pb, 0, none⟩)) (.pointer (some a)) Tryd.underlying92 (by decide) w
  go_enter Tryd.func79, Tryd.ntmps79
  go_wp2
  refine wp_loop_rounds 1 ?_
  rw [rounds_succ]
  go_wp2_with (first | (go_at_call 79; refine (is1_same _ _).mono ?_; rintro e w' ⟨rfl, rfl⟩) | go_in)
  refine wp_loop_rounds 1 ?_
  rw [rounds_succ]
  go_wp2_with (first | (go_at_call 79; refine (is1_same _ _).mono ?_; rintro e w' ⟨rfl, rfl⟩) | go_in)
  go_ret
  exact ⟨rfl, rfl⟩
/-- errors.Is(nil, x). -/
theorem is_nil (a : Addr) (w : World) :
    Calls Tryd.prog 65 #[.nilIface, .iface 110 (.pointer (some a))] w fun e w' => e = .returned (.bool false) ∧ w' = w := by
  have hn := run_eql_iface_nil_left (P := Tryd.prog) w 110 (.pointer (some a)) Tryd.underlying92
  go_enter Tryd.func65, Tryd.ntmps65
  go_wp2
  go_ret
  exact ⟨rfl, rfl⟩
/-- errors.Is(a joined error whose first is x, x). -/
theorem is_join (pb g n c : Nat) (a : Addr) (w : World) (hn : 0 < n) (h1 : w.cell? ⟨pb, 0, none⟩ = some (.slice (some ⟨g, 0, none⟩) n c)) (h2 : w.cell? ⟨g, 0, none⟩ = some (.iface 110 (.pointer (some a)))) :
    Calls Tryd.prog 65 #[.iface 107 (.pointer (some ⟨pb, 0, none⟩)), .iface 110 (.pointer (some a))] w fun e w' => e = .returned (.bool true) ∧ w' = w := by
  have h8 := @run_callFunc_extern Tryd.prog 78 _ Extern.ReflectliteType.typeOf Tryd.func78 (by kernel_rfl) (by kernel_rfl) (by kernel_rfl) (by kernel_rfl)
  have h32 := comp_call
  have tT := isTypeOf
  have mR := isMethodComparable
  go_enter Tryd.func65, Tryd.ntmps65
  go_wp2_with (first | (go_at_call 79; refine (is1_join _ _ _ _ _ _ hn h1 h2).mono ?_; rintro e w' ⟨rfl, rfl⟩) | go_in)
  go_ret
  exact ⟨rfl, rfl⟩
end Go.Proofs.YtiocomefkckbfaaDoor
set_option linter.unusedSimpArgs false
set_option linter.unusedVariables false
namespace Go.Proofs.YtiocomefkckbfaaDoor
open Go.RowKit

theorem Itoa_ex (k : Nat) (hk : k < 10) (w : World) :
    Calls Tryd.prog 57 #[.int .i64 k] w fun e w' => ∃ s : ByteArray, s.size ≤ 10 ∧ e = .returned (.string s) ∧ w' = w := by
  have h1 : (k : Int) < 100 := by omega
  have h2 : (k : Int) < 10 := by omega
  have h3 : (0 : Int) ≤ k := by omega
  go_enter Tryd.func57, Tryd.ntmps57
  go_wp2
  go_ret
  exact ⟨_, by simp [ByteArray.size_extract]; omega, rfl, rfl⟩
theorem New_any (s : ByteArray) (w : World) :
    Calls Tryd.prog 77 #[.string s] w fun e w' => e = .returned (.iface 110 (.pointer (some ⟨w.heap.size, 0, none⟩))) ∧ w' = w.alloc (.cells #[.string s] 112) := by
  go_enter Tryd.func77, Tryd.ntmps77
  go_wp2
  go_ret
  exact ⟨rfl, rfl⟩
theorem infoErr : (Tryd.prog.info? 92).map (fun i => (i.zero, i.size, i.bytes)) = some (some .nilIface, 1, 16) := by kernel_rfl
theorem make_err (w : World) : (Instr.makeSlice 106 (.int .i64 0) (.int .i64 2)).run Tryd.prog w = .ok (.slice (some ⟨w.heap.size, 0, none⟩) 0 2) (w.alloc (.cells #[.nilIface, .nilIface] 92)) := by
  obtain ⟨j0, hj, hy0, hy1, hy2⟩ := info_parts infoErr
  have := run_make (P := Tryd.prog) w 106 92 j0 .nilIface Tryd.underlying106 hj hy0 .i64 .i64 0 2 (by omega) (by omega) (by rw [hy2]; omega) (by omega)
  rw [hy1] at this
  have e : madeCells Value.nilIface.cells (Int.toNat 2 * 1) = #[.nilIface, .nilIface] := by kernel_rfl
  rw [e] at this
  exact this
set_option maxRecDepth 100000 in
theorem Join_any (g : Nat) (v0 v1 : Value) (w : World) (h0 : w.cell? ⟨g, 0, none⟩ = some (.iface 110 v0)) (h1 : w.cell? ⟨g, 1, none⟩ = some (.iface 110 v1)) :
    Calls Tryd.prog 76 #[.slice (some ⟨g, 0, none⟩) 2 2] w fun e w' => ∃ pb g2 n c, e = .returned (.iface 107 (.pointer (some ⟨pb, 0, none⟩))) ∧ 0 < n ∧ w'.cell? ⟨pb, 0, none⟩ = some (.slice (some ⟨g2, 0, none⟩) n c) ∧ w'.cell? ⟨g2, 0, none⟩ = some (.iface 110 v0) ∧ Below w.heap.size w w' := by
  have hm := make_err w
  have hg := World.block_lt_of_cell? _ _ h0
  dsimp only at hg
  go_enter Tryd.func76, Tryd.ntmps76
  go_wp2
  refine wp_loop_rounds 3 ?_
  rw [rounds_succ]
  go_wp2
  rw [rounds_succ]
  go_wp2
  rw [rounds_succ]
  go_wp2
  clear hm
  have n1 : w.heap.size + 1 ≠ w.heap.size := by omega
  have n2 : w.heap.size ≠ g := by omega
  have n3 : w.heap.size + 1 ≠ g := by omega
  have old : ∀ (A1 A2 A3 : Array Value) (T1 T2 T3 : TypeId), (((w.alloc (.cells A1 T1)).alloc (.cells A2 T2)).alloc (.cells A3 T3)).cell? ⟨g, 1, none⟩ = some (.iface 110 v1) := fun A1 A2 A3 T1 T2 T3 =>
    (((((Below.refl w.heap.size w).alloc (Nat.le_refl _) _).alloc (by simp) _).alloc (by simp; omega) _).cell (by dsimp only; omega)).trans h1
  refine wp_loop_rounds 3 ?_
  rw [rounds_succ]
  go_wp2
  rw [rounds_succ]
  go_wp2
  rw [rounds_succ]
  go_wp2
  go_ret
  have two : ∀ (A B C D : Array Value) (T1 T2 T3 T4 : TypeId), ((((w.alloc (.cells A T1)).alloc (.cells B T2)).alloc (.cells C T3)).alloc (.cells D T4)).cell? ⟨w.heap.size + 1, 0, none⟩ = B[0]? := fun A B C D T1 T2 T3 T4 => by
    have h1 := ((Below.refl (w.heap.size + 2) ((w.alloc (.cells A T1)).alloc (.cells B T2))).alloc (by simp) (.cells C T3)).alloc (by simp) (.cells D T4)
    have h2 := World.cell?_alloc_new (w.alloc (.cells A T1)) B T2 0
    rw [World.size_alloc] at h2
    exact (h1.cell (by dsimp only; omega)).trans h2
  have one : ∀ (A B C D : Array Value) (T1 T2 T3 T4 : TypeId), ((((w.alloc (.cells A T1)).alloc (.cells B T2)).alloc (.cells C T3)).alloc (.cells D T4)).cell? ⟨w.heap.size, 0, none⟩ = A[0]? := fun A B C D T1 T2 T3 T4 => by
    have h1 := (((Below.refl (w.heap.size + 1) (w.alloc (.cells A T1))).alloc (by simp) (.cells B T2)).alloc (by simp) (.cells C T3)).alloc (by simp) (.cells D T4)
    exact (h1.cell (by dsimp only; omega)).trans (World.cell?_alloc_new w A T1 0)
  refine ⟨w.heap.size + 1, w.heap.size, 2, 2, rfl, by omega, two _ _ _ _ _ _ _ _, one _ _ _ _ _ _ _ _, ?_⟩
  exact ((((Below.refl _ _).alloc (Nat.le_refl _) _).alloc (by simp) _).alloc (by simp; omega) _).alloc (by simp; omega) _
end Go.Proofs.YtiocomefkckbfaaDoor
set_option linter.unusedSimpArgs false
set_option linter.unusedVariables false
namespace Go.Proofs.YtiocomefkckbfaaDoor
open Go.RowKit

theorem isHouse_any (n : Int) (w : World) :
    Calls Tryd.prog 39 #[.int .i64 n] w fun e w' => e = .returned (.bool (decide (Bts n 1 5))) ∧ Below w.heap.size w w' := by
  go_enter Tryd.func39, Tryd.ntmps39
  go_wp2
  all_goals (go_ret; refine ⟨ret_bool ?_, Below.refl _ _⟩; refine Bool.eq_iff_iff.2 ?_; (try simp); try (unfold Bts; first | (simp [*]; done) | (simp [*]; intros; omega) | omega))
theorem l3House_any (n : Int) (w : World) :
    Calls Tryd.prog 42 #[.int .i64 n] w fun e w' => e = .returned (.bool (decide (Bts n 1 5))) ∧ Below w.heap.size w w' := by
  go_enter Tryd.func42, Tryd.ntmps42
  go_wp2_with (go_at_call 53; refine (l6In_any _ _ _ _).mono ?_; rintro e w1 ⟨rfl, hb1⟩)
  go_ret
  exact ⟨rfl, hb1⟩
theorem isMark_any (n : Int) (w : World) :
    Calls Tryd.prog 75 #[.int .i64 n] w fun e w' => e = .returned (.bool (decide (Bts n 1 9))) ∧ Below w.heap.size w w' := by
  go_enter Tryd.func75, Tryd.ntmps75
  go_wp2
  all_goals (go_ret; refine ⟨ret_bool ?_, Below.refl _ _⟩; refine Bool.eq_iff_iff.2 ?_; (try simp); try (unfold Bts; first | (simp [*]; done) | (simp [*]; intros; omega) | omega))
end Go.Proofs.YtiocomefkckbfaaDoor
