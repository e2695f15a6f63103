/- errors.Is at a sentinel: nil, itself, a joined error whose first one it is. After the kit's SentryIs. strconv.Itoa of a digit, errors.New, errors.Join of two. Numbers in a row; houses. -/
import Derived.Test.YtonojegnbcgnaaaDoorZ3
import Derived.Test.YtonojegnbcgnaaaDoorChecked
import Derived.LaidEql
import Derived.Stop.Asserts
import Derived.RowKitTokens
import Derived.Laws.MakeOwn
import Derived.Deep.AppendLies
import Derived.RangeFuncBox
import Derived.Test.YtonojegnbcgnaaaDoorZ4
set_option linter.unusedSimpArgs false
set_option linter.unusedVariables false
namespace Go.Proofs.YtonojegnbcgnaaaDoor
open Go.RowKit Go.Extern.Stop Go.Stop Go.Extern

theorem isTypeOf (v : Value) (w : World) : (Extern.ReflectliteType.typeOf #[.iface 147 v]).run Tryd.prog w = .ok (.iface 151 (.agg #[.pointer (some ⟨4, 147, none⟩)])) w := by kernel_rfl
noncomputable def cmpE : Array Value → Sem Value := Extern.ReflectliteType.method fun t => do Rtype.noPackHeld "Comparable" t; pure (.bool (← typeInfo t).comparable)
theorem isComparable (w : World) : (cmpE #[.agg #[.pointer (some ⟨4, 147, none⟩)]]).run Tryd.prog w = .ok (.bool true) w := by kernel_rfl
theorem comp_call (w : World) : (callFunc 162 #[.agg #[.pointer (some ⟨4, 147, none⟩)]]).run Tryd.prog w = .ok (.value (.bool true)) w := by
  have h := @run_callFunc_extern Tryd.prog 162 _ cmpE Tryd.func162 (by kernel_rfl) (by kernel_rfl) (by kernel_rfl) (by kernel_rfl)
  rw [h, isComparable]; rfl
theorem isComp : (Tryd.prog.info? 147).map (·.comparable) = some true := by kernel_rfl
theorem isSize : (Tryd.prog.info? 149).map (·.size) = some 1 := by kernel_rfl
theorem noIsJ (v : Value) (xT : TypeId) (w : World) : (Instr.typeAssert (.iface 144 v) xT 153 true).run Tryd.prog w = .ok (.tuple #[.nilIface, .bool false]) w := run_typeAssert_lacksB Tryd.underlying153 (by kernel_rfl) (by kernel_rfl) v xT w
theorem noUnwrapJ (v : Value) (xT : TypeId) (w : World) : (Instr.typeAssert (.iface 144 v) xT 156 true).run Tryd.prog w = .ok (.tuple #[.nilIface, .bool false]) w := run_typeAssert_lacksB Tryd.underlying156 (by kernel_rfl) (by kernel_rfl) v xT w
theorem hasUnwrapsJ (v : Value) (xT : TypeId) (w : World) : (Instr.typeAssert (.iface 144 v) xT 158 true).run Tryd.prog w = .ok (.tuple #[.iface 144 v, .bool true]) w := run_typeAssert_hasB Tryd.underlying158 (by kernel_rfl) v xT w

theorem isMethodComparable (v : Value) (w : World) : (Go.method 311 151 v "Comparable").run Tryd.prog w = .ok (162, v) w := by kernel_rfl
theorem isMethodUnwrap (v : Value) (w : World) : (Go.method 311 144 v "Unwrap").run Tryd.prog w = .ok (157, v) w := by kernel_rfl

/-- errors.is(x, x). -/
theorem is1_same (a : Addr) (w : World) :
    Calls Tryd.prog 114 #[.iface 147 (.pointer (some a)), .iface 147 (.pointer (some a)), .bool true] w fun e w' => e = .returned (.bool true) ∧ w' = w := by
  obtain ⟨i, hi, hcmp⟩ := Option.map_eq_some_iff.1 isComp
  obtain ⟨j, hj, hjs⟩ := Option.map_eq_some_iff.1 isSize
  have heq := run_eql_iface_ptr_same (P := Tryd.prog) w a Tryd.underlying116 Tryd.underlying147 hi hcmp hj
  go_enter Tryd.func114, Tryd.ntmps114
  go_wp2
  refine wp_loop_rounds 1 ?_
  rw [rounds_succ]
  go_wp2
  go_ret
  exact ⟨rfl, rfl⟩
/-- errors.is(a joined error whose first is x, x). -/
theorem is1_join (pb g n c : Nat) (a : Addr) (w : World) (hn : 0 < n) (h1 : w.cell? ⟨pb, 0, none⟩ = some (.slice (some ⟨g, 0, none⟩) n c)) (h2 : w.cell? ⟨g, 0, none⟩ = some (.iface 147 (.pointer (some a)))) :
    Calls Tryd.prog 114 #[.iface 144 (.pointer (some ⟨pb, 0, none⟩)), .iface 147 (.pointer (some a)), .bool true] w fun e w' => e = .returned (.bool true) ∧ w' = w := by
  have nI := noIsJ
  have nU := noUnwrapJ
  have hU := hasUnwrapsJ
  have mU := isMethodUnwrap
  have hty := run_eql_iface_types (P := Tryd.prog) 144 147 (.pointer (some ⟨pb, 0, none⟩)) (.pointer (some a)) Tryd.underlying116 (by decide) w
  go_enter Tryd.func114, Tryd.ntmps114
  go_wp2
  refine wp_loop_rounds 1 ?_
  rw [rounds_succ]
  go_wp2_with (first | (go_at_call 114; refine (is1_same _ _).mono ?_; rintro e w' ⟨rfl, rfl⟩) | go_in)
  refine wp_loop_rounds 1 ?_
  rw [rounds_succ]
  go_wp2_with (first | (go_at_call 114; refine (is1_same _ _).mono ?_; rintro e w' ⟨rfl, rfl⟩) | go_in)
  go_ret
  exact ⟨rfl, rfl⟩
/-- errors.Is(nil, x). -/
theorem is_nil (a : Addr) (w : World) :
    Calls Tryd.prog 92 #[.nilIface, .iface 147 (.pointer (some a))] w fun e w' => e = .returned (.bool false) ∧ w' = w := by
  have hn := run_eql_iface_nil_left (P := Tryd.prog) w 147 (.pointer (some a)) Tryd.underlying116
  go_enter Tryd.func92, Tryd.ntmps92
  go_wp2
  go_ret
  exact ⟨rfl, rfl⟩
/-- errors.Is(a joined error whose first is x, x). -/
theorem is_join (pb g n c : Nat) (a : Addr) (w : World) (hn : 0 < n) (h1 : w.cell? ⟨pb, 0, none⟩ = some (.slice (some ⟨g, 0, none⟩) n c)) (h2 : w.cell? ⟨g, 0, none⟩ = some (.iface 147 (.pointer (some a)))) :
    Calls Tryd.prog 92 #[.iface 144 (.pointer (some ⟨pb, 0, none⟩)), .iface 147 (.pointer (some a))] w fun e w' => e = .returned (.bool true) ∧ w' = w := by
  have h8 := @run_callFunc_extern Tryd.prog 113 _ Extern.ReflectliteType.typeOf Tryd.func113 (by kernel_rfl) (by kernel_rfl) (by kernel_rfl) (by kernel_rfl)
  have h32 := comp_call
  have tT := isTypeOf
  have mR := isMethodComparable
  go_enter Tryd.func92, Tryd.ntmps92
  go_wp2_with (first | (go_at_call 114; refine (is1_join _ _ _ _ _ _ hn h1 h2).mono ?_; rintro e w' ⟨rfl, rfl⟩) | go_in)
  go_ret
  exact ⟨rfl, rfl⟩
end Go.Proofs.YtonojegnbcgnaaaDoor
set_option linter.unusedSimpArgs false
set_option linter.unusedVariables false
namespace Go.Proofs.YtonojegnbcgnaaaDoor
open Go.RowKit

theorem Itoa_ex (k : Nat) (hk : k < 10) (w : World) :
    Calls Tryd.prog 112 #[.int .i64 k] w fun e w' => ∃ s : ByteArray, s.size ≤ 10 ∧ e = .returned (.string s) ∧ w' = w := by
  have h1 : (k : Int) < 100 := by omega
  have h2 : (k : Int) < 10 := by omega
  have h3 : (0 : Int) ≤ k := by omega
  go_enter Tryd.func112, Tryd.ntmps112
  go_wp2
  go_ret
  exact ⟨_, by simp [ByteArray.size_extract]; omega, rfl, rfl⟩
theorem New_any (s : ByteArray) (w : World) :
    Calls Tryd.prog 111 #[.string s] w fun e w' => e = .returned (.iface 147 (.pointer (some ⟨w.heap.size, 0, none⟩))) ∧ w' = w.alloc (.cells #[.string s] 149) := by
  go_enter Tryd.func111, Tryd.ntmps111
  go_wp2
  go_ret
  exact ⟨rfl, rfl⟩
theorem infoErr : (Tryd.prog.info? 116).map (fun i => (i.zero, i.size, i.bytes)) = some (some .nilIface, 1, 16) := by kernel_rfl
theorem make_err (w : World) : (Instr.makeSlice 143 (.int .i64 0) (.int .i64 2)).run Tryd.prog w = .ok (.slice (some ⟨w.heap.size, 0, none⟩) 0 2) (w.alloc (.cells #[.nilIface, .nilIface] 116)) := by
  obtain ⟨j0, hj, hy0, hy1, hy2⟩ := info_parts infoErr
  have := run_make (P := Tryd.prog) w 143 116 j0 .nilIface Tryd.underlying143 hj hy0 .i64 .i64 0 2 (by omega) (by omega) (by rw [hy2]; omega) (by omega)
  rw [hy1] at this
  have e : madeCells Value.nilIface.cells (Int.toNat 2 * 1) = #[.nilIface, .nilIface] := by kernel_rfl
  rw [e] at this
  exact this
set_option maxRecDepth 100000 in
theorem Join_any (g : Nat) (v0 v1 : Value) (w : World) (h0 : w.cell? ⟨g, 0, none⟩ = some (.iface 147 v0)) (h1 : w.cell? ⟨g, 1, none⟩ = some (.iface 147 v1)) :
    Calls Tryd.prog 110 #[.slice (some ⟨g, 0, none⟩) 2 2] w fun e w' => ∃ pb g2 n c, e = .returned (.iface 144 (.pointer (some ⟨pb, 0, none⟩))) ∧ 0 < n ∧ w'.cell? ⟨pb, 0, none⟩ = some (.slice (some ⟨g2, 0, none⟩) n c) ∧ w'.cell? ⟨g2, 0, none⟩ = some (.iface 147 v0) ∧ Below w.heap.size w w' := by
  have hm := make_err w
  have hg := World.block_lt_of_cell? _ _ h0
  dsimp only at hg
  go_enter Tryd.func110, Tryd.ntmps110
  go_wp2
  refine wp_loop_rounds 3 ?_
  rw [rounds_succ]
  go_wp2
  rw [rounds_succ]
  go_wp2
  rw [rounds_succ]
  go_wp2
  clear hm
  have n1 : w.heap.size + 1 ≠ w.heap.size := by omega
  have n2 : w.heap.size ≠ g := by omega
  have n3 : w.heap.size + 1 ≠ g := by omega
  have old : ∀ (A1 A2 A3 : Array Value) (T1 T2 T3 : TypeId), (((w.alloc (.cells A1 T1)).alloc (.cells A2 T2)).alloc (.cells A3 T3)).cell? ⟨g, 1, none⟩ = some (.iface 147 v1) := fun A1 A2 A3 T1 T2 T3 =>
    (((((Below.refl w.heap.size w).alloc (Nat.le_refl _) _).alloc (by simp) _).alloc (by simp; omega) _).cell (by dsimp only; omega)).trans h1
  refine wp_loop_rounds 3 ?_
  rw [rounds_succ]
  go_wp2
  rw [rounds_succ]
  go_wp2
  rw [rounds_succ]
  go_wp2
  go_ret
  have two : ∀ (A B C D : Array Value) (T1 T2 T3 T4 : TypeId), ((((w.alloc (.cells A T1)).alloc (.cells B T2)).alloc (.cells C T3)).alloc (.cells D T4)).cell? ⟨w.heap.size + 1, 0, none⟩ = B[0]? := fun A B C D T1 T2 T3 T4 => by
    have h1 := ((Below.refl (w.heap.size + 2) ((w.alloc (.cells A T1)).alloc (.cells B T2))).alloc (by simp) (.cells C T3)).alloc (by simp) (.cells D T4)
    have h2 := World.cell?_alloc_new (w.alloc (.cells A T1)) B T2 0
    rw [World.size_alloc] at h2
    exact (h1.cell (by dsimp only; omega)).trans h2
  have one : ∀ (A B C D : Array Value) (T1 T2 T3 T4 : TypeId), ((((w.alloc (.cells A T1)).alloc (.cells B T2)).alloc (.cells C T3)).alloc (.cells D T4)).cell? ⟨w.heap.size, 0, none⟩ = A[0]? := fun A B C D T1 T2 T3 T4 => by
    have h1 := (((Below.refl (w.heap.size + 1) (w.alloc (.cells A T1))).alloc (by simp) (.cells B T2)).alloc (by simp) (.cells C T3)).alloc (by simp) (.cells D T4)
    exact (h1.cell (by dsimp only; omega)).trans (World.cell?_alloc_new w A T1 0)
  refine ⟨w.heap.size + 1, w.heap.size, 2, 2, rfl, by omega, two _ _ _ _ _ _ _ _, one _ _ _ _ _ _ _ _, ?_⟩
  exact ((((Below.refl _ _).alloc (Nat.le_refl _) _).alloc (by simp) _).alloc (by simp; omega) _).alloc (by simp; omega) _
end Go.Proofs.YtonojegnbcgnaaaDoor
set_option linter.unusedSimpArgs false
set_option linter.unusedVariables false
namespace Go.Proofs.YtonojegnbcgnaaaDoor
open Go.RowKit

theorem infoInt : (Tryd.prog.info? 3).map (fun i => (i.zero, i.size, i.bytes)) = some (some (.int .i64 0), 1, 8) := by kernel_rfl
theorem any_mem (L : List Int) (h : Int) : L.any (fun x => x == h) = decide (h ∈ L) := by
  rw [Bool.eq_iff_iff]; simp only [List.any_eq_true, decide_eq_true_eq, beq_iff_eq]
  exact ⟨fun ⟨x, h1, h2⟩ => h2 ▸ h1, fun h1 => ⟨h, h1, rfl⟩⟩
theorem l3Has_any (v : Value) (L : List Int) (h : Int) (w : World) (hv : Ints w v L) :
    Calls Tryd.prog 94 #[v, .int .i64 h] w fun e w' => e = .returned (.bool (decide (h ∈ L))) ∧ Below w.heap.size w w' := by
  have hF := Fb.start w
  rw [← any_mem]
  obtain ⟨n, cap, hn, hnc, hcap, ⟨hn0, ao, rfl⟩ | ⟨hn0, b0, off, rfl, hc⟩⟩ := hv.cases
  all_goals
    clear hv
    go_enter Tryd.func94, Tryd.ntmps94
    go_wp2
    go_loopw [5] (fun i wr => ∃ k : Nat, k ≤ n ∧ i = .int .i64 k ∧ Hid ((L.take k).any (fun x => x == h) = false) ∧ Fb w wr []) (fun i _ => n - (intOf i).toNat)
    case atStart => exact ⟨0, Nat.zero_le _, rfl, rfl, hF⟩
    case round =>
      clear hF
      obtain ⟨k, hk, rfl, hany, hF⟩ := hrel
      by_cases hlt : k < n
      · try (exfalso; omega)
        all_goals
          obtain ⟨x, hx⟩ := get_of hn.out hlt
          have HX := Lib.hid hx; clear hx
          have c0 := hF.old (hc.out k x HX.out)
          by_cases hxh : x = h
          · have hp := Lib.hid (any_hit (p := fun x => x == h) HX.out (by simp [hxh]))
            have d1 : (x == h) = true := by simp [hxh]
            clear hxh
            go_wp2
            go_ret
            exact ⟨by rw [hp.out]; rfl, hF.kp⟩
          · have hp := Lib.hid (any_step (p := fun x => x == h) hany.out HX.out (by simpa using hxh))
            have d1 : (x == h) = false := by simp [hxh]
            clear hxh
            go_wp2
            go_roundw
            case rel => exact ⟨k + 1, by omega, by go_num, hp, hF⟩
            case measure => simp [intOf]; omega
      · have hp := Lib.hid (any_end (p := fun x => x == h) hany.out (by rw [hn.out]; omega))
        go_wp2
        go_ret
        exact ⟨by rw [hp.out]; rfl, hF.kp⟩
theorem nodup_len : ∀ (L K : List Int), L.Nodup → (∀ x ∈ L, x ∈ K) → L.length ≤ K.length
  | [], K, _, _ => Nat.zero_le _
  | x :: L, K, hn, hs => by
    rw [List.nodup_cons] at hn
    have hx := hs x (List.mem_cons_self ..)
    have ih := nodup_len L (K.erase x) hn.2 (fun y hy => (List.mem_erase_of_ne (show y ≠ x from fun e => hn.1 (by rw [← e]; exact hy))).2 (hs y (List.mem_cons_of_mem _ hy)))
    rw [List.length_erase_of_mem hx] at ih
    have := List.length_pos_of_mem hx
    simp only [List.length_cons]; omega
end Go.Proofs.YtonojegnbcgnaaaDoor
