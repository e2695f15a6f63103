/- Nets: NetNone of the program. errors.Is at a sentinel: nil, itself, a joined error whose first one it is. After the kit's SentryIs. strconv.Itoa of a digit, errors.New, errors.Join of two. -/
import Derived.Test.YtonojegnbcgnaaaDoorZ8
import Derived.Test.YtonojegnbcgnaaaDoorZ3
import Derived.Test.YtonojegnbcgnaaaDoorChecked
import Derived.LaidEql
import Derived.Stop.Asserts
import Derived.RowKitTokens
import Derived.Laws.MakeOwn
import Derived.Deep.AppendLies
import Derived.RangeFuncBox
set_option linter.unusedSimpArgs false
set_option linter.unusedVariables false
namespace Go.Proofs.YtonojegnbcgnaaaDoor
open Go.RowKit Go.Maps Go.WideMaps

theorem Own.far {α : Type} {E : TypeId} {w w' : World} {B : Nat} {v : Value} {sz : Nat} {enc : α → List Value} {L : List α} {row : Option Nat} (h : Own E w B v sz enc L) (hg : w.grownBy w' row) (hv : ∀ g, v.ownBlock = some g → row ≠ some g) : Own E w' B v sz enc L := by
  rcases row with _ | r
  · exact Own.grown h (u := .slice Option.none 0 0) (by simpa [Value.ownBlock] using hg) (apart_nil _ _ _)
  · exact Own.grown h (u := .slice (some ⟨r, 0, Option.none⟩) 0 0) (by simpa [Value.ownBlock] using hg) (fun g h1 h2 => hv g h1 (by simpa [Value.ownBlock] using h2))
/-- Slices of numbers that may be written. -/
def shF : Sh Value (List Int) where
  sz := 1
  enc := encV
  len _ := rfl
  pos := by decide
  subs u := [u]
  rd w u s := Own 3 w 0 u 1 encI s
  keep hg hs h := Own.far h hg (hs _ (by simp))
  one h u hu := by
    simp [encV] at hu
    subst hu
    obtain ⟨ao, c, e⟩ := Own.sl h
    rw [e]; rfl
theorem GLs.wide {w : World} {v : Value} {M : List (List Int)} (h : GLs shF w v M) : GLs shI w v M := by
  obtain ⟨ds, h1, h2, h3⟩ := h.ex
  refine ⟨ds, h1, h2, fun k s hk => ?_⟩
  obtain ⟨d, hd, hr⟩ := h3 k s hk
  exact ⟨d, hd, Own.rows hr (fun _ => rfl)⟩
def zarrV (n : Nat) : Array Value := madeCells #[.slice none 0 0] n
theorem zarrV_list (n : Nat) : (zarrV n).toList = List.replicate n (.slice none 0 0) := toList_madeCells_one _ _
theorem zarrV_at {n j : Nat} (h : j < n) : (zarrV n)[j]? = some (.slice none 0 0) := by
  rw [← Array.getElem?_toList, zarrV_list]; simp [h]
theorem make_rows (n : Nat) (hn : n ≤ 1000) (w : World) : (Instr.makeSlice 49 (.int .i64 n) (.int .i64 n)).run Tryd.prog w = .ok (.slice (some ⟨w.heap.size, 0, none⟩) n n) (w.alloc (.cells (zarrV n) 25)) := by
  obtain ⟨j0, hj, hy0, hy1, hy2⟩ := info_parts infoRow
  have := run_make (P := Tryd.prog) w 49 25 j0 (.slice none 0 0) Tryd.underlying49 hj hy0 .i64 .i64 n n (by omega) (Int.le_refl _) (by rw [hy2]; omega) (by omega)
  rw [hy1] at this
  simpa [zarrV, Value.cells] using this
theorem own_zarrV (w : World) (B n : Nat) (hB : B ≤ w.heap.size) (hn : n ≤ 1000000) : Own 25 (w.alloc (.cells (zarrV n) 25)) B (.slice (some ⟨w.heap.size, 0, none⟩) n n) 1 encV (List.replicate n (.slice none 0 0)) := by
  have := World.ownsRow_lit (e := 25) (base := B) (size := 1) w (zarrV n) n hB (le_maxLen (by omega)) (by unfold zarrV; rw [size_madeCells]; omega)
  rw [zarrV_list] at this
  unfold Own
  rw [← flat_encV, List.length_replicate]
  exact this
theorem OwnV.set {E : TypeId} {w : World} {B g n cap : Nat} {vs : List Value} (h : Own E w B (.slice (some ⟨g, 0, none⟩) n cap) 1 encV vs) (i : Nat) (x : Value) : Own E (w.setCell ⟨g, i, none⟩ x) B (.slice (some ⟨g, 0, none⟩) n cap) 1 encV (vs.set i x) := by
  obtain ⟨ao, c, e⟩ := Own.sl h
  injection e with e1 e2 e3
  subst e2
  have := (World.ownsRow.stored h i x).1
  unfold Own
  rw [List.length_set, ← flat_encV]
  rwa [← flat_encV] at this
theorem GLs.atI {w : World} {b off n cap : Nat} {L : List (List Int)} (h : GLs shI w (.slice (some ⟨b, off, none⟩) n cap) L) {k : Nat} {s : List Int} (hk : L[k]? = some s) :
    ∃ a m c, w.cell? ⟨b, off + k, none⟩ = some (.slice a m c) ∧ Ints w (.slice a m c) s ∧ Hid (s.length = m) ∧ m ≤ c ∧ c ≤ 9223372036854775807 := by
  obtain ⟨d, hr, hc⟩ := GLs.at h hk
  have c0 := hc 0 d rfl
  have hr' : Ints w d s := hr
  obtain ⟨ao, c, e, h1, h2, -⟩ := hr'.ex
  subst e
  refine ⟨ao, s.length, c, ?_, hr, rfl, h1, h2⟩
  have e : off + k * shI.sz + 0 = off + k := by show off + k * 1 + 0 = off + k; omega
  rwa [e] at c0
theorem tkW_ne {α : Type} [DecidableEq α] {L K : List α} {k : Nat} {p q : α} (h1 : L[k]? = some p) (h2 : K[k]? = some q) (h : p ≠ q) : decide (L = K) = false := by
  rw [decide_eq_false_iff_not]; rintro rfl; rw [h1] at h2; injection h2 with h2; exact h h2
theorem tkW_eq {α : Type} {L K : List α} {k : Nat} {p q : α} (h0 : L.take k = K.take k) (h1 : L[k]? = some p) (h2 : K[k]? = some q) (h : p = q) : L.take (k + 1) = K.take (k + 1) := by
  rw [take_succ' h1, take_succ' h2, h0, h]
theorem tkW_end {α : Type} [DecidableEq α] {L K : List α} {k n : Nat} (h0 : L.take k = K.take k) (h1 : L.length = n) (h2 : K.length = n) (hk : n ≤ k) : decide (L = K) = true := by
  rw [decide_eq_true_iff]
  rwa [List.take_of_length_le (by omega), List.take_of_length_le (by omega)] at h0
theorem tkW_len {α : Type} [DecidableEq α] {L K : List α} {n m : Nat} (h1 : L.length = n) (h2 : K.length = m) (h : n ≠ m) : decide (L = K) = false := by
  rw [decide_eq_false_iff_not]; rintro rfl; omega
theorem OwnV.cell {E : TypeId} {w : World} {B g n cap : Nat} {vs : List Value} (h : Own E w B (.slice (some ⟨g, 0, none⟩) n cap) 1 encV vs) {i : Nat} {x : Value} (hx : vs[i]? = some x) : w.cell? ⟨g, i, none⟩ = some x := by
  have := Rows.get (h.rows (fun _ => rfl)) hx (j := 0) rfl
  simpa using this
theorem OwnV.live {E : TypeId} {w : World} {B g n cap : Nat} {vs : List Value} (h : Own E w B (.slice (some ⟨g, 0, none⟩) n cap) 1 encV vs) (i : Nat) : w.frozen? ⟨g, i, none⟩ = false := by
  obtain ⟨ao, c, e⟩ := Own.sl h
  injection e with e1 e2 e3
  subst e2
  exact World.ownsRow.frozenAt h i
/-- Home's own way put into a row of none. -/
theorem none_own {w : World} {B g n k : Nat} {home : Int} (h : Own 25 w B (.slice (some ⟨g, 0, none⟩) n n) 1 encV (List.replicate n (.slice none 0 0))) (hk : home = (k : Int) + 1) (hkn : k < n) :
    GOwn shF 25 ((w.alloc (.cells #[.int .i64 home] 3)).setCell ⟨g, k, none⟩ (.slice (some ⟨w.heap.size, 0, none⟩) 1 1)) B (.slice (some ⟨g, 0, none⟩) n n) (noneL home n) := by
  have hg := h.lt g rfl
  have hge := h.ge g rfl
  have hO := OwnV.set (h.alloc (.cells #[.int .i64 home] 3)) k (.slice (some ⟨w.heap.size, 0, none⟩) 1 1)
  have hI : Own 3 ((w.alloc (.cells #[.int .i64 home] 3)).setCell ⟨g, k, none⟩ (.slice (some ⟨w.heap.size, 0, none⟩) 1 1)) 0 (.slice (some ⟨w.heap.size, 0, none⟩) 1 1) 1 encI [home] :=
    Own.far (Own.lit 3 w 0 1 encI [home] (fun _ => rfl) (Nat.zero_le _) (by simp)) (grown_setC _ _ _) (fun g' h1 e => by simp [Value.ownBlock] at h1; injection e with e; dsimp only at e; omega)
  refine ⟨_, hO, by rw [List.length_set, List.length_replicate, noneL_len], fun i s hs => ?_⟩
  have hin : i < n := by have := (List.getElem?_eq_some_iff.1 hs).1; rwa [noneL_len] at this
  rw [noneL_at hin] at hs
  injection hs with hs
  subst hs
  by_cases hik : i = k
  · subst hik
    refine ⟨.slice (some ⟨w.heap.size, 0, none⟩) 1 1, by rw [List.getElem?_set_self (by simpa using hkn)], by show Own _ _ _ _ _ _ _; unfold noneR; rw [if_pos hk.symm]; exact hI, fun u hu => ?_⟩
    rw [List.mem_singleton.1 hu]
    exact ⟨fun g' h1 h2 => by simp [Value.ownBlock] at h1 h2; omega, fun g' h1 => by simp [Value.ownBlock] at h1; simp; omega⟩
  · refine ⟨.slice none 0 0, by rw [List.getElem?_set_ne (fun e => hik e.symm)]; simp [hin], by show Own _ _ _ _ _ _ _; unfold noneR; rw [if_neg (by omega)]; exact Own.nil _ _ _ _ _, fun u hu => ?_⟩
    rw [List.mem_singleton.1 hu]
    exact ⟨fun g' h1 _ => by simp [Value.ownBlock] at h1, fun g' h1 => by simp [Value.ownBlock] at h1⟩
set_option maxHeartbeats 2000000 in
theorem nothing_any (n b : Nat) (home : Int) (w : World) (hn : n ≤ 1000) (h1 : 1 ≤ home) (h2 : home ≤ n) :
    Calls Tryd.prog 68 #[.agg #[.int .i64 n, .map (some b)], .int .i64 home] w fun e w' => ∃ (q : Nat) (u : Value), e = .returned (.pointer (some ⟨q, 0, none⟩)) ∧ w'.cell? ⟨q, 3, none⟩ = some u ∧ GOwn shF 25 w' w.heap.size u (noneL home n) ∧ Below w.heap.size w w' := by
  obtain ⟨k, rfl⟩ : ∃ k : Nat, home = (k : Int) + 1 := ⟨(home - 1).toNat, by omega⟩
  have hkn : k < n := by omega
  have hmk := make_rows n hn
  have hF := (Fb.start w).alloc [.int .i64 n, .map (some b)] 87
  have o := hF.own; simp only [World.size_alloc, World.size_drew, World.size_setCell, List.mem_cons, List.not_mem_nil, or_false, forall_eq_or_imp, forall_eq, At, and_true, Nat.zero_add, Nat.reduceAdd, List.set_cons_zero, List.set_cons_succ] at o
  have hO := (own_zarrV (w.alloc (.cells #[.int .i64 n, .map (some b)] 87)) w.heap.size n (by simp) (by omega)).alloc (.cells #[.int .i64 n, .map (some b), .int .i64 ((k : Int) + 1), .slice (some ⟨w.heap.size + 1, 0, none⟩) n n] 91) |>.drew
  simp only [World.size_alloc] at hO
  have hF2 := ((hF.other (.cells (zarrV n) 25)).alloc [.int .i64 n, .map (some b), .int .i64 ((k : Int) + 1), .slice (some ⟨w.heap.size + 1, 0, none⟩) n n] 91).drew
  simp only [World.size_alloc] at hF2
  go_enter Tryd.func68, Tryd.ntmps68
  go_upto_region 1 with (fail)
  go_region
  clear o hF hmk
  obtain ⟨wb, hwb⟩ : ∃ wb : World, wb = (((w.alloc (.cells #[.int .i64 n, .map (some b)] 87)).alloc (.cells (zarrV n) 25)).alloc (.cells #[.int .i64 n, .map (some b), .int .i64 ((k : Int) + 1), .slice (some ⟨w.heap.size + 1, 0, none⟩) n n] 91)).drew := ⟨_, rfl⟩
  rw [← hwb] at hO hF2 ⊢
  clear hwb
  obtain ⟨g, hg⟩ : ∃ g, w.heap.size + 1 = g := ⟨_, rfl⟩
  rw [hg] at hO hF2 ⊢
  obtain ⟨q, hq⟩ : ∃ q, g + 1 = q := ⟨_, rfl⟩
  rw [hq] at hF2 ⊢
  have hF := hF2
  have hgl := hO.lt g rfl
  have cg : wb.cell? ⟨g, k, none⟩ = some (.slice none 0 0) := by
    have := Rows.get (hO.rows (fun _ => rfl)) (k := k) (x := .slice none 0 0) (by simp [hkn]) (j := 0) rfl
    simpa using this
  have fg : wb.frozen? ⟨g, k, none⟩ = false := by
    have := hO
    unfold Own at this
    rw [List.length_replicate] at this
    exact World.ownsRow.frozenAt this k
  have hEnd := Lib.hid (none_own hO rfl hkn)
  have hK := Lib.hid ((hF2.other (.cells #[.int .i64 ((k : Int) + 1)] 3)).kp.setCell (show w.heap.size ≤ (⟨g, k, none⟩ : Addr).block by dsimp only; omega) (.slice (some ⟨wb.heap.size, 0, none⟩) 1 1))
  have o := hF.own; simp only [World.size_alloc, World.size_drew, World.size_setCell, List.mem_cons, List.not_mem_nil, or_false, forall_eq_or_imp, forall_eq, At, and_true, Nat.zero_add, Nat.reduceAdd, List.set_cons_zero, List.set_cons_succ] at o
  have c3 := Lib.hid (show ((wb.alloc (.cells #[.int .i64 ((k : Int) + 1)] 3)).setCell ⟨g, k, none⟩ (.slice (some ⟨wb.heap.size, 0, none⟩) 1 1)).cell? ⟨q, 3, none⟩ = some (.slice (some ⟨g, 0, none⟩) n n) by
    rw [World.cell?_setCell_other _ _ _ _ (by intro e; injection e; omega)]
    exact (World.cell?_of_block (w := wb) (Below.heap_alloc wb _ q o.1.2.2)).trans o.1.1.2.2.2.2.2.2.1)
  have hcm := World.setCell_alloc_past (w := wb) (.cells #[.int .i64 ((k : Int) + 1)] 3) g k (.slice (some ⟨wb.heap.size, 0, none⟩) 1 1) hgl
  rw [hcm] at c3 hEnd hK
  clear hcm
  have nqg : q ≠ g := by omega
  have ngq : g ≠ q := by omega
  clear hO hF2 hF hg
  go_wp2_with fail
  refine bodyPost_ret (v := .pointer (some ⟨q, 0, none⟩)) ?_ rfl ?_
  · simp [results, Tryd.results68, go_sem]
  · exact ⟨q, _, rfl, c3.out, hEnd.out, hK.out⟩
set_option maxHeartbeats 2000000 in
theorem iNetNone_any (v : Value) (M : List (List Int)) (home : Int) (w : World) (hM : Mat w v M) :
    Calls Tryd.prog 28 #[v, .int .i64 home] w fun e w' => ∃ u, e = .returned u ∧ GOwn shF 25 w' w.heap.size u (noneW M home) ∧ Below w.heap.size w w' := by
  go_enter Tryd.func28, Tryd.ntmps28
  by_cases k1 : RelsP M
  · have HC := Lib.hid (readRels_yes v M w hM k1)
    have hM5 := k1.2.2
    go_wp2_with fail
    refine HC.out.mono ?_; rintro e w1 ⟨b, rfl, hK, hb1⟩
    have hF := ((Fb.start w).below hb1).alloc [.int .i64 M.length, .map (some b)] 87
    have o := hF.own; simp only [World.size_alloc, World.size_drew, World.size_setCell, List.mem_cons, List.not_mem_nil, or_false, forall_eq_or_imp, forall_eq, At, and_true, Nat.zero_add, Nat.reduceAdd, List.set_cons_zero, List.set_cons_succ] at o
    go_wp2_with fail
    refine (rhas_any (M.length : Int) home (.map (some b)) _ rfl).mono ?_; rintro e w2 ⟨rfl, hb2⟩
    replace hF := hF.below hb2
    clear hb2 o
    by_cases k2 : Bts home 1 M.length
    · have d2 : decide (Bts home 1 (M.length : Int)) = true := by simp [k2]
      have hr : Hid (noneW M home = noneL home M.length) := noneW_yes k1 k2
      have h1 : 1 ≤ home := by unfold Bts at k2; omega
      have h2 : home ≤ M.length := by unfold Bts at k2; omega
      clear k2
      have o := hF.own; simp only [World.size_alloc, World.size_drew, World.size_setCell, List.mem_cons, List.not_mem_nil, or_false, forall_eq_or_imp, forall_eq, At, and_true, Nat.zero_add, Nat.reduceAdd, List.set_cons_zero, List.set_cons_succ] at o
      go_wp2_with fail
      refine (nothing_any M.length b home w2 (by omega) h1 h2).mono ?_; rintro e w3 ⟨q, u, rfl, c3, hO, hb3⟩
      have hsz := hF.kp.size
      replace hF := hF.below hb3
      clear o hb3
      go_wp2
      go_ret
      exact ⟨u, rfl, by rw [hr.out]; exact hO.base hsz, hF.kp⟩
    · have d2 : decide (Bts home 1 (M.length : Int)) = false := by simp [k2]
      have hr : Hid (noneW M home = []) := noneW_no (fun g => k2 g.2)
      clear k2
      go_wp2
      go_ret
      exact ⟨_, rfl, by rw [hr.out]; exact GOwn.nil _ _ _, hF.kp⟩
  · have HC := Lib.hid (readRels_no v M w hM k1)
    have hr : Hid (noneW M home = []) := noneW_no (fun g => k1 g.1)
    go_wp2_with fail
    refine HC.out.mono ?_; rintro e w1 ⟨rfl, hb1⟩
    have hF := ((Fb.start w).below hb1).alloc [.int .i64 0, .map none] 87
    go_wp2
    go_ret
    exact ⟨_, rfl, by rw [hr.out]; exact GOwn.nil _ _ _, hF.kp⟩
end Go.Proofs.YtonojegnbcgnaaaDoor
set_option linter.unusedSimpArgs false
set_option linter.unusedVariables false
namespace Go.Proofs.YtonojegnbcgnaaaDoor
open Go.RowKit Go.Extern.Stop Go.Stop Go.Extern

theorem isTypeOf (v : Value) (w : World) : (Extern.ReflectliteType.typeOf #[.iface 147 v]).run Tryd.prog w = .ok (.iface 151 (.agg #[.pointer (some ⟨4, 147, none⟩)])) w := by kernel_rfl
noncomputable def cmpE : Array Value → Sem Value := Extern.ReflectliteType.method fun t => do Rtype.noPackHeld "Comparable" t; pure (.bool (← typeInfo t).comparable)
theorem isComparable (w : World) : (cmpE #[.agg #[.pointer (some ⟨4, 147, none⟩)]]).run Tryd.prog w = .ok (.bool true) w := by kernel_rfl
theorem comp_call (w : World) : (callFunc 162 #[.agg #[.pointer (some ⟨4, 147, none⟩)]]).run Tryd.prog w = .ok (.value (.bool true)) w := by
  have h := @run_callFunc_extern Tryd.prog 162 _ cmpE Tryd.func162 (by kernel_rfl) (by kernel_rfl) (by kernel_rfl) (by kernel_rfl)
  rw [h, isComparable]; rfl
theorem isComp : (Tryd.prog.info? 147).map (·.comparable) = some true := by kernel_rfl
theorem isSize : (Tryd.prog.info? 149).map (·.size) = some 1 := by kernel_rfl
theorem noIsJ (v : Value) (xT : TypeId) (w : World) : (Instr.typeAssert (.iface 144 v) xT 153 true).run Tryd.prog w = .ok (.tuple #[.nilIface, .bool false]) w := run_typeAssert_lacksB Tryd.underlying153 (by kernel_rfl) (by kernel_rfl) v xT w
theorem noUnwrapJ (v : Value) (xT : TypeId) (w : World) : (Instr.typeAssert (.iface 144 v) xT 156 true).run Tryd.prog w = .ok (.tuple #[.nilIface, .bool false]) w := run_typeAssert_lacksB Tryd.underlying156 (by kernel_rfl) (by kernel_rfl) v xT w
theorem hasUnwrapsJ (v : Value) (xT : TypeId) (w : World) : (Instr.typeAssert (.iface 144 v) xT 158 true).run Tryd.prog w = .ok (.tuple #[.iface 144 v, .bool true]) w := run_typeAssert_hasB Tryd.underlying158 (by kernel_rfl) v xT w

theorem isMethodComparable (v : Value) (w : World) : (Go.method 311 151 v "Comparable").run Tryd.prog w = .ok (162, v) w := by kernel_rfl
theorem isMethodUnwrap (v : Value) (w : World) : (Go.method 311 144 v "Unwrap").run Tryd.prog w = .ok (157, v) w := by kernel_rfl

/-- errors.is(x, x). -/
theorem is1_same (a : Addr) (w : World) :
    Calls Tryd.prog 114 #[.iface 147 (.pointer (some a)), .iface 147 (.pointer (some a)), .bool true] w fun e w' => e = .returned (.bool true) ∧ w' = w := by
  obtain ⟨i, hi, hcmp⟩ := Option.map_eq_some_iff.1 isComp
  obtain ⟨j, hj, hjs⟩ := Option.map_eq_some_iff.1 isSize
  have heq := run_eql_iface_ptr_same (P := Tryd.prog) w a Tryd.underlying116 Tryd.underlying147 hi hcmp hj
  go_enter Tryd.func114, Tryd.ntmps114
  go_wp2
  refine wp_loop_rounds 1 ?_
  rw [rounds_succ]
  go_wp2
  go_ret
  exact ⟨rfl, rfl⟩
/-- errors.is(a joined error whose first is x, x). -/
theorem is1_join (pb g n c : Nat) (a : Addr) (w : World) (hn : 0 < n) (h1 : w.cell? ⟨pb, 0, none⟩ = some (.slice (some ⟨g, 0, none⟩) n c)) (h2 : w.cell? ⟨g, 0, none⟩ = some (.iface 147 (.pointer (some a)))) :
    Calls Tryd.prog 114 #[.iface 144 (.pointer (some ⟨pb, 0, none⟩)), .iface 147 (.pointer (some a)), .bool true] w fun e w' => e = .returned (.bool true) ∧ w' = w := by
  have nI := noIsJ
  have nU := noUnwrapJ
  have hU := hasUnwrapsJ
  have mU := isMethodUnwrap
  have hty := run_eql_iface_types (P := Tryd.prog) 144 147 (.pointer (some ⟨pb, 0, none⟩)) (.pointer (some a)) Tryd.underlying116 (by decide) w
  go_enter Tryd.func114, Tryd.ntmps114
  go_wp2
  refine wp_loop_rounds 1 ?_
  rw [rounds_succ]
  go_wp2_with (first | (go_at_call 114; refine (is1_same _ _).mono ?_; rintro e w' ⟨rfl, rfl⟩) | go_in)
  refine wp_loop_rounds 1 ?_
  rw [rounds_succ]
  go_wp2_with (first | (go_at_call 114; refine (is1_same _ _).mono ?_; rintro e w' ⟨rfl, rfl⟩) | go_in)
  go_ret
  exact ⟨rfl, rfl⟩
/-- errors.Is(nil, x). -/
theorem is_nil (a : Addr) (w : World) :
    Calls Tryd.prog 92 #[.nilIface, .iface 147 (.pointer (some a))] w fun e w' => e = .returned (.bool false) ∧ w' = w := by
  have hn := run_eql_iface_nil_left (P := Tryd.prog) w 147 (.pointer (some a)) Tryd.underlying116
  go_enter Tryd.func92, Tryd.ntmps92
  go_wp2
  go_ret
  exact ⟨rfl, rfl⟩
/-- errors.Is(a joined error whose first is x, x). -/
theorem is_join (pb g n c : Nat) (a : Addr) (w : World) (hn : 0 < n) (h1 : w.cell? ⟨pb, 0, none⟩ = some (.slice (some ⟨g, 0, none⟩) n c)) (h2 : w.cell? ⟨g, 0, none⟩ = some (.iface 147 (.pointer (some a)))) :
    Calls Tryd.prog 92 #[.iface 144 (.pointer (some ⟨pb, 0, none⟩)), .iface 147 (.pointer (some a))] w fun e w' => e = .returned (.bool true) ∧ w' = w := by
  have h8 := @run_callFunc_extern Tryd.prog 113 _ Extern.ReflectliteType.typeOf Tryd.func113 (by kernel_rfl) (by kernel_rfl) (by kernel_rfl) (by kernel_rfl)
  have h32 := comp_call
  have tT := isTypeOf
  have mR := isMethodComparable
  go_enter Tryd.func92, Tryd.ntmps92
  go_wp2_with (first | (go_at_call 114; refine (is1_join _ _ _ _ _ _ hn h1 h2).mono ?_; rintro e w' ⟨rfl, rfl⟩) | go_in)
  go_ret
  exact ⟨rfl, rfl⟩
end Go.Proofs.YtonojegnbcgnaaaDoor
set_option linter.unusedSimpArgs false
set_option linter.unusedVariables false
namespace Go.Proofs.YtonojegnbcgnaaaDoor
open Go.RowKit

theorem Itoa_ex (k : Nat) (hk : k < 10) (w : World) :
    Calls Tryd.prog 112 #[.int .i64 k] w fun e w' => ∃ s : ByteArray, s.size ≤ 10 ∧ e = .returned (.string s) ∧ w' = w := by
  have h1 : (k : Int) < 100 := by omega
  have h2 : (k : Int) < 10 := by omega
  have h3 : (0 : Int) ≤ k := by omega
  go_enter Tryd.func112, Tryd.ntmps112
  go_wp2
  go_ret
  exact ⟨_, by simp [ByteArray.size_extract]; omega, rfl, rfl⟩
theorem New_any (s : ByteArray) (w : World) :
    Calls Tryd.prog 111 #[.string s] w fun e w' => e = .returned (.iface 147 (.pointer (some ⟨w.heap.size, 0, none⟩))) ∧ w' = w.alloc (.cells #[.string s] 149) := by
  go_enter Tryd.func111, Tryd.ntmps111
  go_wp2
  go_ret
  exact ⟨rfl, rfl⟩
theorem infoErr : (Tryd.prog.info? 116).map (fun i => (i.zero, i.size, i.bytes)) = some (some .nilIface, 1, 16) := by kernel_rfl
theorem make_err (w : World) : (Instr.makeSlice 143 (.int .i64 0) (.int .i64 2)).run Tryd.prog w = .ok (.slice (some ⟨w.heap.size, 0, none⟩) 0 2) (w.alloc (.cells #[.nilIface, .nilIface] 116)) := by
  obtain ⟨j0, hj, hy0, hy1, hy2⟩ := info_parts infoErr
  have := run_make (P := Tryd.prog) w 143 116 j0 .nilIface Tryd.underlying143 hj hy0 .i64 .i64 0 2 (by omega) (by omega) (by rw [hy2]; omega) (by omega)
  rw [hy1] at this
  have e : madeCells Value.nilIface.cells (Int.toNat 2 * 1) = #[.nilIface, .nilIface] := by kernel_rfl
  rw [e] at this
  exact this
set_option maxRecDepth 100000 in
theorem Join_any (g : Nat) (v0 v1 : Value) (w : World) (h0 : w.cell? ⟨g, 0, none⟩ = some (.iface 147 v0)) (h1 : w.cell? ⟨g, 1, none⟩ = some (.iface 147 v1)) :
    Calls Tryd.prog 110 #[.slice (some ⟨g, 0, none⟩) 2 2] w fun e w' => ∃ pb g2 n c, e = .returned (.iface 144 (.pointer (some ⟨pb, 0, none⟩))) ∧ 0 < n ∧ w'.cell? ⟨pb, 0, none⟩ = some (.slice (some ⟨g2, 0, none⟩) n c) ∧ w'.cell? ⟨g2, 0, none⟩ = some (.iface 147 v0) ∧ Below w.heap.size w w' := by
  have hm := make_err w
  have hg := World.block_lt_of_cell? _ _ h0
  dsimp only at hg
  go_enter Tryd.func110, Tryd.ntmps110
  go_wp2
  refine wp_loop_rounds 3 ?_
  rw [rounds_succ]
  go_wp2
  rw [rounds_succ]
  go_wp2
  rw [rounds_succ]
  go_wp2
  clear hm
  have n1 : w.heap.size + 1 ≠ w.heap.size := by omega
  have n2 : w.heap.size ≠ g := by omega
  have n3 : w.heap.size + 1 ≠ g := by omega
  have old : ∀ (A1 A2 A3 : Array Value) (T1 T2 T3 : TypeId), (((w.alloc (.cells A1 T1)).alloc (.cells A2 T2)).alloc (.cells A3 T3)).cell? ⟨g, 1, none⟩ = some (.iface 147 v1) := fun A1 A2 A3 T1 T2 T3 =>
    (((((Below.refl w.heap.size w).alloc (Nat.le_refl _) _).alloc (by simp) _).alloc (by simp; omega) _).cell (by dsimp only; omega)).trans h1
  refine wp_loop_rounds 3 ?_
  rw [rounds_succ]
  go_wp2
  rw [rounds_succ]
  go_wp2
  rw [rounds_succ]
  go_wp2
  go_ret
  have two : ∀ (A B C D : Array Value) (T1 T2 T3 T4 : TypeId), ((((w.alloc (.cells A T1)).alloc (.cells B T2)).alloc (.cells C T3)).alloc (.cells D T4)).cell? ⟨w.heap.size + 1, 0, none⟩ = B[0]? := fun A B C D T1 T2 T3 T4 => by
    have h1 := ((Below.refl (w.heap.size + 2) ((w.alloc (.cells A T1)).alloc (.cells B T2))).alloc (by simp) (.cells C T3)).alloc (by simp) (.cells D T4)
    have h2 := World.cell?_alloc_new (w.alloc (.cells A T1)) B T2 0
    rw [World.size_alloc] at h2
    exact (h1.cell (by dsimp only; omega)).trans h2
  have one : ∀ (A B C D : Array Value) (T1 T2 T3 T4 : TypeId), ((((w.alloc (.cells A T1)).alloc (.cells B T2)).alloc (.cells C T3)).alloc (.cells D T4)).cell? ⟨w.heap.size, 0, none⟩ = A[0]? := fun A B C D T1 T2 T3 T4 => by
    have h1 := (((Below.refl (w.heap.size + 1) (w.alloc (.cells A T1))).alloc (by simp) (.cells B T2)).alloc (by simp) (.cells C T3)).alloc (by simp) (.cells D T4)
    exact (h1.cell (by dsimp only; omega)).trans (World.cell?_alloc_new w A T1 0)
  refine ⟨w.heap.size + 1, w.heap.size, 2, 2, rfl, by omega, two _ _ _ _ _ _ _ _, one _ _ _ _ _ _ _ _, ?_⟩
  exact ((((Below.refl _ _).alloc (Nat.le_refl _) _).alloc (by simp) _).alloc (by simp; omega) _).alloc (by simp; omega) _
end Go.Proofs.YtonojegnbcgnaaaDoor
