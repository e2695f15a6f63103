/- Two rows of numbers are the same. Ranges and entries compared; a slice compared with nil. Nets: in the beginning just home knows a way. -/
import Derived.Test.YtonojegnbcgnaaaDoorZ7
import Derived.Test.YtonojegnbcgnaaaDoorZ3
import Derived.Laws.StructEq
import Derived.Lib.SliceRun
import Derived.Test.YtonojegnbcgnaaaDoorZ4
set_option linter.unusedSimpArgs false
set_option linter.unusedVariables false
namespace Go.Proofs.YtonojegnbcgnaaaDoor
open Go.RowKit

theorem Ints.sl {w : World} {v : Value} {L : List Int} (h : Ints w v L) : ∃ ao n cap, v = .slice ao n cap ∧ Hid (L.length = n) ∧ n ≤ cap ∧ cap ≤ 9223372036854775807 := by
  obtain ⟨ao, cap, e, h1, h2, _⟩ := h.ex
  exact ⟨ao, _, cap, e, rfl, h1, h2⟩
theorem ints_nil (w : World) (ao : Option Addr) (cap : Nat) (hc : cap ≤ 9223372036854775807) : Ints w (.slice ao 0 cap) [] := Rows.nil w ao cap hc _ _
theorem take_ne {L K : List Int} {k : Nat} {p q : Int} (h1 : L[k]? = some p) (h2 : K[k]? = some q) (h : p ≠ q) : decide (L = K) = false := by
  rw [decide_eq_false_iff_not]; rintro rfl; rw [h1] at h2; injection h2 with h2; exact h h2
theorem take_eq {L K : List Int} {k : Nat} {p q : Int} (h0 : L.take k = K.take k) (h1 : L[k]? = some p) (h2 : K[k]? = some q) (h : p = q) : L.take (k + 1) = K.take (k + 1) := by
  rw [take_succ' h1, take_succ' h2, h0, h]
set_option maxHeartbeats 1000000 in
theorem lyInts_any (v1 v2 : Value) (L K : List Int) (w : World) (h1 : Ints w v1 L) (h2 : Ints w v2 K) :
    Calls Tryd.prog 32 #[v1, v2] w fun e w' => e = .returned (.bool (decide (L = K))) ∧ Below w.heap.size w w' := by
  have hF := Fb.start w
  obtain ⟨ao, n, cap, rfl, hn, hnc, hcap⟩ := h1.sl
  obtain ⟨bo, m, cap2, rfl, hm, hmc, hcap2⟩ := h2.sl
  by_cases hnm : n = m
  · subst hnm
    have d1 : ((n : Int) != (n : Int)) = false := by simp
    have HL := Lib.hid h1
    have HK := Lib.hid h2
    clear h1 h2
    go_enter Tryd.func32, Tryd.ntmps32
    go_wp2
    go_loopw [5] (fun i wr => ∃ k : Nat, k ≤ n ∧ i = .int .i64 k ∧ Hid (L.take k = K.take k) ∧ Fb w wr []) (fun i _ => n - (intOf i).toNat)
    case atStart => exact ⟨0, Nat.zero_le _, rfl, by show _ = _; simp, hF⟩
    case round =>
      clear hF
      obtain ⟨k, hk, rfl, ht, hF⟩ := hrel
      by_cases hlt : k < n
      · obtain ⟨b1, o1, rfl⟩ := HL.out.some (by omega)
        obtain ⟨b2, o2, rfl⟩ := HK.out.some (by omega)
        obtain ⟨p, hp⟩ := get_of hn.out hlt
        obtain ⟨q, hq⟩ := get_of hm.out hlt
        have HP := Lib.hid hp
        have HQ := Lib.hid hq
        clear hp hq
        have f1 := fun z : Cl wr.heap.size wr => Cl.old hF z (HL.out.get HP.out)
        have f2 := fun z : Cl wr.heap.size wr => Cl.old hF z (HK.out.get HQ.out)
        by_cases hpq : p = q
        · have d2 : (p != q) = false := by simp [hpq]
          have ht2 := Lib.hid (take_eq ht.out HP.out HQ.out hpq)
          clear hpq
          go_wp2
          first | refine wp_region_new (by kernel_rfl) (by kernel_rfl) ?_ | refine wp_region_lex ?_
          repeat (any_goals (first | go_big_quiet_step ((fail)) | (refine wpQuiet_step (fun K hK => ?_); go_simp; split <;> (rename_i hg; refine hK _ ?_; clear hK K; simp only [hg, decide_true, decide_false]))))
          all_goals (refine wpQuiet_nil ?_; intro x)
          go_wp2
          go_roundw
          case rel => exact ⟨k + 1, by omega, by go_num, ht2, hF.cl x⟩
          case measure => simp [intOf]; omega
        · have d2 : (p != q) = true := by simp [hpq]
          have ht2 := Lib.hid (take_ne HP.out HQ.out hpq)
          clear hpq
          go_wp2
          first | refine wp_region_new (by kernel_rfl) (by kernel_rfl) ?_ | refine wp_region_lex ?_
          repeat (any_goals (first | go_big_quiet_step ((fail)) | (refine wpQuiet_step (fun K hK => ?_); go_simp; split <;> (rename_i hg; refine hK _ ?_; clear hK K; simp only [hg, decide_true, decide_false]))))
          all_goals (refine wpQuiet_nil ?_; intro x)
          go_wp2
          go_ret
          exact ⟨by rw [ht2.out]; rfl, (hF.cl x).kp⟩
      · have hd : Hid (decide (L = K) = true) := by
          have := ht.out
          rw [List.take_of_length_le (by rw [hn.out]; omega), List.take_of_length_le (by rw [hm.out]; omega)] at this
          exact decide_eq_true this
        go_wp2
        go_ret
        exact ⟨by rw [hd.out]; rfl, hF.kp⟩
  · have d1 : ((n : Int) != (m : Int)) = true := by simp; omega
    have hd : Hid (decide (L = K) = false) := decide_eq_false (fun e => hnm (by rw [← hn.out, ← hm.out, e]))
    clear h1 h2 hnm
    go_enter Tryd.func32, Tryd.ntmps32
    go_wp2
    go_ret
    exact ⟨by rw [hd.out]; rfl, hF.kp⟩
end Go.Proofs.YtonojegnbcgnaaaDoor
set_option linter.unusedSimpArgs false
set_option linter.unusedVariables false
namespace Go.Proofs.YtonojegnbcgnaaaDoor
open Go.RowKit

theorem rng_fields : (Tryd.prog.fieldsOf 24).toList = [⟨ "First", 3, 0, false, "", "", 0⟩, ⟨ "Bits", 3, 1, false, "", "", 8⟩] := by kernel_rfl
theorem rng_eq (f b g c : Int) (d : Nat) (w : World) : (Op.equalIn (d + 2) 24 (.agg #[.int .i64 f, .int .i64 b]) (.agg #[.int .i64 g, .int .i64 c])).run Tryd.prog w = .ok (f == g && b == c) w := by
  rw [run_equalIn_agg w (d + 1) 24 _ _ (by kernel_rfl) (by kernel_rfl), rng_fields]
  cases h1 : (f == g) <;> cases h2 : (b == c) <;> simp [Op.eqFields, go_sem, h1, h2]
theorem rng_neq (f b g c : Int) (w : World) : (binOp .neq 24 (.agg #[.int .i64 f, .int .i64 b]) (.agg #[.int .i64 g, .int .i64 c])).run Tryd.prog w = .ok (.bool (!(f == g && b == c))) w := by
  rw [run_neq_struct, rng_eq f b g c 9998]; rfl
theorem rng_eql (f b g c : Int) (w : World) : (binOp .eql 24 (.agg #[.int .i64 f, .int .i64 b]) (.agg #[.int .i64 g, .int .i64 c])).run Tryd.prog w = .ok (.bool (f == g && b == c)) w := by
  rw [run_eql_struct, rng_eq f b g c 9998]; rfl
end Go.Proofs.YtonojegnbcgnaaaDoor
set_option linter.unusedSimpArgs false
set_option linter.unusedVariables false
namespace Go.Proofs.YtonojegnbcgnaaaDoor
open Go.RowKit Go.Maps Go.WideMaps

theorem ints_oneC {w : World} {u : Value} {P : List Int} (h : Ints w u P) : u.oneCell' = true := by
  obtain ⟨ao, c, e, -⟩ := h.ex; rw [e]; rfl
/-- Slices of slices of numbers. -/
def shI : Sh Value (List Int) where
  sz := 1
  enc := encV
  len _ := rfl
  pos := by decide
  subs u := [u]
  rd w u s := Ints w u s
  keep hg hs h := Rows.far h hg (hs _ (by simp))
  one h u hu := by
    simp [encV] at hu
    subst hu
    exact ints_oneC h
theorem GLs.mat {w : World} {v : Value} {M : List (List Int)} (h : GLs shI w v M) : Mat w v M := ⟨h.ex⟩
theorem Mat.gls {w : World} {v : Value} {M : List (List Int)} (h : Mat w v M) : GLs shI w v M := ⟨h.ex⟩
def noneR (home : Int) (i : Nat) : List Int := if (i : Int) + 1 = home then [home] else []
def noneL (home : Int) (n : Nat) : List (List Int) := (List.range n).map (noneR home)
theorem noneL_len (home : Int) (n : Nat) : (noneL home n).length = n := by simp [noneL]
theorem noneL_succ (home : Int) (n : Nat) : noneL home (n + 1) = noneL home n ++ [noneR home n] := by
  unfold noneL; rw [List.range_succ, List.map_append]; rfl
theorem noneL_at {home : Int} {n k : Nat} (h : k < n) : (noneL home n)[k]? = some (noneR home k) := by
  unfold noneL; rw [List.getElem?_map, List.getElem?_range h]; rfl
/-- What NetNone gives. -/
def noneW (M : List (List Int)) (home : Int) : List (List Int) := if RelsP M ∧ Bts home 1 M.length then noneL home M.length else []
set_option maxHeartbeats 2000000 in
theorem l31None_any (v : Value) (M : List (List Int)) (home : Int) (w : World) (hM : Mat w v M) (hl : M.length ≤ 1000) :
    Calls Tryd.prog 70 #[v, .int .i64 home] w fun e w' => ∃ u, e = .returned u ∧ GOwn shI 25 w' w.heap.size u (noneL home M.length) ∧ Below w.heap.size w w' := by
  have hF := (Fb.start w).other (.cells #[] 25)
  have hO : GOwn shI 25 (w.alloc (.cells #[] 25)) w.heap.size (.slice (some ⟨w.heap.size, 0, none⟩) 0 0) [] := GOwn.made _ _ _ (Nat.le_refl _)
  obtain ⟨ao, n, cap, rfl, hn, hnc, hcap⟩ := GLs.sl hM.gls
  rw [hn.out]
  have hn1 : n ≤ 1000 := by have := hn.out; omega
  clear hM hl
  go_enter Tryd.func70, Tryd.ntmps70
  go_wp2
  go_loopw [5, 6] (fun s5 s6 wr => ∃ k : Nat, k ≤ n ∧ s6 = .int .i64 ((k : Int) + 1) ∧ GOwn shI 25 wr w.heap.size s5 (noneL home k) ∧ Fb w wr [] ∧ w.heap.size ≤ wr.heap.size) (fun _ s6 _ => n + 1 - (intOf s6).toNat)
  case atStart => exact ⟨0, Nat.zero_le _, rfl, hO, hF, by simp⟩
  case round =>
    clear hO hF
    obtain ⟨k, hk, rfl, hO, hF, hsz⟩ := hrel
    by_cases hlt : k < n
    · have hle : (k : Int) + 1 ≤ (n : Int) := by omega
      have hlo := hO.lt
      obtain ⟨ds, hO1, hG⟩ := hO
      have hdl : ds.length = k := hG.1.trans (noneL_len _ _)
      by_cases hh : (k : Int) + 1 = home
      · have dh : (((k : Int) + 1) == home) = true := by simp [hh]
        have hnr : noneR home k = [home] := if_pos hh
        have hrd : Ints (wr.alloc (.cells #[.int .i64 home] 3)) (.slice (some ⟨wr.heap.size, 0, none⟩) 1 1) [home] := (Own.lit 3 wr wr.heap.size 1 encI [home] (fun _ => rfl) (Nat.le_refl _) (by simp)).rows (fun _ => rfl)
        have HG := Lib.hid hG
        have HRD := Lib.hid hrd
        have HLO := Lib.hid hlo
        have HNR := Lib.hid hnr
        clear hG hrd hlo hnr hh
        go_wp2_with ((at_builtin; refine wpList_app rfl _ _ 49 rfl 25 (.slice none 0 0) 1 24 Tryd.underlying49 infoRow rfl (by decide) (by decide) w.heap.size encV _ _ rfl ((hO1.alloc _).alloc _) ((.slice (some ⟨wr.heap.size, 0, none⟩) 1 1)) ⟨_, 0, none⟩ 1 rfl rfl (cells_new' _ _ _ (by simp)) (by simp [encV, Value.oneCell']) (by omega) (by simp only [World.size_alloc]; omega) ?_; intro v' wx hO1 hg1 hb1 hf1; (have hO2 : GOwn shI 25 wx w.heap.size v' (noneL home (k + 1)) := (by rw [noneL_succ, HNR.out]; exact ⟨_, hO1, GRel.snoc HG.out (Nat.le_refl _) (((Below.refl _ _).alloc (Nat.le_refl _) _).alloc (by simp) _) hg1 hf1 (Rows.alloc HRD.out _) (fun u hu => by rw [List.mem_singleton.1 hu]; exact ⟨fun g h1 h2 => (by have := HLO.out g h2; simp [Value.ownBlock] at h1; omega), fun g h1 => (by simp [Value.ownBlock] at h1; simp only [World.size_alloc]; omega)⟩)⟩); have hF2 := ((hF.other _).other _).belowB hb1 (Nat.le_refl _) (by simp); have hsz9 := hb1.size; simp only [World.size_alloc] at hsz9; clear hO1 hg1 hb1 hf1)))
        go_roundw
        case rel => exact ⟨k + 1, by omega, by go_num, hO2, hF2, by omega⟩
        case measure => simp [intOf]; omega
      · have dh : (((k : Int) + 1) == home) = false := by simp [hh]
        have hnr : noneR home k = [] := if_neg hh
        have hrd : Ints (wr.alloc (.cells #[] 3)) (.slice (some ⟨wr.heap.size, 0, none⟩) 0 0) [] := Rows.nil _ _ _ (Nat.zero_le _) _ _
        have HG := Lib.hid hG
        have HRD := Lib.hid hrd
        have HLO := Lib.hid hlo
        have HNR := Lib.hid hnr
        clear hG hrd hlo hnr hh
        go_wp2_with ((at_builtin; refine wpList_app rfl _ _ 49 rfl 25 (.slice none 0 0) 1 24 Tryd.underlying49 infoRow rfl (by decide) (by decide) w.heap.size encV _ _ rfl ((hO1.alloc _).alloc _) ((.slice (some ⟨wr.heap.size, 0, none⟩) 0 0)) ⟨_, 0, none⟩ 1 rfl rfl (cells_new' _ _ _ (by simp)) (by simp [encV, Value.oneCell']) (by omega) (by simp only [World.size_alloc]; omega) ?_; intro v' wx hO1 hg1 hb1 hf1; (have hO2 : GOwn shI 25 wx w.heap.size v' (noneL home (k + 1)) := (by rw [noneL_succ, HNR.out]; exact ⟨_, hO1, GRel.snoc HG.out (Nat.le_refl _) (((Below.refl _ _).alloc (Nat.le_refl _) _).alloc (by simp) _) hg1 hf1 (Rows.alloc HRD.out _) (fun u hu => by rw [List.mem_singleton.1 hu]; exact ⟨fun g h1 h2 => (by have := HLO.out g h2; simp [Value.ownBlock] at h1; omega), fun g h1 => (by simp [Value.ownBlock] at h1; simp only [World.size_alloc]; omega)⟩)⟩); have hF2 := ((hF.other _).other _).belowB hb1 (Nat.le_refl _) (by simp); have hsz9 := hb1.size; simp only [World.size_alloc] at hsz9; clear hO1 hg1 hb1 hf1)))
        go_roundw
        case rel => exact ⟨k + 1, by omega, by go_num, hO2, hF2, by omega⟩
        case measure => simp [intOf]; omega
    · have hkn : k = n := by omega
      subst hkn
      have hle : ¬ ((k : Int) + 1 ≤ (k : Int)) := by omega
      go_wp2
      go_ret
      exact ⟨_, rfl, hO, hF.kp⟩
theorem noneW_yes {M : List (List Int)} {home : Int} (h1 : RelsP M) (h2 : Bts home 1 M.length) : noneW M home = noneL home M.length := if_pos ⟨h1, h2⟩
theorem noneW_no {M : List (List Int)} {home : Int} (h : ¬ (RelsP M ∧ Bts home 1 M.length)) : noneW M home = [] := if_neg h
set_option maxHeartbeats 1000000 in
theorem sNetNone_any (v : Value) (M : List (List Int)) (home : Int) (w : World) (hM : Mat w v M) :
    Calls Tryd.prog 30 #[v, .int .i64 home] w fun e w' => ∃ u, e = .returned u ∧ GOwn shI 25 w' w.heap.size u (noneW M home) ∧ Below w.heap.size w w' := by
  have hF := Fb.start w
  obtain ⟨ao, n, cap, rfl, hn, hnc, hcap⟩ := GLs.sl hM.gls
  go_enter Tryd.func30, Tryd.ntmps30
  go_wp2_with fail
  refine (sRelsOk_any _ M _ hM).mono ?_; rintro e w1 ⟨rfl, hb1⟩
  replace hF := hF.below hb1
  replace hM := hM.below hb1
  clear hb1
  by_cases k1 : RelsP M
  · have d1 : decide (RelsP M) = true := by simp [k1]
    have K1 := Lib.hid k1
    clear k1
    go_wp2_with fail
    refine (l6In_any home 1 n _).mono ?_; rintro e w2 ⟨rfl, hb2⟩
    replace hF := hF.below hb2
    replace hM := hM.below hb2
    clear hb2
    by_cases k2 : Bts home 1 n
    · have d2 : decide (Bts home 1 (n : Int)) = true := by simp [k2]
      have hr : Hid (noneW M home = noneL home M.length) := noneW_yes K1.out (by rw [hn.out]; exact k2)
      have hM5 : M.length ≤ 5 := K1.out.2.2
      clear k2
      go_wp2_with fail
      refine (l31None_any _ M home _ hM (by omega)).mono ?_; rintro e w3 ⟨u, rfl, hO, hb3⟩
      have hsz := hF.kp.size
      replace hF := hF.below hb3
      clear hb3
      go_wp2
      go_ret
      exact ⟨u, rfl, by rw [hr.out]; exact hO.base hsz, hF.kp⟩
    · have d2 : decide (Bts home 1 (n : Int)) = false := by simp [k2]
      have hr : Hid (noneW M home = []) := noneW_no (fun q => k2 (by have := q.2; rwa [hn.out] at this))
      have hO : GOwn shI 25 (w2.alloc (.cells #[] 25)) w.heap.size (.slice (some ⟨w2.heap.size, 0, none⟩) 0 0) [] := GOwn.made _ _ _ hF.kp.size
      replace hF := hF.other (.cells #[] 25)
      clear k2
      go_wp2
      go_ret
      exact ⟨_, rfl, by rw [hr.out]; exact hO, hF.kp⟩
  · have d1 : decide (RelsP M) = false := by simp [k1]
    have hr : Hid (noneW M home = []) := noneW_no (fun q => k1 q.1)
    have hO : GOwn shI 25 (w1.alloc (.cells #[] 25)) w.heap.size (.slice (some ⟨w1.heap.size, 0, none⟩) 0 0) [] := GOwn.made _ _ _ hF.kp.size
    replace hF := hF.other (.cells #[] 25)
    clear k1
    go_wp2
    go_ret
    exact ⟨_, rfl, by rw [hr.out]; exact hO, hF.kp⟩
end Go.Proofs.YtonojegnbcgnaaaDoor
