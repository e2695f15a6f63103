/- Relations: the program's functions. Numbers in a row; houses. Relations drawn. -/
import Derived.Test.YtonojegnbcgnaaaDoorZ5
import Derived.Test.YtonojegnbcgnaaaDoorZ6
import Derived.Test.YtonojegnbcgnaaaDoorZ4
set_option maxRecDepth 100000
set_option linter.unusedSimpArgs false
set_option linter.unusedVariables false
namespace Go.Proofs.YtonojegnbcgnaaaDoor
open Go.RowKit Go.Maps Go.WideMaps

/-- Block b is the map of M's relations. -/
def Kn (w : World) (M : List (List Int)) (b : Nat) : Prop := ∃ m D, w.ownsMap Tryd.prog 127 PE b m D ∧ KD D (gall M)
theorem Kn.below {w w' : World} {M : List (List Int)} {b : Nat} (h : Kn w M b) (hb : Below w.heap.size w w') : Kn w' M b := by
  obtain ⟨m, D, h1, h2⟩ := h
  exact ⟨m, D, h1.kept (below_grownBy hb) (by simp), h2⟩
theorem Kn.alloc {w : World} {M : List (List Int)} {b : Nat} (h : Kn w M b) (o : Obj) : Kn (w.alloc o) M b := h.below ((Below.refl _ _).alloc (Nat.le_refl _) _)
theorem Kn.drew {w : World} {M : List (List Int)} {b : Nat} (h : Kn w M b) : Kn w.drew M b := h.below (Below.refl _ _).drew
theorem gi_relof {M : List (List Int)} (h : RelsP M) (a c : Int) : gi (gall M) a c = relof M a c := by
  have h5 := h.2.2
  unfold gi relof
  by_cases hb : Bts a 1 M.length ∧ Bts c 1 M.length
  · have h1 := hb.1
    have h2 := hb.2
    unfold Bts at h1 h2
    rw [if_pos ⟨by omega, by omega, by omega, by omega⟩, if_pos ⟨h, hb.1, hb.2⟩]
    exact gall_eq M (by omega) (by omega)
  · rw [show (if RelsP M ∧ Bts a 1 (M.length : Int) ∧ Bts c 1 (M.length : Int) then mgi M a c else 0) = 0 from if_neg (fun g => hb g.2)]
    split
    · rename_i hg
      refine gall_out M (fun g => hb ⟨⟨by omega, by omega⟩, ⟨by omega, by omega⟩⟩)
    · rfl

theorem of_any (M : List (List Int)) (n : Int) (b : Nat) (a c : Int) (w : World) (hp : RelsP M) (hK : Kn w M b) (ha : -1000000 ≤ a) (ha' : a ≤ 1000000) (hc : -1000000 ≤ c) (hc' : c ≤ 1000000) :
    Calls Tryd.prog 117 #[.agg #[.int .i64 n, .map (some b)], .int .i64 a, .int .i64 c] w fun e w' => e = .returned (.int .i64 (relof M a c)) ∧ Below w.heap.size w w' := by
  obtain ⟨m, D, h1, h2⟩ := hK
  have hl := KD.run (h1.alloc (.cells #[.int .i64 n, .map (some b)] 87)) h2 ha ha' hc hc'
  rw [gi_relof hp] at hl
  clear h1 h2
  go_enter Tryd.func117, Tryd.ntmps117
  go_wp2
  go_ret
  exact ⟨rfl, (Below.refl _ _).alloc (Nat.le_refl _) _⟩
theorem rhas_any (n h : Int) (v : Value) (w : World) (hv : v.oneCell' = true) :
    Calls Tryd.prog 67 #[.agg #[.int .i64 n, v], .int .i64 h] w fun e w' => e = .returned (.bool (decide (Bts h 1 n))) ∧ Below w.heap.size w w' := by
  by_cases h1 : 1 ≤ h
  · have d1 : decide (1 ≤ h) = true := by simp [h1]
    go_enter Tryd.func67, Tryd.ntmps67
    go_wp2
    go_ret
    exact ⟨ret_bool (by rw [Bool.eq_iff_iff]; simp only [decide_eq_true_eq, Bool.and_eq_true, Bool.false_eq_true, Bool.true_eq_false]; unfold Bts; omega), (Below.refl _ _).alloc (Nat.le_refl _) _⟩
  · have d1 : decide (1 ≤ h) = false := by simp; omega
    go_enter Tryd.func67, Tryd.ntmps67
    go_wp2
    go_ret
    refine ⟨ret_bool ?_, (Below.refl _ _).alloc (Nat.le_refl _) _⟩
    have hb : decide (Bts h 1 n) = false := by rw [decide_eq_false_iff_not]; unfold Bts; omega
    rw [hb]

/-- What readRels hands back, in two ways. -/
theorem readRels_yes (v : Value) (M : List (List Int)) (w : World) (hM : Mat w v M) (hp : RelsP M) :
    Calls Tryd.prog 66 #[v] w fun e w' => ∃ b, e = .returned (.tuple #[.agg #[.int .i64 M.length, .map (some b)], .bool true]) ∧ Kn w' M b ∧ Below w.heap.size w w' :=
  (readRels_any v M w hM).mono fun e w' h => by
    rcases h with ⟨⟨_, b, m, D, he, h1, h2⟩ | ⟨hn, _⟩, hB⟩
    · exact ⟨b, he, ⟨m, D, h1, h2⟩, hB⟩
    · exact (hn hp).elim
theorem readRels_no (v : Value) (M : List (List Int)) (w : World) (hM : Mat w v M) (hp : ¬ RelsP M) :
    Calls Tryd.prog 66 #[v] w fun e w' => e = .returned (.tuple #[.agg #[.int .i64 0, .map none], .bool false]) ∧ Below w.heap.size w w' :=
  (readRels_any v M w hM).mono fun e w' h => by
    rcases h with ⟨⟨hn, _⟩ | ⟨_, he⟩, hB⟩
    · exact (hp hn).elim
    · exact ⟨he, hB⟩

def MayR (M : List (List Int)) (h o t : Int) : Prop := relof M h t ≠ 0 ∧ (o = 0 ∨ relof M h o = 1 ∨ relof M h t = 1)
instance (M : List (List Int)) (h o t : Int) : Decidable (MayR M h o t) := by unfold MayR; infer_instance
theorem mayP_r (M : List (List Int)) (h o t : Int) : MayP M h o t ↔ RelsP M ∧ Bts h 1 M.length ∧ Bts t 1 M.length ∧ (o = 0 ∨ Bts o 1 M.length) ∧ MayR M h o t := by
  unfold MayP MayR May1
  constructor
  · rintro ⟨h1, h2, h3, h4, h5, h6⟩
    have ho : o = 0 ∨ Bts o 1 M.length := by unfold Bts at *; omega
    have e1 : relof M h t = mgi M h t := by unfold relof; rw [if_pos ⟨h1, h2, h4⟩]
    refine ⟨h1, h2, h4, ho, by rw [e1]; exact h5, ?_⟩
    rw [e1]
    rcases ho with ho | ho
    · exact Or.inl ho
    · have e2 : relof M h o = mgi M h o := by unfold relof; rw [if_pos ⟨h1, h2, ho⟩]
      rw [e2]; exact h6
  · rintro ⟨h1, h2, h4, ho, h5, h6⟩
    have e1 : relof M h t = mgi M h t := by unfold relof; rw [if_pos ⟨h1, h2, h4⟩]
    rw [e1] at h5 h6
    have hn := h1.2.1
    refine ⟨h1, h2, by unfold Bts at *; omega, h4, h5, ?_⟩
    rcases ho with ho | ho
    · exact Or.inl ho
    · have e2 : relof M h o = mgi M h o := by unfold relof; rw [if_pos ⟨h1, h2, ho⟩]
      rw [e2] at h6; exact h6
end Go.Proofs.YtonojegnbcgnaaaDoor
set_option linter.unusedSimpArgs false
set_option linter.unusedVariables false
namespace Go.Proofs.YtonojegnbcgnaaaDoor
open Go.RowKit

theorem infoInt : (Tryd.prog.info? 3).map (fun i => (i.zero, i.size, i.bytes)) = some (some (.int .i64 0), 1, 8) := by kernel_rfl
theorem any_mem (L : List Int) (h : Int) : L.any (fun x => x == h) = decide (h ∈ L) := by
  rw [Bool.eq_iff_iff]; simp only [List.any_eq_true, decide_eq_true_eq, beq_iff_eq]
  exact ⟨fun ⟨x, h1, h2⟩ => h2 ▸ h1, fun h1 => ⟨h, h1, rfl⟩⟩
theorem l3Has_any (v : Value) (L : List Int) (h : Int) (w : World) (hv : Ints w v L) :
    Calls Tryd.prog 94 #[v, .int .i64 h] w fun e w' => e = .returned (.bool (decide (h ∈ L))) ∧ Below w.heap.size w w' := by
  have hF := Fb.start w
  rw [← any_mem]
  obtain ⟨n, cap, hn, hnc, hcap, ⟨hn0, ao, rfl⟩ | ⟨hn0, b0, off, rfl, hc⟩⟩ := hv.cases
  all_goals
    clear hv
    go_enter Tryd.func94, Tryd.ntmps94
    go_wp2
    go_loopw [5] (fun i wr => ∃ k : Nat, k ≤ n ∧ i = .int .i64 k ∧ Hid ((L.take k).any (fun x => x == h) = false) ∧ Fb w wr []) (fun i _ => n - (intOf i).toNat)
    case atStart => exact ⟨0, Nat.zero_le _, rfl, rfl, hF⟩
    case round =>
      clear hF
      obtain ⟨k, hk, rfl, hany, hF⟩ := hrel
      by_cases hlt : k < n
      · try (exfalso; omega)
        all_goals
          obtain ⟨x, hx⟩ := get_of hn.out hlt
          have HX := Lib.hid hx; clear hx
          have c0 := hF.old (hc.out k x HX.out)
          by_cases hxh : x = h
          · have hp := Lib.hid (any_hit (p := fun x => x == h) HX.out (by simp [hxh]))
            have d1 : (x == h) = true := by simp [hxh]
            clear hxh
            go_wp2
            go_ret
            exact ⟨by rw [hp.out]; rfl, hF.kp⟩
          · have hp := Lib.hid (any_step (p := fun x => x == h) hany.out HX.out (by simpa using hxh))
            have d1 : (x == h) = false := by simp [hxh]
            clear hxh
            go_wp2
            go_roundw
            case rel => exact ⟨k + 1, by omega, by go_num, hp, hF⟩
            case measure => simp [intOf]; omega
      · have hp := Lib.hid (any_end (p := fun x => x == h) hany.out (by rw [hn.out]; omega))
        go_wp2
        go_ret
        exact ⟨by rw [hp.out]; rfl, hF.kp⟩
theorem nodup_len : ∀ (L K : List Int), L.Nodup → (∀ x ∈ L, x ∈ K) → L.length ≤ K.length
  | [], K, _, _ => Nat.zero_le _
  | x :: L, K, hn, hs => by
    rw [List.nodup_cons] at hn
    have hx := hs x (List.mem_cons_self ..)
    have ih := nodup_len L (K.erase x) hn.2 (fun y hy => (List.mem_erase_of_ne (show y ≠ x from fun e => hn.1 (by rw [← e]; exact hy))).2 (hs y (List.mem_cons_of_mem _ hy)))
    rw [List.length_erase_of_mem hx] at ih
    have := List.length_pos_of_mem hx
    simp only [List.length_cons]; omega
end Go.Proofs.YtonojegnbcgnaaaDoor
set_option linter.unusedSimpArgs false
set_option linter.unusedVariables false
namespace Go.Proofs.YtonojegnbcgnaaaDoor
open Go.RowKit

theorem infoRow : (Tryd.prog.info? 25).map (fun i => (i.zero, i.size, i.bytes)) = some (some (.slice none 0 0), 1, 24) := by kernel_rfl
theorem make_ints (n : Nat) (hn : n ≤ 1000) (w : World) : (Instr.makeSlice 25 (.int .i64 n) (.int .i64 n)).run Tryd.prog w = .ok (.slice (some ⟨w.heap.size, 0, none⟩) n n) (w.alloc (.cells (zarr n) 3)) := by
  obtain ⟨j0, hj, hy0, hy1, hy2⟩ := info_parts infoInt
  have := run_make (P := Tryd.prog) w 25 3 j0 (.int .i64 0) Tryd.underlying25 hj hy0 .i64 .i64 n n (by omega) (Int.le_refl _) (by rw [hy2]; omega) (by omega)
  rw [hy1] at this
  simpa [zarr, Value.cells] using this

theorem l12Back_3 (w : World) : Calls Tryd.prog 99 #[.int .i64 3] w fun e w' => e = .returned (.int .i64 1) ∧ Below w.heap.size w w' := l12Back_any 3 (by omega) (by omega) w
theorem bk_bd {r : Int} (h0 : 0 ≤ r) (h3 : r ≤ 3) : 0 ≤ bk r ∧ bk r ≤ 3 := by
  unfold bk; repeat' split
  all_goals omega
set_option maxRecDepth 100000 in
set_option maxHeartbeats 4000000 in
theorem l91Rels_any (r k : Nat) (w : World) (hR : Rd w r k) (hk : k ≤ 700000) :
    Calls Tryd.prog 65 #[.pointer (some ⟨r, 0, none⟩)] w fun e w' => ∃ (v : Value) (vs : List Value) (n : Nat), e = .returned v ∧ 2 ≤ n ∧ n ≤ 5 ∧ vs.length = n ∧ MatO 25 w' w.heap.size n v vs ∧ (∃ k', k' ≤ k + 100 ∧ Rd w' r k') ∧ Kp r w w' := by
  have hr := hR.lt
  obtain ⟨i0, hi, hz0, hz1, hz2⟩ := info_parts infoRow
  have hF := Fr.start r w
  go_enter Tryd.func65, Tryd.ntmps65
  go_wp2_with fail
  refine (pick_any r _ _ _ hR (by omega) (by omega) (by omega)).mono ?_; rintro e w1 ⟨v1, rfl, u1, l1, hR1, hK1⟩
  replace hF := hF.call hK1
  have hs1 := hK1.size
  clear hR hK1
  obtain ⟨n, hn⟩ : ∃ n : Nat, (n : Int) = 2 + v1 := ⟨(2 + v1).toNat, by omega⟩
  have hn2 : 2 ≤ n := by omega
  have hn5 : n ≤ 5 := by omega
  have hO : (w1.alloc (.cells #[] 25)).ownsRow w.heap.size 25 1 (.slice (some ⟨w1.heap.size, 0, none⟩) 0 0) 0 [] := World.ownsRow_made (hb := hs1) (hm := Nat.zero_le _) (hs := rfl)
  have hM : MatO 25 (w1.alloc (.cells #[] 25)) w.heap.size n (.slice (some ⟨w1.heap.size, 0, none⟩) 0 0) [] := ⟨hO, fun u h => by cases h⟩
  replace hF := hF.other (.cells #[] 25)
  have hR := hR1.alloc (.cells #[] 25)
  have hmk := make_ints n (by omega)
  clear hO hR1
  have hs := hF.kp.size
  go_wp2
  rw [← hn]
  clear hn u1 l1 hs1
  go_loopw [4, 5] (fun v i wr => ∃ (j : Nat) (vs : List Value), i = .int .i64 j ∧ j ≤ n ∧ vs.length = j ∧ MatO 25 wr w.heap.size n v vs ∧ Rd wr r (k + 1) ∧ Fr r w wr [] ∧ w.heap.size ≤ wr.heap.size) (fun _ i _ => n - (intOf i).toNat)
  case atStart => exact ⟨0, [], rfl, Nat.zero_le _, rfl, hM, hR, hF, hs⟩
  case round =>
    clear hM hR hF hs
    obtain ⟨j, vs, rfl, hj, hvs, hM, hR, hF, hs⟩ := hrel
    have HVS := Lib.hid hvs
    clear hvs
    by_cases hlt : j < n
    · go_wp2_with (at_builtin; refine wpList_append_own _ rfl _ _ 49 rfl w.heap.size 25 i0 (.slice none 0 0) 1 24 Tryd.underlying49 hi hz0 hz1 hz2 rfl (by decide) _ _ _ rfl ((hM.alloc _).alloc _).own ⟨_, 0, none⟩ 1 1 [_] rfl rfl (cells_new' _ _ _ (by simp)) (by simp [Value.oneCell']) (le_maxLen (by have := HVS.out; omega)) (by have := HVS.out; omega) (by simp only [World.size_alloc]; omega) ?_; intro v' wa hO1 hg1 hz9; clear hz9)
      have hg2 : ((wr.alloc (.cells (zarr n) 3)).alloc (.cells #[.slice (some ⟨wr.heap.size, 0, none⟩) n n] 25)).grownBy wa u4.ownBlock := hg1
      have hMa := (hM.alloc (.cells (zarr n) 3)).alloc (.cells #[.slice (some ⟨wr.heap.size, 0, none⟩) n n] 25)
      have hb1 := own_grown hMa.own hg2 (by simp only [World.size_alloc]; omega)
      have hrow := (IRow.made (B := w.heap.size) 3 (show n ≤ 9223372036854775807 by omega) hs).grown (World.grownBy_alloc _ (.cells #[.slice (some ⟨wr.heap.size, 0, none⟩) n n] 25) none) (fun g e => by simp)
      have hMO := hMa.append (by omega) hrow (fun g e he => by injection e with e; have := (hM.own.lt g he.symm).2; dsimp only at e; omega) hg2 hO1
      replace hF := ((hF.other (.cells (zarr n) 3)).other (.cells #[.slice (some ⟨wr.heap.size, 0, none⟩) n n] 25)).belowB hb1 (Nat.le_refl _) (by simp)
      replace hR := ((hR.alloc (.cells (zarr n) 3)).alloc (.cells #[.slice (some ⟨wr.heap.size, 0, none⟩) n n] 25)).below hb1 hr
      have hs' : w.heap.size ≤ wa.heap.size := hF.kp.size
      clear hM hMa hg1 hg2 hO1 hb1 hrow
      go_roundw
      case rel => exact ⟨j + 1, vs ++ [_], by go_num, by omega, by rw [List.length_append, HVS.out]; rfl, hMO, hR, hF, hs'⟩
      case measure => simp [intOf]; omega
    · obtain rfl : j = n := by omega
      clear hj hlt hmk
      obtain ⟨go, cap, rfl, hgc, hcap, hgo⟩ := hM.slice (by rw [HVS.out]; omega)
      rw [HVS.out] at hM hgc ⊢
      go_wp2_with fail
      refine (pick_any r _ _ _ hR (by omega) (by omega) (by omega)).mono ?_; rintro e w2 ⟨v2, rfl, u2, l2, hR2, hK2⟩
      replace hF := hF.call hK2
      replace hM := hM.kp hK2 hr
      have hs2 := hK2.size
      replace hR := hR2
      replace hs := hF.kp.size
      clear hR2 hK2 hs2
      obtain ⟨ring, hring⟩ : ∃ ring : Bool, (v2 == 0) = ring := ⟨_, rfl⟩
      go_wp2
      clear hring u2 l2
      go_loopw [7] (fun a wr => ∃ (p k' : Nat), a = .int .i64 p ∧ p ≤ j ∧ k' + 10 * (j - p) ≤ k + 60 ∧ MatO 25 wr w.heap.size j (.slice (some ⟨go, 0, none⟩) j cap) vs ∧ Rd wr r k' ∧ Fr r w wr [] ∧ w.heap.size ≤ wr.heap.size) (fun a _ => j - (intOf a).toNat)
      case atStart => exact ⟨0, k + 1 + 1, rfl, Nat.zero_le _, by omega, hM, hR, hF, hs⟩
      case round =>
        clear hM hR hF hs
        obtain ⟨p, k', rfl, hp, hk', hM, hR, hF, hs⟩ := hrel
        by_cases hlt : p < j
        · go_wp2
          go_loopw [8] (fun b wr => ∃ (q k2 : Nat), b = .int .i64 q ∧ q ≤ j ∧ k2 + 2 * (j - q) + 10 * (j - p - 1) ≤ k + 60 ∧ MatO 25 wr w.heap.size j (.slice (some ⟨go, 0, none⟩) j cap) vs ∧ Rd wr r k2 ∧ Fr r w wr [] ∧ w.heap.size ≤ wr.heap.size) (fun b _ => j - (intOf b).toNat)
          case atStart => exact ⟨p + 1, k', by go_num, by omega, by omega, hM, hR, hF, hs⟩
          case round =>
            clear hM hR hF hs
            obtain ⟨q, k2, rfl, hq, hk2, hM, hR, hF, hs⟩ := hrel
            by_cases hlq : q < j
            · have c3 : (wr.alloc (.cells #[.int .i64 0, .int .i64 1, .int .i64 1, .int .i64 2] 3)).cell? ⟨wr.heap.size, 0, none⟩ = some (.int .i64 0) ∧ (wr.alloc (.cells #[.int .i64 0, .int .i64 1, .int .i64 1, .int .i64 2] 3)).cell? ⟨wr.heap.size, 1, none⟩ = some (.int .i64 1) ∧ (wr.alloc (.cells #[.int .i64 0, .int .i64 1, .int .i64 1, .int .i64 2] 3)).cell? ⟨wr.heap.size, 2, none⟩ = some (.int .i64 1) ∧ (wr.alloc (.cells #[.int .i64 0, .int .i64 1, .int .i64 1, .int .i64 2] 3)).cell? ⟨wr.heap.size, 3, none⟩ = some (.int .i64 2) := by simp
              go_wp2_with fail
              refine (pick_any r _ _ _ (hR.alloc _) (by omega) (by omega) (by omega)).mono ?_; rintro e w4 ⟨v4, rfl, u4, l4, hR4, hK4⟩
              have hbits : ∃ x : Int, 0 ≤ x ∧ x ≤ 3 ∧ w4.cell? ⟨wr.heap.size, v4.toNat, none⟩ = some (.int .i64 x) := by
                have hne : wr.heap.size ≠ r := by omega
                have : v4 = 0 ∨ v4 = 1 ∨ v4 = 2 ∨ v4 = 3 := by omega
                rcases this with rfl | rfl | rfl | rfl
                · exact ⟨0, by omega, by omega, hK4.cell c3.1 hne⟩
                · exact ⟨1, by omega, by omega, hK4.cell c3.2.1 hne⟩
                · exact ⟨1, by omega, by omega, hK4.cell c3.2.2.1 hne⟩
                · exact ⟨2, by omega, by omega, hK4.cell c3.2.2.2 hne⟩
              obtain ⟨x, x0, x3, hx⟩ := hbits
              replace hF := (hF.other _).call hK4
              replace hM := (hM.alloc _).kp hK4 hr
              have hs4 := hF.kp.size
              clear hR hK4 c3 hs
              cases ring
              · have hR := hR4
                clear hR4
                obtain ⟨gp, cp, hup, hcp, hcp1, hcp2, -, hrp⟩ := hM.at rfl (i := p) (by rw [HVS.out]; exact hlt)
                obtain ⟨xo, e1, -, -, e4⟩ := hrp q hlq
                go_upto_region 18 with (fail)
                replace hM := hM.store (i := p) (j := q) (by omega) hup x0 (by omega)
                replace hF := hF.setAway ⟨gp, q, none⟩ (.int .i64 (x)) (by have := (hM.rows _ (List.mem_of_getElem? hup)); obtain ⟨_, _, e, _, _, hg, _⟩ := this; injection e with e _ _; injection e with e; injection e with e _ _; rw [e]; exact hg) (by simp)
                replace hR := hR.setCell (p := ⟨gp, q, none⟩) (by have := (hM.rows _ (List.mem_of_getElem? hup)); obtain ⟨_, _, e, _, _, hg, _⟩ := this; injection e with e _ _; injection e with e; injection e with e _ _; dsimp only; omega) (.int .i64 (x))
                clear hcp hrp e1 e4
                have hMd := hM.drew
                obtain ⟨gq, cq, huq, hcq, hcq1, hcq2, hgq, hrq⟩ := hMd.at rfl (i := q) (by rw [HVS.out]; exact hlq)
                obtain ⟨xo2, f1, -, -, f4⟩ := hrq p hlt
                clear hrq
                go_region_with (go_at_call 99; go_must (refine (l12Back_any _ (by omega) (by omega) _).mono ?_); rintro e w6 ⟨rfl, hb6⟩; have hM6 := hMd.below hb6; have g0 := (hb6.cell (World.block_lt_of_cell? _ _ hcq)).trans hcq; have g1 := (hb6.cell (World.block_lt_of_cell? _ _ f1)).trans f1; have g4 := (hb6.frozen (World.block_lt_of_cell? _ _ f1)).trans f4; have hF6 := Fr.below (hF.drew) hb6; have hR6 := Rd.below (hR.drew) hb6 (by have := hR.lt; simp at this ⊢; omega))
                all_goals
                  have hbb := bk_bd (r := x) (by omega) (by omega)
                  have hM7 := hM6.store (i := q) (j := p) (by omega) huq (y := bk (x)) hbb.1 (by omega)
                  have hF7 := hF6.setAway ⟨gq, p, none⟩ (.int .i64 (bk (x))) hgq (by simp)
                  have hR7 := hR6.setCell (p := ⟨gq, p, none⟩) (by dsimp only; omega) (.int .i64 (bk (x)))
                  have hs7 := hF7.kp.size
                  clear hM hMd hM6 hF hF6 hR hR6 hcq f1 f4 g0 g1 g4 hb6
                  go_wp2
                  go_roundw
                  case rel => exact ⟨q + 1, k2 + 1, by go_num, by omega, by omega, hM7, hR7, hF7, hs7⟩
                  case measure => simp [intOf]; omega
              · go_wp2_with fail
                refine (pick_any r _ _ _ hR4 (by omega) (by omega) (by omega)).mono ?_; rintro e w5 ⟨v5, rfl, u5, l5, hR5, hK5⟩
                replace hF := hF.call hK5
                replace hM := hM.kp hK5 hr
                have hR := hR5
                have hs5 := hF.kp.size
                clear hR4 hR5 hK5 hs4 hx
                by_cases h5 : v5 = 0
                · have e5 : (v5 == 0) = true := by simp [h5]
                  clear h5
                  go_upto_region 17 with (fail)
                  obtain ⟨y, hy⟩ : ∃ y : Int, y = 3 := ⟨3, rfl⟩
                  have y0 : 0 ≤ y := by omega
                  have y3 : y ≤ 3 := by omega
                  rw [← hy]
                  clear hy e5
                  obtain ⟨gp, cp, hup, hcp, hcp1, hcp2, -, hrp⟩ := hM.at rfl (i := p) (by rw [HVS.out]; exact hlt)
                  obtain ⟨xo, e1, -, -, e4⟩ := hrp q hlq
                  go_upto_region 18 with (fail)
                  replace hM := hM.store (i := p) (j := q) (by omega) hup y0 (by omega)
                  replace hF := hF.setAway ⟨gp, q, none⟩ (.int .i64 (y)) (by have := (hM.rows _ (List.mem_of_getElem? hup)); obtain ⟨_, _, e, _, _, hg, _⟩ := this; injection e with e _ _; injection e with e; injection e with e _ _; rw [e]; exact hg) (by simp)
                  replace hR := hR.setCell (p := ⟨gp, q, none⟩) (by have := (hM.rows _ (List.mem_of_getElem? hup)); obtain ⟨_, _, e, _, _, hg, _⟩ := this; injection e with e _ _; injection e with e; injection e with e _ _; dsimp only; omega) (.int .i64 (y))
                  clear hcp hrp e1 e4
                  have hMd := hM.drew
                  obtain ⟨gq, cq, huq, hcq, hcq1, hcq2, hgq, hrq⟩ := hMd.at rfl (i := q) (by rw [HVS.out]; exact hlq)
                  obtain ⟨xo2, f1, -, -, f4⟩ := hrq p hlt
                  clear hrq
                  go_region_with (go_at_call 99; go_must (refine (l12Back_any _ (by omega) (by omega) _).mono ?_); rintro e w6 ⟨rfl, hb6⟩; have hM6 := hMd.below hb6; have g0 := (hb6.cell (World.block_lt_of_cell? _ _ hcq)).trans hcq; have g1 := (hb6.cell (World.block_lt_of_cell? _ _ f1)).trans f1; have g4 := (hb6.frozen (World.block_lt_of_cell? _ _ f1)).trans f4; have hF6 := Fr.below (hF.drew) hb6; have hR6 := Rd.below (hR.drew) hb6 (by have := hR.lt; simp at this ⊢; omega))
                  all_goals
                    have hbb := bk_bd (r := y) (by omega) (by omega)
                    have hM7 := hM6.store (i := q) (j := p) (by omega) huq (y := bk (y)) hbb.1 (by omega)
                    have hF7 := hF6.setAway ⟨gq, p, none⟩ (.int .i64 (bk (y))) hgq (by simp)
                    have hR7 := hR6.setCell (p := ⟨gq, p, none⟩) (by dsimp only; omega) (.int .i64 (bk (y)))
                    have hs7 := hF7.kp.size
                    clear hM hMd hM6 hF hF6 hR hR6 hcq f1 f4 g0 g1 g4 hb6
                    go_wp2
                    go_roundw
                    case rel => exact ⟨q + 1, k2 + 1 + 1, by go_num, by omega, by omega, hM7, hR7, hF7, hs7⟩
                    case measure => simp [intOf]; omega
                · have e5 : (v5 == 0) = false := by simp [h5]
                  clear h5
                  obtain ⟨gp, cp, hup, hcp, hcp1, hcp2, -, hrp⟩ := hM.at rfl (i := p) (by rw [HVS.out]; exact hlt)
                  obtain ⟨xo, e1, -, -, e4⟩ := hrp q hlq
                  go_upto_region 18 with (fail)
                  replace hM := hM.store (i := p) (j := q) (by omega) hup x0 (by omega)
                  replace hF := hF.setAway ⟨gp, q, none⟩ (.int .i64 (x)) (by have := (hM.rows _ (List.mem_of_getElem? hup)); obtain ⟨_, _, e, _, _, hg, _⟩ := this; injection e with e _ _; injection e with e; injection e with e _ _; rw [e]; exact hg) (by simp)
                  replace hR := hR.setCell (p := ⟨gp, q, none⟩) (by have := (hM.rows _ (List.mem_of_getElem? hup)); obtain ⟨_, _, e, _, _, hg, _⟩ := this; injection e with e _ _; injection e with e; injection e with e _ _; dsimp only; omega) (.int .i64 (x))
                  clear hcp hrp e1 e4
                  have hMd := hM.drew
                  obtain ⟨gq, cq, huq, hcq, hcq1, hcq2, hgq, hrq⟩ := hMd.at rfl (i := q) (by rw [HVS.out]; exact hlq)
                  obtain ⟨xo2, f1, -, -, f4⟩ := hrq p hlt
                  clear hrq
                  go_region_with (go_at_call 99; go_must (refine (l12Back_any _ (by omega) (by omega) _).mono ?_); rintro e w6 ⟨rfl, hb6⟩; have hM6 := hMd.below hb6; have g0 := (hb6.cell (World.block_lt_of_cell? _ _ hcq)).trans hcq; have g1 := (hb6.cell (World.block_lt_of_cell? _ _ f1)).trans f1; have g4 := (hb6.frozen (World.block_lt_of_cell? _ _ f1)).trans f4; have hF6 := Fr.below (hF.drew) hb6; have hR6 := Rd.below (hR.drew) hb6 (by have := hR.lt; simp at this ⊢; omega))
                  all_goals
                    have hbb := bk_bd (r := x) (by omega) (by omega)
                    have hM7 := hM6.store (i := q) (j := p) (by omega) huq (y := bk (x)) hbb.1 (by omega)
                    have hF7 := hF6.setAway ⟨gq, p, none⟩ (.int .i64 (bk (x))) hgq (by simp)
                    have hR7 := hR6.setCell (p := ⟨gq, p, none⟩) (by dsimp only; omega) (.int .i64 (bk (x)))
                    have hs7 := hF7.kp.size
                    clear hM hMd hM6 hF hF6 hR hR6 hcq f1 f4 g0 g1 g4 hb6
                    go_wp2
                    go_roundw
                    case rel => exact ⟨q + 1, k2 + 1 + 1, by go_num, by omega, by omega, hM7, hR7, hF7, hs7⟩
                    case measure => simp [intOf]; omega
            · go_wp2
              go_roundw
              case rel => exact ⟨p + 1, k2, by go_num, by omega, by omega, hM, hR, hF, hs⟩
              case measure => simp [intOf]; omega
        · obtain rfl : p = j := by omega
          clear hp hlt
          go_wp2_with fail
          refine (pick_any r _ _ _ hR (by omega) (by omega) (by omega)).mono ?_; rintro e w7 ⟨v7, rfl, u7, l7, hR7, hK7⟩
          replace hF := hF.call hK7
          replace hM := hM.kp hK7 hr
          replace hR := hR7
          replace hs := hF.kp.size
          clear hR7 hK7
          by_cases h7 : v7 = 0
          · have e7 : (v7 == 0) = true := by simp [h7]
            clear h7
            have hrl := hR.lt
            have hO : (w7.alloc (.cells #[] 25)).ownsRow w7.heap.size 25 1 (.slice (some ⟨w7.heap.size, 0, none⟩) 0 0) 0 [] := World.ownsRow_made (hb := Nat.le_refl _) (hm := Nat.zero_le _) (hs := rfl)
            have hM2 : MatO 25 (w7.alloc (.cells #[] 25)) w7.heap.size p (.slice (some ⟨w7.heap.size, 0, none⟩) 0 0) [] := ⟨hO, fun u h => by cases h⟩
            have hB := (Below.refl w7.heap.size w7).alloc (Nat.le_refl _) (.cells #[] 25)
            clear hO
            have HM7 := Lib.hid hM
            have HF7 := Lib.hid hF
            have HR7 := Lib.hid hR
            clear hM hF hR
            have hjm : ((p : Int) - 1) = ((p - 1 : Nat) : Int) := by omega
            have HJ := Lib.hid hjm; clear hjm
            go_wp2
            go_loopw [10, 11] (fun v2 a wr => ∃ (m : Nat) (vs2 : List Value), ((m = 0 ∧ a = .int .i64 (-1)) ∨ ∃ m', m = m' + 1 ∧ a = .int .i64 (m' : Nat)) ∧ m ≤ p ∧ vs2.length + m = p ∧ MatO 25 wr w7.heap.size p v2 vs2 ∧ Below w7.heap.size w7 wr) (fun _ a _ => (intOf a + 1).toNat)
            case atStart => exact ⟨p, [], Or.inr ⟨p - 1, by omega, by rw [← HJ.out]⟩, Nat.le_refl _, by simp, hM2, hB⟩
            case round =>
              clear hM2 hB
              obtain ⟨m, vs2, hma, hmp, hvl, hM2, hB⟩ := hrel
              rcases hma with ⟨rfl, rfl⟩ | ⟨m', rfl, rfl⟩
              · have HL : vs2.length = p := by omega
                obtain ⟨go', cap', rfl, hgc', hcap', hgo'⟩ := hM2.slice (by omega)
                have hsz7 := HF7.out.kp.size
                replace hM2 := hM2.base hsz7
                rw [HL] at hM2 hgc' ⊢
                have hM := hM2
                have hF := HF7.out.below hB
                have hR := HR7.out.below hB hrl
                clear hM2 hB
                replace hs := hF.kp.size
                go_wp2_with fail
                refine (pick_any r _ _ _ hR (by omega) (by omega) (by omega)).mono ?_; rintro e w8 ⟨v8, rfl, u8, l8, hR8, hK8⟩
                replace hF := hF.call hK8
                replace hM := hM.kp hK8 hr
                replace hR := hR8
                clear hR8 hK8
                by_cases h8 : v8 = 0
                · have e8 : (v8 == 0) = true := by simp [h8]
                  clear h8
                  obtain ⟨gp, cp, hup, hcp, hcp1, hcp2, hgp, hrp⟩ := hM.drew.at rfl (i := 0) (by omega)
                  obtain ⟨xo, e1, -, -, e4⟩ := hrp 1 (by omega)
                  have hRd := hR.drew
                  have hne : go' ≠ r := by omega
                  have hnp : gp ≠ r := by omega
                  go_upto_region 32 with (fail)
                  go_region_with (go_at_call 37; go_must (refine (pick_any r _ _ _ hRd (by omega) (by omega) (by omega)).mono ?_); rintro e w9 ⟨v9, rfl, u9, l9, hR9, hK9⟩; have hM9 := (hM.drew).kp hK9 hr; have g0 := hK9.cell hcp hne; have g1 := hK9.cell e1 hnp; have g4 := (hK9.frozen (World.block_lt_of_cell? _ _ e1) hnp).trans e4; have hF9 := Fr.call (hF.drew) hK9)
                  all_goals
                    have hM7 := hM9.store (i := 0) (j := 1) (by omega) hup (y := v9) u9 (by omega)
                    have hF7 := hF9.setAway ⟨gp, 1, none⟩ (.int .i64 v9) hgp (by simp)
                    have hR7 := hR9.setCell (p := ⟨gp, 1, none⟩) (by dsimp only; omega) (.int .i64 v9)
                    clear hM hM9 hF hF9 hR hR9 hcp e1 e4 g0 g1 g4
                    go_wp2
                    go_ret
                    exact ⟨_, vs2, p, rfl, hn2, hn5, HL, hM7, ⟨_, by omega, hR7⟩, hF7.kp⟩
                · have e8 : (v8 == 0) = false := by simp [h8]
                  clear h8
                  go_wp2
                  go_ret
                  exact ⟨_, vs2, p, rfl, hn2, hn5, HL, hM, ⟨_, by omega, hR⟩, hF.kp⟩
              · go_wp2
                obtain ⟨wo, rfl⟩ : ∃ wo : World, wo = wr := ⟨_, rfl⟩
                have hO3 : (wo.alloc (.cells #[] 3)).ownsRow wo.heap.size 3 1 (.slice (some ⟨wo.heap.size, 0, none⟩) 0 0) 0 (([] : List Int).map (Value.int .i64)) := World.ownsRow_made (hb := Nat.le_refl _) (hm := Nat.zero_le _) (hs := rfl)
                have hB3 := (Below.refl wo.heap.size wo).alloc (Nat.le_refl _) (.cells #[] 3)
                have HM2 := Lib.hid hM2
                have HB := Lib.hid hB
                clear hM2 hB
                obtain ⟨j0, hj, hy0, hy1, hy2⟩ := info_parts infoInt
                go_loopw [12, 13] (fun rv b wq => ∃ (q : Nat) (xs : List Int), ((q = 0 ∧ b = .int .i64 (-1)) ∨ ∃ q', q = q' + 1 ∧ b = .int .i64 (q' : Nat)) ∧ q ≤ p ∧ xs.length + q = p ∧ Hid (∀ x ∈ xs, 0 ≤ x ∧ x ≤ 9) ∧ wq.ownsRow wo.heap.size 3 1 rv xs.length (xs.map (Value.int .i64)) ∧ Below wo.heap.size wo wq) (fun _ b _ => (intOf b + 1).toNat)
                case atStart => exact ⟨p, [], Or.inr ⟨p - 1, by omega, by rw [← HJ.out]⟩, Nat.le_refl _, by simp, fun x h => (by cases h), hO3, hB3⟩
                case round =>
                  clear hO3 hB3
                  obtain ⟨q, xs, hqb, hqp, hxl, hxs, hO3, hB3⟩ := hrel
                  have hq3 := hB3.size
                  rcases hqb with ⟨rfl, rfl⟩ | ⟨q', rfl, rfl⟩
                  · have hrow := irow_of_own hO3 rfl (by omega) hxs.out
                    obtain ⟨gr, cr, rfl, hr1, hr2, hr3, hr4⟩ := hrow
                    have hrow : IRow wr wo.heap.size xs.length (.slice (some ⟨gr, 0, none⟩) xs.length cr) := ⟨gr, cr, rfl, hr1, hr2, hr3, hr4⟩
                    have hMq := HM2.out.below hB3
                    have hsq := HB.out.size
                    clear hr4
                    go_wp2_with (at_builtin; refine wpList_append_own _ rfl _ _ 49 rfl w7.heap.size 25 i0 (.slice none 0 0) 1 24 Tryd.underlying49 hi hz0 hz1 hz2 rfl (by decide) _ _ _ rfl (hMq.alloc _).own ⟨_, 0, none⟩ 1 1 [_] rfl rfl (cells_new _ _ _) (by simp [Value.oneCell']) (le_maxLen (by omega)) (by omega) (by simp only [World.size_alloc]; omega) ?_; intro v' wa hO1 hg1 hz9; clear hz9)
                    have hg2 : (wr.alloc (.cells #[.slice (some ⟨gr, 0, none⟩) xs.length cr] 25)).grownBy wa u10.ownBlock := hg1
                    have hb1 := own_grown (hMq.alloc (.cells #[.slice (some ⟨gr, 0, none⟩) xs.length cr] 25)).own hg2 (by simp only [World.size_alloc]; omega)
                    have hxp : xs.length = p := by omega
                    have hrow2 : IRow (wr.alloc (.cells #[.slice (some ⟨gr, 0, none⟩) xs.length cr] 25)) w7.heap.size p (.slice (some ⟨gr, 0, none⟩) xs.length cr) := by
                      have h := hrow.grown (World.grownBy_alloc _ (.cells #[.slice (some ⟨gr, 0, none⟩) xs.length cr] 25) none) (fun g e => by simp)
                      obtain ⟨g, c, e, a1, a2, a3, a4⟩ := h
                      rw [hxp] at e a1 a4 ⊢
                      exact ⟨g, c, e, a1, a2, by omega, a4⟩
                    have hMO := (hMq.alloc (.cells #[.slice (some ⟨gr, 0, none⟩) xs.length cr] 25)).append (by omega) hrow2 (fun g e he => by injection e with e; have := (HM2.out.own.lt g he.symm).2; dsimp only at e; omega) hg2 hO1
                    have hBn : Below w7.heap.size w7 wa := ((HB.out.trans (hB3.mono hsq)).alloc (by omega) (.cells #[.slice (some ⟨gr, 0, none⟩) xs.length cr] 25)).trans hb1
                    clear hMq hg1 hg2 hO1 hb1 hrow hrow2 hO3 hB3
                    go_roundw
                    case rel => exact ⟨m', vs2 ++ [_], (by
                      cases m' with
                      | zero => exact Or.inl ⟨rfl, by simp⟩
                      | succ m'' => exact Or.inr ⟨m'', rfl, by go_num⟩), by omega, by rw [List.length_append]; simp; omega, hMO, hBn⟩
                    case measure => simp [intOf]
                  · have hMr := HM7.out.below (HB.out.trans (hB3.mono HB.out.size))
                    obtain ⟨gp, cp, hup, hcp, hcp1, hcp2, hgp, hrp⟩ := hMr.at rfl (i := m') (by rw [HVS.out]; omega)
                    obtain ⟨xo, e1, x0, x9, -⟩ := hrp q' (by omega)
                    have hm'p : m' < p := by omega
                    have hq'p : q' < p := by omega
                    clear hMr hrp
                    go_wp2_with (at_builtin; refine wpList_append_own _ rfl _ _ 25 rfl wo.heap.size 3 j0 (.int .i64 0) 1 8 Tryd.underlying25 hj hy0 hy1 hy2 rfl (by decide) _ _ _ rfl (hO3.alloc _) ⟨_, 0, none⟩ 1 1 [.int .i64 xo] rfl rfl (cells_new _ _ _) (by simp [Value.oneCell']) (le_maxLen (by omega)) (by omega) (by simp only [World.size_alloc]; omega) ?_; intro v' wa hO1 hg1 hz9; clear hz9)
                    have hg2 : (wr.alloc (.cells #[.int .i64 xo] 3)).grownBy wa u12.ownBlock := hg1
                    have hb1 := own_grown (hO3.alloc (.cells #[.int .i64 xo] 3)) hg2 (by simp only [World.size_alloc]; omega)
                    have hBn : Below wo.heap.size wo wa := (hB3.alloc hq3 (.cells #[.int .i64 xo] 3)).trans hb1
                    have hxs2 : Hid (∀ x ∈ xs ++ [xo], 0 ≤ x ∧ x ≤ 9) := fun x hx => by
                      rcases List.mem_append.1 hx with h | h
                      · exact hxs.out x h
                      · rw [List.mem_singleton.1 h]; exact ⟨x0, x9⟩
                    clear hg1 hg2 hb1 hO3 hB3 hcp e1
                    go_roundw
                    case rel => exact ⟨q', xs ++ [xo], (by
                      cases q' with
                      | zero => exact Or.inl ⟨rfl, by simp⟩
                      | succ q'' => exact Or.inr ⟨q'', rfl, by go_num⟩), by omega, by rw [List.length_append]; simp; omega, hxs2, by simpa using hO1, hBn⟩
                    case measure => simp [intOf]
          · have e7 : (v7 == 0) = false := by simp [h7]
            clear h7
            have hgo' : w.heap.size ≤ go := hgo
            have HL : vs.length = p := HVS.out
            replace hs := hF.kp.size
            go_wp2_with fail
            refine (pick_any r _ _ _ hR (by omega) (by omega) (by omega)).mono ?_; rintro e w8 ⟨v8, rfl, u8, l8, hR8, hK8⟩
            replace hF := hF.call hK8
            replace hM := hM.kp hK8 hr
            replace hR := hR8
            clear hR8 hK8
            by_cases h8 : v8 = 0
            · have e8 : (v8 == 0) = true := by simp [h8]
              clear h8
              obtain ⟨gp, cp, hup, hcp, hcp1, hcp2, hgp, hrp⟩ := hM.drew.at rfl (i := 0) (by omega)
              obtain ⟨xo, e1, -, -, e4⟩ := hrp 1 (by omega)
              have hRd := hR.drew
              have hne : go ≠ r := by omega
              have hnp : gp ≠ r := by omega
              go_upto_region 32 with (fail)
              go_region_with (go_at_call 37; go_must (refine (pick_any r _ _ _ hRd (by omega) (by omega) (by omega)).mono ?_); rintro e w9 ⟨v9, rfl, u9, l9, hR9, hK9⟩; have hM9 := (hM.drew).kp hK9 hr; have g0 := hK9.cell hcp hne; have g1 := hK9.cell e1 hnp; have g4 := (hK9.frozen (World.block_lt_of_cell? _ _ e1) hnp).trans e4; have hF9 := Fr.call (hF.drew) hK9)
              all_goals
                have hM7 := hM9.store (i := 0) (j := 1) (by omega) hup (y := v9) u9 (by omega)
                have hF7 := hF9.setAway ⟨gp, 1, none⟩ (.int .i64 v9) hgp (by simp)
                have hR7 := hR9.setCell (p := ⟨gp, 1, none⟩) (by dsimp only; omega) (.int .i64 v9)
                clear hM hM9 hF hF9 hR hR9 hcp e1 e4 g0 g1 g4
                go_wp2
                go_ret
                exact ⟨_, vs, p, rfl, hn2, hn5, HL, hM7, ⟨_, by omega, hR7⟩, hF7.kp⟩
            · have e8 : (v8 == 0) = false := by simp [h8]
              clear h8
              go_wp2
              go_ret
              exact ⟨_, vs, p, rfl, hn2, hn5, HL, hM, ⟨_, by omega, hR⟩, hF.kp⟩
end Go.Proofs.YtonojegnbcgnaaaDoor
