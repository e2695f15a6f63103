/- The text of a path, by both: the walks. -/
import Derived.Test.YtgegmampnpgcaaaDoorPu
set_option linter.unusedSimpArgs false
set_option linter.unusedVariables false
namespace Go.Proofs.YtgegmampnpgcaaaDoor
open Go.RowKit

theorem PT_no {L : List Int} (h : ¬ POk L) : PT L = ⟨#[]⟩ := by unfold PT ptl; rw [if_neg h]
theorem PT_nil : PT [] = ⟨#[46]⟩ := by unfold PT ptl; rw [if_pos pok_nil, if_pos rfl]
theorem PT_yes {L : List Int} (h : POk L) (hL : L ≠ []) : PT L = ⟨(pts L).toArray⟩ := by unfold PT ptl; rw [if_pos h, if_neg hL]
theorem join_pts (L : List Int) : Lib.join ((L.map tI).map (·.data.toList)) [45] = pts L := by
  rw [← pts_join, List.map_map]; rfl
theorem map_step {L : List Int} {k : Nat} {x : Int} (h : L[k]? = some x) : (L.take (k + 1)).map tI = (L.take k).map tI ++ [tI x] := by
  rw [take_succ' h, List.map_append]; rfl
theorem pok_at {L : List Int} (h : POk L) {k : Nat} {x : Int} (hx : L[k]? = some x) : Bts x 1 5 := h.1 x (List.mem_of_getElem? hx)
theorem tI_one {x : Int} (h : Bts x 1 5) : (tI x).size = 1 := by
  show (Lib.itoa x).toArray.size = 1
  have := itoa_len1 (x := x) (by unfold Bts at h; omega) (by unfold Bts at h; omega)
  simpa using this
set_option maxHeartbeats 4000000 in
theorem iPathText_any (v : Value) (L : List Int) (a : Addr) (w : World) (hv : It w v L) (hE : EPath w a) (htab : Tab w) :
    Calls Tryd.prog 22 #[v] w fun e w' => e = .returned (.string (PT L)) ∧ Below w.heap.size w w' := by
  have hF := Fb.start w
  have h1 := hv.1
  by_cases hp : POk L
  · have d1 : decide (POk L) = true := by simp [hp]
    have HT := Lib.hid htab
    have HP := Lib.hid hp
    rcases hv.2 with rfl | ⟨b, off, n, c, rfl⟩
    · have hL : L = [] := by
        obtain ⟨ao, cap, e, _⟩ := h1.ex
        injection e with _ e
        exact List.length_eq_zero_iff.1 e.symm
      have hr : Hid (PT L = ⟨#[46]⟩) := by show _ = _; rw [hL]; exact PT_nil
      clear hp hv hL htab
      go_enter Tryd.func22, Tryd.ntmps22
      go_wp2_with (go_at_call 19; go_must (refine (iPathOk_any _ L a _ h1 hE).mono ?_); rintro e wx ⟨rfl, hbx⟩; replace hF := hF.below hbx; clear hbx)
      go_ret
      exact ⟨by rw [hr.out]; rfl, hF.kp⟩
    · have hl : L.length = n := by
        obtain ⟨ao, cap, e, _⟩ := h1.ex
        injection e with _ e; exact e.symm
      have hn := Lib.hid hl
      have hn5 : n ≤ 5 := by have := pok_len hp; omega
      by_cases hn0 : n = 0
      · subst hn0
        have hr : Hid (PT L = ⟨#[46]⟩) := by show _ = _; rw [List.length_eq_zero_iff.1 hl]; exact PT_nil
        clear hp hv hl htab
        go_enter Tryd.func22, Tryd.ntmps22
        go_wp2_with (go_at_call 19; go_must (refine (iPathOk_any _ L a _ h1 hE).mono ?_); rintro e wx ⟨rfl, hbx⟩; replace hF := hF.below hbx; clear hbx)
        go_ret
        exact ⟨by rw [hr.out]; rfl, hF.kp⟩
      · have hz : ((n : Int) == 0) = false := by simp [hn0]
        have hLne : L ≠ [] := fun e => hn0 (by rw [← hl, e]; rfl)
        have hr : Hid (PT L = ⟨(pts L).toArray⟩) := PT_yes hp hLne
        have hnp : 0 < n := by omega
        clear hp hv hl htab hn0 hLne
        go_enter Tryd.func22, Tryd.ntmps22
        go_wp2_with (go_at_call 19; go_must (refine (iPathOk_any _ L a _ h1 hE).mono ?_); rintro e wx ⟨rfl, hbx⟩; replace hF := hF.below hbx; clear hbx)
        have hO0 : Own 9 wx w.heap.size (.slice none 0 0) 1 encS [] := Own.nil _ _ _ _ _
        have HL := Lib.hid h1
        clear h1 hE
        go_loopw [3, 5, 16] (fun s3 s5 s16 wr => ∃ (k : Nat) (Q : List ByteArray), k ≤ n ∧ s16 = .int .i64 k ∧ Q.length ≤ 5 ∧ Hid (Q = (L.take k).map tI) ∧ Own 9 wr w.heap.size s3 1 encS Q ∧ Fb w wr []) (fun _ _ s16 _ => n - (intOf s16).toNat)
        case atStart => exact ⟨0, [], Nat.zero_le _, rfl, by simp, by show _ = _; simp, hO0, hF⟩
        case round =>
          clear hF hO0
          obtain ⟨k, Q, hk, rfl, hQ5, hQ, hO, hF⟩ := hrel
          by_cases hlt : k < n
          · obtain ⟨x, hx⟩ := get_of hn.out hlt
            have HX := Lib.hid hx
            have hB := pok_at HP.out hx
            have c0 := hF.old (Ints.get HL.out hx)
            have hQ2 : Hid (Q ++ [tI x] = (L.take (k + 1)).map tI) := by show _ = _; rw [hQ.out, map_step hx]
            have hlq : Q.length ≤ k := by rw [hQ.out, List.length_map, List.length_take]; omega
            have hb1 := hB.1
            have hb5 := hB.2
            have hIt := Lib.hid (fun w ht => Itoa_full x (by omega) (by omega) w ht)
            clear hx hB
            go_wp2_with (first | (go_at_call 54; go_must (refine (hIt.out _ (tab_below HT.out hF.kp)).mono ?_); rintro e wx ⟨rfl, hbx⟩; replace hF := hF.below hbx; replace hO := hO.below hbx; clear hbx) | (at_builtin; refine wpList_app rfl _ _ 73 rfl 9 (.string ⟨#[]⟩) 1 16 Tryd.underlying73 infoStr rfl (by decide) (by decide) w.heap.size encS _ _ rfl (hO.alloc _) ((tI x)) ⟨_, 0, none⟩ 1 rfl rfl (cells_new _ _ _) (by simp [encS, Value.oneCell']) (by omega) (by have := hF.kp.size; simp only [World.size_alloc]; omega) ?_; intro v' wx hO1 hg1 hb1 hf1; replace hO := hO1; replace hF := (hF.other _).belowB hb1 (Nat.le_refl _) (by simp); clear hO1 hg1 hb1 hf1))
            go_roundw
            case rel => exact ⟨k + 1, Q ++ [tI x], by omega, by go_num, by simp; omega, hQ2, hO, hF⟩
            case measure => simp [intOf]; omega
          · obtain rfl : n = k := by omega
            have hQe : Hid (Q = L.map tI) := by show _ = _; rw [hQ.out, List.take_of_length_le (by rw [hn.out]; omega)]
            have hQl : Q.length = n := by rw [hQe.out, List.length_map, hn.out]
            have HQl := Lib.hid hQl
            have hQs : Hid (∀ x ∈ Q, x.size ≤ 9) := by
              show ∀ x ∈ Q, _
              intro y hy
              rw [hQe.out] at hy
              obtain ⟨z, hz, rfl⟩ := List.mem_map.1 hy
              rw [tI_one (HP.out.1 z hz)]; omega
            have hj : Hid (Lib.join (Q.map (·.data.toList)) [45] = pts L) := by show _ = _; rw [hQe.out]; exact join_pts L
            have hjl : Hid ((Lib.join (Q.map (·.data.toList)) [45]).length ≤ 1000) := by
              show _ ≤ _
              rw [hj.out]
              have := pts_len (L := L) fun x hx => by have := HP.out.1 x hx; unfold Bts at this; omega
              rw [hn.out] at this; omega
            obtain ⟨g, c2, hsl, hgc, hgB⟩ : ∃ g c, _ = Value.slice (some ⟨g, 0, none⟩) n c ∧ n ≤ c ∧ w.heap.size ≤ g := by
              rcases hO.two with ⟨e, e2⟩ | ⟨g, c2, m, e, hmc, hm⟩
              · exfalso; rw [e2] at hQl; simp at hQl; omega
              · obtain rfl : m = n := by rw [← hm.out]; exact hQl
                exact ⟨g, c2, e, hmc, hO.ge g (by rw [e]; rfl)⟩
            subst hsl
            have hgl := hO.lt g rfl
            have hR := hO.rows (fun _ => rfl)
            clear hQl
            go_wp2_with fail
            refine (Join_full g n c2 Q _ HQl.out hgc (by omega) hQs.out hR hgl hjl.out).mono ?_; rintro e wy ⟨rfl, hby⟩
            go_wp2
            go_ret
            exact ⟨by rw [hr.out, hj.out]; rfl, (hF.below hby).kp⟩
  · have d1 : decide (POk L) = false := by simp [hp]
    have hr : Hid (PT L = ⟨#[]⟩) := PT_no hp
    clear hp
    obtain ⟨ao, cap, rfl, -⟩ := h1.ex
    clear hv htab
    go_enter Tryd.func22, Tryd.ntmps22
    go_wp2_with (go_at_call 19; go_must (refine (iPathOk_any _ L a _ h1 hE).mono ?_); rintro e wx ⟨rfl, hbx⟩; replace hF := hF.below hbx; clear hbx)
    go_ret
    exact ⟨by rw [hr.out]; rfl, hF.kp⟩
set_option maxHeartbeats 4000000 in
theorem sPathText_any (v : Value) (L : List Int) (w : World) (h1 : Ints w v L) :
    Calls Tryd.prog 23 #[v] w fun e w' => e = .returned (.string (PT L)) ∧ Below w.heap.size w w' := by
  have hF := Fb.start w
  by_cases hp : POk L
  · have d1 : decide (POk L) = true := by simp [hp]
    have HP := Lib.hid hp
    have hn5 := pok_len hp
    obtain ⟨n, cap, hn, hnc, hcap, ⟨hn0, ao, rfl⟩ | ⟨hn0, b0, off, rfl, hc⟩⟩ := h1.cases
    · obtain rfl : n = 0 := by omega
      have hr : Hid (PT L = ⟨#[46]⟩) := by show _ = _; rw [List.length_eq_zero_iff.1 hn.out]; exact PT_nil
      clear hp hn5
      go_enter Tryd.func23, Tryd.ntmps23
      go_wp2_with (go_at_call 20; go_must (refine (sPathOk_any _ L _ h1).mono ?_); rintro e wx ⟨rfl, hbx⟩; replace hF := hF.below hbx; clear hbx)
      go_loopw [3, 4] (fun s3 s4 wr => s3 = .string ⟨#[]⟩ ∧ s4 = .int .i64 0 ∧ Fb w wr []) (fun _ _ _ => 0)
      case atStart => exact ⟨rfl, rfl, hF⟩
      case round =>
        clear hF
        obtain ⟨rfl, rfl, hF⟩ := hrel
        go_wp2
        go_ret
        exact ⟨by rw [hr.out]; rfl, hF.kp⟩
    · have hLne : L ≠ [] := fun e => by have := hn.out; rw [e] at this; simp at this; omega
      have hr : Hid (PT L = ⟨(pts L).toArray⟩) := PT_yes hp hLne
      have hpn := Lib.hid (pts_ne (pok_nn hp) hLne)
      rw [hn.out] at hn5
      clear hp hLne
      go_enter Tryd.func23, Tryd.ntmps23
      go_wp2_with (go_at_call 20; go_must (refine (sPathOk_any _ L _ h1).mono ?_); rintro e wx ⟨rfl, hbx⟩; replace hF := hF.below hbx; clear hbx)
      clear h1
      go_loopw [3, 4] (fun s3 s4 wr => ∃ (k : Nat) (S : ByteArray), k ≤ n ∧ s4 = .int .i64 k ∧ s3 = .string S ∧ Hid (S = ⟨(pts (L.take k)).toArray⟩) ∧ S.size ≤ 2 * k ∧ Fb w wr []) (fun _ s4 _ => n - (intOf s4).toNat)
      case atStart => exact ⟨0, ⟨#[]⟩, Nat.zero_le _, rfl, rfl, rfl, by show 0 ≤ _; omega, hF⟩
      case round =>
        clear hF
        obtain ⟨k, S, hk, rfl, rfl, hS, hSz, hF⟩ := hrel
        by_cases hlt : k < n
        · obtain ⟨x, hx⟩ := get_of hn.out hlt
          have hB := pok_at HP.out hx
          have c0 := hF.old (hc.out k x hx)
          have ht1 := tI_one hB
          by_cases hk0 : k = 0
          · subst hk0
            have hS2 : Hid (S ++ tI x = ⟨(pts (L.take (0 + 1))).toArray⟩) := by
              show _ = _
              rw [hS.out, take_succ' hx]
              show (⟨_⟩ ++ (⟨(Lib.itoa x).toArray⟩ : ByteArray)) = _
              rw [ba_app]; simp [pts]
            have hz1 : (S ++ tI x).size ≤ 2 * (0 + 1) := by rw [ByteArray.size_append]; omega
            have c0' : wr.cell? ⟨b0, off, none⟩ = some (.int .i64 x) := by simpa using c0
            clear hx c0
            go_wp2_with (go_at_call 56; go_must (refine (l6Dec_any x hB _).mono ?_); rintro e wx ⟨rfl, hbx⟩; replace hF := hF.below hbx; clear hbx)
            go_roundw
            case rel => exact ⟨0 + 1, _, by omega, by go_num, rfl, hS2, hz1, hF⟩
            case measure => simp [intOf]; omega
          · have hkp : (0 : Int) < k := by omega
            have hkp2 : 0 < k := by omega
            have hS2 : Hid ((S ++ ⟨#[45]⟩) ++ tI x = ⟨(pts (L.take (k + 1))).toArray⟩) := by
              show _ = _
              rw [hS.out, take_succ' hx, pts_snoc _ _ (fun e => by have := congrArg List.length e; rw [List.length_take, hn.out] at this; simp at this; omega)]
              show ((⟨_⟩ ++ (⟨[45].toArray⟩ : ByteArray)) ++ (⟨(Lib.itoa x).toArray⟩ : ByteArray)) = _
              rw [ba_app, ba_app]; simp
            have hz0 : (S ++ ⟨#[45]⟩).size ≤ 2 * k + 1 := by rw [ByteArray.size_append]; show S.size + 1 ≤ _; omega
            have hz1 : ((S ++ ⟨#[45]⟩) ++ tI x).size ≤ 2 * (k + 1) := by rw [ByteArray.size_append]; omega
            clear hx hk0
            go_wp2_with (go_at_call 56; go_must (refine (l6Dec_any x hB _).mono ?_); rintro e wx ⟨rfl, hbx⟩; replace hF := hF.below hbx; clear hbx)
            go_roundw
            case rel => exact ⟨k + 1, _, by omega, by go_num, rfl, hS2, hz1, hF⟩
            case measure => simp [intOf]; omega
        · have hSe : Hid (S = ⟨(pts L).toArray⟩) := by show _ = _; rw [hS.out, List.take_of_length_le (by rw [hn.out]; omega)]
          have e1 : S.toList.isEmpty = false := by
            rw [hSe.out, ByteArray.toList_eq]
            simpa using hpn.out
          have e2 : ¬ S.toList = [] := by
            rw [hSe.out, ByteArray.toList_eq]
            simpa using hpn.out
          go_wp2
          go_ret
          exact ⟨by rw [hr.out, hSe.out]; rfl, hF.kp⟩
  · have d1 : decide (POk L) = false := by simp [hp]
    have hr : Hid (PT L = ⟨#[]⟩) := PT_no hp
    clear hp
    go_enter Tryd.func23, Tryd.ntmps23
    go_wp2_with (go_at_call 20; go_must (refine (sPathOk_any _ L _ h1).mono ?_); rintro e wx ⟨rfl, hbx⟩; replace hF := hF.below hbx; clear hbx)
    go_ret
    exact ⟨by rw [hr.out]; rfl, hF.kp⟩
end Go.Proofs.YtgegmampnpgcaaaDoor
