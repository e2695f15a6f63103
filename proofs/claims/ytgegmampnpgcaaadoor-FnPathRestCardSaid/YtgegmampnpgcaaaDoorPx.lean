/- FnPathRest: the walk. -/
import Derived.Test.YtgegmampnpgcaaaDoorPv
import Derived.Test.YtgegmampnpgcaaaDoorPp
import Derived.Test.YtgegmampnpgcaaaDoorEj
import Derived.Test.YtgegmampnpgcaaaDoorLi
import Derived.Test.YtgegmampnpgcaaaDoorEi
import Derived.IntWalk
set_option linter.unusedSimpArgs false
set_option linter.unusedVariables false
namespace Go.Proofs.YtgegmampnpgcaaaDoor
open Go.RowKit

theorem lyInts_sameP (v1 v2 : Value) (L : List Int) (w : World) (h1 : Ints w v1 L) (h2 : Ints w v2 L) :
    Calls Tryd.prog 25 #[v1, v2] w fun e w' => e = .returned (.bool true) ∧ Below w.heap.size w w' := by
  have := lyInts_any v1 v2 L L w h1 h2
  rwa [decide_eq_true rfl] at this
theorem drop_cons {L : List Int} {k : Nat} {x : Int} (h : L[k]? = some x) : x :: L.drop (k + 1) = L.drop k := (drop_at h).symm
theorem rest_add {L : List Int} {k : Nat} {x : Int} (hp : POk L) (h : L[k]? = some x) : PAdd (L.drop (k + 1)) x := by
  have h1 := pok_drop hp k
  rw [drop_at h] at h1
  exact ⟨pok_drop hp (k + 1), h1.1 x (List.mem_cons_self ..), (List.nodup_cons.1 h1.2).1⟩
set_option maxRecDepth 100000 in
set_option maxHeartbeats 8000000 in
theorem FnPathRest_walk (a0 a1 : Option Addr) (n0 c0 n1 c1 : Nat) (a : Addr) (w : World) (h0 : Given w (.slice a0 n0 c0)) (_hG : Given w (.slice a1 n1 c1)) (hE : EPath w a) (htab : Tab w) :
    Calls Tryd.prog 5 #[.slice a0 n0 c0, .slice a1 n1 c1] w fun e w' => e = .returned (.bool true) ∧ Below w.heap.size w w' := by
  by_cases hn0 : 1048576 < n0
  · have e0 : decide (1048576 < (n0 : Int)) = true := by simp; omega
    go_enter Tryd.func5, Tryd.ntmps5
    go_wp2
    go_ret
    exact ⟨rfl, Below.refl _ _⟩
  have e0 : decide (1048576 < (n0 : Int)) = false := by simp; omega
  by_cases hn1 : 1048576 < n1
  · have e1 : decide (1048576 < (n1 : Int)) = true := by simp; omega
    go_enter Tryd.func5, Tryd.ntmps5
    go_wp2
    go_ret
    exact ⟨rfl, Below.refl _ _⟩
  have e1 : decide (1048576 < (n1 : Int)) = false := by simp; omega
  have hF := Fb.start w
  have HT := Lib.hid htab
  clear htab _hG
  go_enter Tryd.func5, Tryd.ntmps5
  go_wp2_with fail
  refine (drawPathText_any _ _ h0).mono ?_; rintro e w1 ⟨v, L, rfl, h1, hL4, -, hb1⟩
  replace hF := hF.below hb1
  replace hE := hE.below hb1
  clear hb1 h0
  obtain ⟨S, hS⟩ : ∃ S, Hid (PT L = S) := ⟨_, rfl⟩
  have ci := Lib.hid (fun (w : World) (g1 : It w v L) (gE : EPath w a) (gT : Tab w) => (show Calls Tryd.prog 22 #[v] w fun e w' => e = .returned (.string S) ∧ Below w.heap.size w w' from by have := iPathText_any v L a w g1 gE gT; rwa [hS.out] at this))
  have cs := Lib.hid (fun (w : World) (g1 : It w v L) => (show Calls Tryd.prog 23 #[v] w fun e w' => e = .returned (.string S) ∧ Below w.heap.size w w' from by have := sPathText_any v L w g1.1; rwa [hS.out] at this))
  have hSS : (S.toList == S.toList) = true := by simp
  by_cases hp : POk L
  · by_cases hn : L = []
    · have hnil : Hid (L.length = 0) := by show _ = _; rw [hn]; rfl
      obtain ⟨ao, cap, rfl, -⟩ := h1.1.ex
      rw [hnil.out] at h1 ci cs ⊢
      have hS2 : Hid (S = ⟨#[46]⟩) := by show _ = _; rw [← hS.out, hn]; exact PT_nil
      clear hp hn
      have hSe : S.toList.isEmpty = false := by rw [hS2.out, ByteArray.toList_eq] <;> simp
      have hSe2 : ¬ S.toList = [] := by rw [hS2.out, ByteArray.toList_eq] <;> simp
      go_wp2_with (first | (go_at_call 22; go_must (refine (ci.out _ h1 hE (tab_below HT.out hF.kp)).mono ?_); rintro e wx ⟨rfl, hbx⟩; replace hF := hF.below hbx; replace h1 := It.below h1 hbx; replace hE := hE.below hbx; clear hbx) | (go_at_call 23; go_must (refine (cs.out _ h1).mono ?_); rintro e wx ⟨rfl, hbx⟩; replace hF := hF.below hbx; replace h1 := It.below h1 hbx; replace hE := hE.below hbx; clear hbx))
      go_ret
      exact ⟨by simp, hF.kp⟩
    · obtain ⟨b, off, n, c, rfl⟩ : ∃ b off n c, v = .slice (some ⟨b, off, none⟩) n c := by
        rcases h1.2 with rfl | h
        · exfalso
          obtain ⟨ao, cap, e, _⟩ := h1.1.ex
          injection e with _ e
          exact hn (List.length_eq_zero_iff.1 e.symm)
        · exact h
      obtain ⟨hnc, hcc, hl⟩ := ints_capP h1.1
      have HN := Lib.hid hl
      have hn0 : n ≠ 0 := fun e => hn (List.length_eq_zero_iff.1 (by rw [hl, e]))
      have hn1 : ((n : Int) == 0) = false := by simp [hn0]
      have hnp : 0 < (n : Int) := by omega
      have hS2 : Hid (S = ⟨(pts L).toArray⟩) := by show _ = _; rw [← hS.out]; exact PT_yes hp hn
      have hpn := pts_ne (pok_nn hp) hn
      have hSe : S.toList.isEmpty = false := by rw [hS2.out, ByteArray.toList_eq]; simpa using hpn
      have hSe2 : ¬ S.toList = [] := by rw [hS2.out, ByteArray.toList_eq]; simpa using hpn
      obtain ⟨k, hk⟩ : ∃ k : Nat, (n1 : Int) % (n : Int) = (k : Int) := ⟨n1 % n, by simp⟩
      have hkn : k < n := by
        have := Int.emod_lt_of_pos (n1 : Int) hnp
        omega
      obtain ⟨x, hx⟩ := get_of hl hkn
      have HX := Lib.hid hx
      have HA := Lib.hid (rest_add hp hx)
      have HD := Lib.hid (drop_cons hx)
      clear hp hn hl hn0 hpn hx
      go_upto_region 8 with (first | (go_at_call 22; go_must (refine (ci.out _ h1 hE (tab_below HT.out hF.kp)).mono ?_); rintro e wx ⟨rfl, hbx⟩; replace hF := hF.below hbx; replace h1 := It.below h1 hbx; replace hE := hE.below hbx; clear hbx) | (go_at_call 23; go_must (refine (cs.out _ h1).mono ?_); rintro e wx ⟨rfl, hbx⟩; replace hF := hF.below hbx; replace h1 := It.below h1 hbx; replace hE := hE.below hbx; clear hbx))
      rw [hk]
      obtain ⟨wb, rfl⟩ : ∃ wb : World, wb = wx := ⟨_, rfl⟩
      have hQ := Fb.start wb
      have HV := Lib.hid h1.1
      have HE := Lib.hid hE
      have HC := Lib.hid (Ints.get h1.1 HX.out)
      have HF := Lib.hid hF
      have q0 := HC.out
      clear h1 hE hF hk ci cs hSS hSe hSe2
      obtain ⟨k1, hk1, hk2⟩ : ∃ k1, k + 1 ≤ k1 ∧ k1 ≤ k + 1 := ⟨k + 1, by omega, by omega⟩
      have hadd : (k : Int) + 1 = (k1 : Int) := by omega
      have e1 : k1 = k + 1 := by omega
      rw [← e1] at HA HD
      have dA : decide (PAdd (L.drop k1) x) = true := decide_eq_true HA.out
      have hpd : Hid (padd (L.drop k1) x = L.drop k) := by show _ = _; rw [← HD.out]; exact if_pos HA.out
      have dH : decide (Has (L.drop k1) x) = false := decide_eq_false fun g => HA.out.2.2 g.2
      clear e1
      have i0 : (0 : Int) ≤ (k : Int) := by omega
      have i1 : (k : Int) ≤ (c : Int) := by omega
      have i2 : (k : Int) ≤ (n : Int) := by omega
      have i3 : (k : Int) < (n : Int) := by omega
      have i4 : ¬ (k : Int) = (c : Int) := by omega
      have i5 : ¬ (c : Int) = (k : Int) := by omega
      have j0 : (0 : Int) ≤ (k1 : Int) := by omega
      have j1 : (k1 : Int) ≤ (c : Int) := by omega
      have j2 : (k1 : Int) ≤ (n : Int) := by omega
      have j3 : IntKind.i64.wrap (k1 : Int) = (k1 : Int) := IntWalk.i64_in _ (by omega)
      have m0 : k ≤ c := by omega
      have m1 : k ≤ n := by omega
      have m2 : ¬ k = c := by omega
      have m3 : ¬ c = k := by omega
      have m4 : k1 ≤ c := by omega
      have m5 : k1 ≤ n := by omega
      by_cases hck : k1 = c
      · have hdr : Hid (L.drop k1 = []) := List.drop_eq_nil_of_le (by rw [HN.out]; omega)
        have hnk : n = k1 := by omega
        have hnk' := hnk.symm
        clear hnk
        subst hck
        subst hnk'
        go_region_held3 (fun w' => w'.cell? ⟨b, off + k, none⟩ = some (.int .i64 x)) (first | assumption | (exact Fb.old (w := wb) (L := []) (by repeat (first | assumption | apply Fb.alloc_1 | apply Fb.alloc_2 | apply Fb.alloc_3 | apply Fb.alloc_4 | apply Fb.alloc_5 | apply Fb.alloc_8 | apply Fb.drew | apply Fb.drewN | apply Fb.other)) HC.out)) ((go_at_call 24; go_must (refine (iPathAdd_any _ (L.drop k1) x a _ ⟨(by rw [hdr.out]; exact Rows.nil _ _ _ (by omega) _ _), Or.inr ⟨_, _, _, _, rfl⟩⟩ (HE.out.below (Fb.kp (W := wb) (L := []) (by repeat (first | assumption | apply Fb.alloc_1 | apply Fb.alloc_2 | apply Fb.alloc_3 | apply Fb.alloc_4 | apply Fb.alloc_5 | apply Fb.alloc_8 | apply Fb.drew | apply Fb.drewN | apply Fb.other))))).mono ?_); rintro e wx ⟨u, rfl, hO, hbx⟩; replace hQ := Fb.below (W := wb) (L := []) (by repeat (first | assumption | apply Fb.alloc_1 | apply Fb.alloc_2 | apply Fb.alloc_3 | apply Fb.alloc_4 | apply Fb.alloc_5 | apply Fb.alloc_8 | apply Fb.drew | apply Fb.drewN | apply Fb.other)) hbx; clear hbx))
        all_goals
          rw [hpd.out] at hO
          have hU := Lib.hid hO.ints
          clear hO q0
          go_wp2
          have q0 := fun z : Cl wx.heap.size wx => z.cell (hQ.old HC.out)
          have hQ1 := Lib.hid hQ
          first | refine wp_region_new (by kernel_rfl) (by kernel_rfl) ?_ | refine wp_region_lex ?_
          repeat (any_goals (first | go_big_quiet_step ((first | (go_at_call 25; exact Calls.cl (lyInts_sameP _ _ (L.drop k) _ (Rows.below hU.out (Cl.below _)) (ints_dropP (Rows.below HV.out (Fb.kp (hQ1.out.cl _))) (by omega)))) | (go_at_call 17; exact Calls.cl (iPathHas_any _ (L.drop k1) x a _ (by rw [hdr.out]; exact Rows.nil _ _ _ (by omega) _ _) (HE.out.below (Fb.kp (hQ1.out.cl _))))))) | (refine wpQuiet_step (fun K hK => ?_); go_simp; split <;> (rename_i hg; refine hK _ ?_; clear hK K; simp only [hg, decide_true, decide_false]))))
          all_goals (refine wpQuiet_nil ?_; intro x)
          go_wp2
          go_ret
          exact ⟨rfl, (HF.out.below (hQ1.out.cl x).kp).kp⟩
      · have m6 : ¬ k1 = c := hck
        have m7 : ¬ c = k1 := fun e => hck e.symm
        have j4 : ¬ (k1 : Int) = (c : Int) := by omega
        have j5 : ¬ (c : Int) = (k1 : Int) := by omega
        clear hck
        go_region_held3 (fun w' => w'.cell? ⟨b, off + k, none⟩ = some (.int .i64 x)) (first | assumption | (exact Fb.old (w := wb) (L := []) (by repeat (first | assumption | apply Fb.alloc_1 | apply Fb.alloc_2 | apply Fb.alloc_3 | apply Fb.alloc_4 | apply Fb.alloc_5 | apply Fb.alloc_8 | apply Fb.drew | apply Fb.drewN | apply Fb.other)) HC.out)) ((go_at_call 24; go_must (refine (iPathAdd_any _ (L.drop k1) x a _ ⟨(ints_dropP (Rows.below HV.out (Fb.kp (W := wb) (L := []) (by repeat (first | assumption | apply Fb.alloc_1 | apply Fb.alloc_2 | apply Fb.alloc_3 | apply Fb.alloc_4 | apply Fb.alloc_5 | apply Fb.alloc_8 | apply Fb.drew | apply Fb.drewN | apply Fb.other)))) (by omega)), Or.inr ⟨_, _, _, _, rfl⟩⟩ (HE.out.below (Fb.kp (W := wb) (L := []) (by repeat (first | assumption | apply Fb.alloc_1 | apply Fb.alloc_2 | apply Fb.alloc_3 | apply Fb.alloc_4 | apply Fb.alloc_5 | apply Fb.alloc_8 | apply Fb.drew | apply Fb.drewN | apply Fb.other))))).mono ?_); rintro e wx ⟨u, rfl, hO, hbx⟩; replace hQ := Fb.below (W := wb) (L := []) (by repeat (first | assumption | apply Fb.alloc_1 | apply Fb.alloc_2 | apply Fb.alloc_3 | apply Fb.alloc_4 | apply Fb.alloc_5 | apply Fb.alloc_8 | apply Fb.drew | apply Fb.drewN | apply Fb.other)) hbx; clear hbx))
        all_goals
          rw [hpd.out] at hO
          have hU := Lib.hid hO.ints
          clear hO q0
          go_wp2
          have q0 := fun z : Cl wx.heap.size wx => z.cell (hQ.old HC.out)
          have hQ1 := Lib.hid hQ
          first | refine wp_region_new (by kernel_rfl) (by kernel_rfl) ?_ | refine wp_region_lex ?_
          repeat (any_goals (first | go_big_quiet_step ((first | (go_at_call 25; exact Calls.cl (lyInts_sameP _ _ (L.drop k) _ (Rows.below hU.out (Cl.below _)) (ints_dropP (Rows.below HV.out (Fb.kp (hQ1.out.cl _))) (by omega)))) | (go_at_call 17; exact Calls.cl (iPathHas_any _ (L.drop k1) x a _ (ints_dropP (Rows.below HV.out (Fb.kp (hQ1.out.cl _))) (by omega)) (HE.out.below (Fb.kp (hQ1.out.cl _))))))) | (refine wpQuiet_step (fun K hK => ?_); go_simp; split <;> (rename_i hg; refine hK _ ?_; clear hK K; simp only [hg, decide_true, decide_false]))))
          all_goals (refine wpQuiet_nil ?_; intro x)
          go_wp2
          go_ret
          exact ⟨rfl, (HF.out.below (hQ1.out.cl x).kp).kp⟩
  · have hS2 : Hid (S = ⟨#[]⟩) := by show _ = _; rw [← hS.out]; exact PT_no hp
    clear hp
    have hSe : S.toList.isEmpty = true := by rw [hS2.out, ByteArray.toList_eq] <;> simp
    have hSe2 : S.toList = [] := by rw [hS2.out, ByteArray.toList_eq] <;> simp
    have HSe := Lib.hid hSe2
    clear hSe2
    obtain ⟨ao, cap, rfl, -⟩ := h1.1.ex
    go_wp2_with (first | (go_at_call 22; go_must (refine (ci.out _ h1 hE (tab_below HT.out hF.kp)).mono ?_); rintro e wx ⟨rfl, hbx⟩; replace hF := hF.below hbx; replace h1 := It.below h1 hbx; replace hE := hE.below hbx; clear hbx) | (go_at_call 23; go_must (refine (cs.out _ h1).mono ?_); rintro e wx ⟨rfl, hbx⟩; replace hF := hF.below hbx; replace h1 := It.below h1 hbx; replace hE := hE.below hbx; clear hbx))
    all_goals go_ret
    all_goals exact ⟨by simp, hF.kp⟩
end Go.Proofs.YtgegmampnpgcaaaDoor
