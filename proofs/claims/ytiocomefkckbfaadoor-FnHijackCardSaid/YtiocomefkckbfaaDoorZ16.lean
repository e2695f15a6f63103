/- What lacks for a route: of the program, and of the model. What lacks for a route, by the model; SealOk of both. Halves of ranges, plain. -/
import Derived.Test.YtiocomefkckbfaaDoorZ13
import Derived.Test.YtiocomefkckbfaaDoorZ14
import Derived.Test.YtiocomefkckbfaaDoorZ15
import Derived.Test.YtiocomefkckbfaaDoorZ9
set_option linter.unusedSimpArgs false
set_option linter.unusedVariables false
namespace Go.Proofs.YtiocomefkckbfaaDoor
open Go.RowKit Go.Maps Go.WideMaps

def lastP (P : List Int) : Int := P.getD (P.length - 1) 0
def lk9 (L : List Sl) : List Sl → Int
  | [] => 0
  | s :: r => if s ∈ L then lk9 L r else s.1
def lacks (H : List HoldD) (L : List Sl) (ti g c lk : Int) (P M : List Int) : Int :=
  if SMk ti g c lk P M then (if H.any (holdsP (lastP P) g c) then lk9 L (mkN ti g c P P.length) else -1) else -2
theorem lk9_at {L : List Sl} : ∀ {K : List Sl} {k : Nat} {x : Sl}, (∀ s ∈ K.take k, s ∈ L) → K[k]? = some x → x ∉ L → lk9 L K = x.1
  | [], k, x, _, h, _ => by simp at h
  | s :: r, 0, x, _, h, hx => by
    simp at h; subst h
    simp [lk9, hx]
  | s :: r, k + 1, x, ha, h, hx => by
    have h1 : s ∈ L := ha s (by simp)
    simp only [lk9, if_pos h1]
    exact lk9_at (k := k) (fun y hy => ha y (by simp [hy])) (by simpa using h) hx
theorem lk9_all {L : List Sl} : ∀ {K : List Sl}, (∀ s ∈ K, s ∈ L) → lk9 L K = 0
  | [], _ => rfl
  | s :: r, ha => by
    have h1 : s ∈ L := ha s (by simp)
    simp only [lk9, if_pos h1]
    exact lk9_all (fun y hy => ha y (by simp [hy]))
theorem mkN_at {ti g c : Int} {P : List Int} {n k : Nat} (h : k < n) : (mkN ti g c P n)[k]? = some (sAt ti g c P k) := by
  unfold mkN; rw [List.getElem?_map, List.getElem?_range h]; rfl
theorem mkN_mem {ti g c : Int} {P : List Int} {n : Nat} {s : Sl} (h : s ∈ mkN ti g c P n) : ∃ k, k < n ∧ s = sAt ti g c P k := by
  unfold mkN at h
  obtain ⟨k, hk, rfl⟩ := List.mem_map.1 h
  exact ⟨k, List.mem_range.1 hk, rfl⟩
theorem getD_mem {P : List Int} {k : Nat} (h : k < P.length) : P.getD k 0 ∈ P := by
  rw [List.getD_eq_getElem?_getD, List.getElem?_eq_getElem h]; simp
theorem SMk.sm {ti g c lk : Int} {P M : List Int} (h : SMk ti g c lk P M) (hP : P.length ≤ 1000) {n : Nat} (hn : n ≤ P.length) : ∀ s ∈ mkN ti g c P n, SmS s := fun s hs => by
  obtain ⟨k, hk, rfl⟩ := mkN_mem hs
  obtain ⟨⟨h1, h2, h3, h4, h5⟩, h6, h7⟩ := h
  have hb : ∀ x ∈ P, -1000000 ≤ x ∧ x ≤ 1000000 := fun x hx => by have := h3.1 x hx; unfold Bts at this; omega
  unfold Bts at h6
  refine ⟨hb _ (getD_mem (by omega)), ?_, ?_, ?_, ?_, ?_⟩
  · show -1000000 ≤ tvAt ti P k ∧ tvAt ti P k ≤ 1000000
    unfold tvAt
    split
    · omega
    · exact hb _ (getD_mem (by omega))
  · have := h1.2.2; show -1000000 ≤ g ∧ g ≤ 1000000; omega
  · have := h1; unfold ROk at this; show -1000000 ≤ c ∧ c ≤ 1000000; omega
  · show (P.drop k).length ≤ 1000; rw [List.length_drop]; omega
  · exact fun x hx => hb x (List.mem_of_mem_drop hx)
theorem all_snoc {K : List Sl} {L : List Sl} {k : Nat} {x : Sl} (h : ∀ s ∈ K.take k, s ∈ L) (hx : K[k]? = some x) (hxl : x ∈ L) : ∀ s ∈ K.take (k + 1), s ∈ L := fun s hs => by
  rw [take_succ' hx] at hs
  rcases List.mem_append.1 hs with hs | hs
  · exact h s hs
  · rw [List.mem_singleton.1 hs]; exact hxl
set_option maxRecDepth 100000 in
set_option maxHeartbeats 8000000 in
theorem iSealLacks_any (hv lv : Value) (H : List HoldD) (L : List Sl) (g c lk : Int) (pv mv : Value) (P M : List Int) (ti : Int) (a : Addr) (w : World) (hh : Rows w hv 3 HoldD.enc H) (hl : Sls w lv L) (hp : Ints w pv P) (hm : Ints w mv M) (hE : EPath w a) (hT : Tab w) (hP : P.length ≤ 1000) (hL : L.length ≤ 100000) (hs : ∀ s ∈ L, SmS s) :
    Calls Tryd.prog 23 #[hv, lv, .agg #[.int .i64 g, .int .i64 c, pv, .int .i64 lk, mv], .int .i64 ti] w fun e w' => e = .returned (.int .i64 (lacks H L ti g c lk P M)) ∧ Below w.heap.size w w' := by
  obtain ⟨o1, c1, rfl, hnc, hcc, -⟩ := hp.ex
  obtain ⟨o2, c2, rfl, -⟩ := hm.ex
  have hF := (Fb.start w).alloc [.int .i64 g, .int .i64 c, .slice o1 P.length c1, .int .i64 lk, .slice o2 M.length c2] 35
  replace hp := Rows.below hp hF.kp
  replace hm := Rows.below hm hF.kp
  replace hE := hE.below hF.kp
  have HH := Lib.hid hh
  have HL := Lib.hid hl
  have HT := Lib.hid hT
  have HS := Lib.hid hs
  clear hh hl hT hs
  have o := hF.own; simp only [World.size_alloc, World.size_drew, World.size_setCell, List.mem_cons, List.not_mem_nil, or_false, forall_eq_or_imp, forall_eq, At, and_true, Nat.zero_add, Nat.reduceAdd, List.set_cons_zero, List.set_cons_succ] at o
  go_enter Tryd.func23, Tryd.ntmps23
  go_wp2_with fail
  refine (iSealMake_any g c lk _ _ P M ti a _ hp hm hE hP).mono ?_; rintro e wx ⟨u, rfl, hO, hbx⟩
  replace hF := hF.below hbx
  obtain ⟨us, uc, rfl⟩ := hO.sl
  have HP := Lib.hid (Rows.below hp hbx)
  clear hp hm hE hbx o
  by_cases k1 : SMk ti g c lk P M
  · have hq : Hid (sealsOf ti g c lk P M = mkN ti g c P P.length) := if_pos k1
    have hr0 : Hid (lacks H L ti g c lk P M = if H.any (holdsP (lastP P) g c) then lk9 L (mkN ti g c P P.length) else -1) := if_pos k1
    rw [hq.out, mkN_len] at hO ⊢
    have hn0 : 0 < P.length := k1.1.2.1
    have HM := Lib.hid (k1.sm hP (Nat.le_refl _))
    clear k1
    obtain ⟨b, off, rfl⟩ := Ints.some HP.out hn0
    obtain ⟨x, hx⟩ := get_lt (show P.length - 1 < P.length by omega)
    have hxl : Hid (lastP P = x) := getD_of hx
    have cx := Ints.get HP.out hx
    have cxz := fun z : Cl wx.heap.size wx => z.cell cx
    have HVz := Lib.hid (fun z : Cl wx.heap.size wx => HH.out.below ((hF.cl z).kp))
    have oc := fun x : Cl _ wx => (Fb.cl hF x).own; simp only [World.size_alloc, World.size_drew, World.size_setCell, List.mem_cons, List.not_mem_nil, or_false, forall_eq_or_imp, forall_eq, At, and_true, Nat.zero_add, Nat.reduceAdd, List.set_cons_zero, List.set_cons_succ] at oc
    have HO := Lib.hid hO
    have d0 : ((P.length : Int) == 0) = false := by rw [beq_eq_false_iff_ne]; omega
    have d1 : ((P.length : Int) - 1).toNat = P.length - 1 := by omega
    have d2 : IntKind.i64.wrap ((P.length : Int) - 1) = (P.length : Int) - 1 := IntWalk.i64_in _ (by omega)
    have d3 : (0 : Int) ≤ (P.length : Int) - 1 := by omega
    have d4 : (P.length : Int) - 1 < (P.length : Int) := by omega
    clear cx hx hO
    obtain ⟨hb, hbe⟩ : ∃ z, H.any (holdsP x g c) = z := ⟨_, rfl⟩
    have hCz := Lib.hid (fun z : Cl wx.heap.size wx => (show Calls Tryd.prog 25 #[hv, .int .i64 x, .agg #[.int .i64 g, .int .i64 c]] z.W fun e w' => e = .returned (.bool hb) ∧ Below z.W.heap.size z.W w' from by have := iHoldHas_any hv H x g c z.W (HVz.out z); rwa [hbe] at this))
    rw [hxl.out, hbe] at hr0
    clear hbe HVz
    go_wp2
    cases hb with
    | false =>
      have hr : Hid (lacks H L ti g c lk P M = -1) := hr0.out
      first | refine wp_region_new (by kernel_rfl) (by kernel_rfl) ?_ | refine wp_region_lex ?_
      repeat (any_goals (first | go_big_quiet_step (((go_at_call 25; exact Calls.cl (hCz.out _)))) | (refine wpQuiet_step (fun K hK => ?_); go_simp; split <;> (rename_i hg; refine hK _ ?_; clear hK K; simp only [hg, decide_true, decide_false]))))
      all_goals (refine wpQuiet_nil ?_; intro x)
      go_wp2
      go_ret
      exact ⟨by rw [hr.out]; rfl, (hF.cl x).kp⟩
    | true =>
      have hr : Hid (lacks H L ti g c lk P M = lk9 L (mkN ti g c P P.length)) := hr0.out
      first | refine wp_region_new (by kernel_rfl) (by kernel_rfl) ?_ | refine wp_region_lex ?_
      repeat (any_goals (first | go_big_quiet_step (((go_at_call 25; exact Calls.cl (hCz.out _)))) | (refine wpQuiet_step (fun K hK => ?_); go_simp; split <;> (rename_i hg; refine hK _ ?_; clear hK K; simp only [hg, decide_true, decide_false]))))
      all_goals (refine wpQuiet_nil ?_; intro x)
      replace hF := hF.cl x
      replace HO := Lib.hid (HO.out.below x.below)
      clear hCz cxz oc d1 d2 d3 d4
      go_wp2_with fail
      refine (keysOf_any _ L _ (HL.out.below hF.kp) hL HS.out (tab_below HT.out hF.kp)).mono ?_; rintro e wy ⟨mb, mn, D, rfl, hD, hK, hby⟩
      replace hF := hF.below hby
      replace HO := Lib.hid (HO.out.below hby)
      have HK := Lib.hid hK
      clear hby hK
      go_wp2
      have HF := Lib.hid hF.kp
      have hQ := Fb.start wy
      clear hF hq hr0
      go_loopw [36] (fun i wr => ∃ (k : Nat), k ≤ P.length ∧ i = .int .i64 k ∧ Hid (∀ s ∈ (mkN ti g c P P.length).take k, s ∈ L) ∧ wr.ownsMap Tryd.prog 63 PS mb mn D ∧ Fb wy wr []) (fun i _ => P.length - (intOf i).toNat)
      case atStart => exact ⟨0, Nat.zero_le _, rfl, fun s h => (by simp at h), hD, hQ⟩
      case round =>
        clear hQ hD
        obtain ⟨k, hk, rfl, hA, hD, hQ⟩ := hrel
        by_cases hlt : k < P.length
        · have hS1 := (HO.out.below hQ.kp).sls
          obtain ⟨b1, o1, rfl⟩ := hS1.adr (by omega)
          obtain ⟨s, hsk⟩ : ∃ s, (mkN ti g c P P.length)[k]? = some s := ⟨_, mkN_at hlt⟩
          obtain ⟨a1, m1, k1, e0, e1, e2, e3, e4, g1⟩ := hS1.at hsk
          have hsm := Lib.hid (HM.out s (List.mem_of_getElem? hsk))
          have HK1 := Lib.hid hsk
          have HG := Lib.hid g1
          replace hQ := hQ.alloc [.int .i64 s.1, .int .i64 s.2.1, .int .i64 s.2.2.1, .int .i64 s.2.2.2.1, .slice a1 m1 k1] 28
          clear hsk g1 hS1
          go_wp2_with fail
          refine (key_any s.1 s.2.1 s.2.2.1 s.2.2.2.1 _ s.2.2.2.2 _ (Rows.alloc HG.out _) hsm.out.2.2.2.2.2 (tab_below HT.out (HF.out.trans (hQ.kp.mono HF.out.size))) hsm.out.2.2.2.2.1).mono ?_; rintro e wz ⟨rfl, hbx⟩
          replace hD := (hD.alloc (.cells #[.int .i64 s.1, .int .i64 s.2.1, .int .i64 s.2.2.1, .int .i64 s.2.2.2.1, .slice a1 m1 k1] 28)).kept (below_grownBy hbx) (by simp)
          replace hQ := hQ.below hbx
          clear hbx e0 e1 e2 e3 e4
          go_wp2_with fail
          refine (has_any2 s mb mn D L _ hD HK.out hsm.out).mono ?_; rintro e wv ⟨rfl, hbv⟩
          replace hD := hD.kept (below_grownBy hbv) (by simp)
          replace hQ := hQ.below hbv
          clear hbv
          have o := hQ.own; simp only [List.mem_cons, List.not_mem_nil, or_false, forall_eq, At, and_true, Nat.zero_add, Nat.reduceAdd] at o
          by_cases hin : s ∈ L
          · have din : decide (s ∈ L) = true := by simp [hin]
            have hA2 : Hid (∀ s ∈ (mkN ti g c P P.length).take (k + 1), s ∈ L) := all_snoc hA.out HK1.out hin
            clear hin
            go_wp2
            go_roundw
            case rel => exact ⟨k + 1, by omega, by go_num, hA2, hD, hQ.sub (by simp)⟩
            case measure => simp [intOf]; omega
          · have din : decide (s ∈ L) = false := by simp [hin]
            have hr1 : Hid (lk9 L (mkN ti g c P P.length) = s.1) := lk9_at hA.out HK1.out hin
            clear hin
            go_wp2
            go_ret
            exact ⟨by rw [hr.out, hr1.out]; rfl, HF.out.trans (hQ.kp.mono HF.out.size)⟩
        · have hr1 : Hid (lk9 L (mkN ti g c P P.length) = 0) := lk9_all (by have := hA.out; rwa [List.take_of_length_le (by rw [mkN_len]; omega)] at this)
          go_wp2
          go_ret
          exact ⟨by rw [hr.out, hr1.out]; rfl, HF.out.trans (hQ.kp.mono HF.out.size)⟩
  · have hq : Hid (sealsOf ti g c lk P M = []) := if_neg k1
    have hr : Hid (lacks H L ti g c lk P M = -2) := if_neg k1
    rw [hq.out] at hO ⊢
    clear k1 hO HP
    simp only [List.length_nil]
    go_wp2
    go_ret
    exact ⟨by rw [hr.out]; rfl, hF.kp⟩
end Go.Proofs.YtiocomefkckbfaaDoor
set_option linter.unusedSimpArgs false
set_option linter.unusedVariables false
namespace Go.Proofs.YtiocomefkckbfaaDoor
open Go.RowKit Go.Maps Go.WideMaps

set_option maxRecDepth 100000 in
set_option maxHeartbeats 8000000 in
theorem sSealLacks_any (hv lv : Value) (H : List HoldD) (L : List Sl) (g c lk : Int) (pv mv : Value) (P M : List Int) (ti : Int) (w : World) (hh : Rows w hv 3 HoldD.enc H) (hl : Sls w lv L) (hp : Ints w pv P) (hm : Ints w mv M) (hP : P.length ≤ 1000) :
    Calls Tryd.prog 24 #[hv, lv, .agg #[.int .i64 g, .int .i64 c, pv, .int .i64 lk, mv], .int .i64 ti] w fun e w' => e = .returned (.int .i64 (lacks H L ti g c lk P M)) ∧ Below w.heap.size w w' := by
  obtain ⟨o1, c1, rfl, hnc, hcc, -⟩ := hp.ex
  obtain ⟨o2, c2, rfl, -⟩ := hm.ex
  have HP := Lib.hid hp
  have hF := (Fb.start w).alloc [.int .i64 g, .int .i64 c, .slice o1 P.length c1, .int .i64 lk, .slice o2 M.length c2] 35
  replace hp := Rows.below hp hF.kp
  replace hm := Rows.below hm hF.kp
  have HH := Lib.hid hh
  have HL := Lib.hid hl
  clear hh hl
  have o := hF.own; simp only [World.size_alloc, World.size_drew, World.size_setCell, List.mem_cons, List.not_mem_nil, or_false, forall_eq_or_imp, forall_eq, At, and_true, Nat.zero_add, Nat.reduceAdd, List.set_cons_zero, List.set_cons_succ] at o
  go_enter Tryd.func24, Tryd.ntmps24
  by_cases k1 : RtOk g c P lk M
  · have e1 : decide (RtOk g c P lk M) = true := by simp [k1]
    by_cases k2 : Bts ti 1 5
    · have e2 : decide (Bts ti 1 5) = true := by simp [k2]
      by_cases k3 : ti ∈ P
      · have e3 : decide (ti ∈ P) = true := by simp [k3]
        have hr : Hid (lacks H L ti g c lk P M = -2) := if_neg fun q => q.2.2 k3
        clear k1 k2 k3
        go_wp2_with (first | (go_at_call 28; go_must (refine (sRouteOk_any g c lk _ _ P M _ hp hm).mono ?_); rintro e wx ⟨rfl, hbx⟩; (replace hF := hF.below hbx; (try replace hp := Rows.below hp hbx); (try replace hm := Rows.below hm hbx); clear hbx o; have o := hF.own; simp only [World.size_alloc, World.size_drew, World.size_setCell, List.mem_cons, List.not_mem_nil, or_false, forall_eq_or_imp, forall_eq, At, and_true, Nat.zero_add, Nat.reduceAdd, List.set_cons_zero, List.set_cons_succ] at o)) | (go_at_call 42; go_must (refine (l3House_any ti _).mono ?_); rintro e wx ⟨rfl, hbx⟩; (replace hF := hF.below hbx; (try replace hp := Rows.below hp hbx); (try replace hm := Rows.below hm hbx); clear hbx o; have o := hF.own; simp only [World.size_alloc, World.size_drew, World.size_setCell, List.mem_cons, List.not_mem_nil, or_false, forall_eq_or_imp, forall_eq, At, and_true, Nat.zero_add, Nat.reduceAdd, List.set_cons_zero, List.set_cons_succ] at o)) | (go_at_call 43; go_must (refine (l3Has_any _ P ti _ hp).mono ?_); rintro e wx ⟨rfl, hbx⟩; (replace hF := hF.below hbx; (try replace hp := Rows.below hp hbx); (try replace hm := Rows.below hm hbx); clear hbx o; have o := hF.own; simp only [World.size_alloc, World.size_drew, World.size_setCell, List.mem_cons, List.not_mem_nil, or_false, forall_eq_or_imp, forall_eq, At, and_true, Nat.zero_add, Nat.reduceAdd, List.set_cons_zero, List.set_cons_succ] at o)))
        go_ret
        exact ⟨by rw [hr.out]; rfl, hF.kp⟩
      · have e3 : decide (ti ∈ P) = false := by simp [k3]
        have hr0 : Hid (lacks H L ti g c lk P M = if H.any (holdsP (lastP P) g c) then lk9 L (mkN ti g c P P.length) else -1) := if_pos ⟨k1, k2, k3⟩
        have hn0 : 0 < P.length := k1.2.1
        clear k1 k2 k3
        obtain ⟨b, off, rfl⟩ := Ints.some hp hn0
        go_wp2_with (first | (go_at_call 28; go_must (refine (sRouteOk_any g c lk _ _ P M _ hp hm).mono ?_); rintro e wx ⟨rfl, hbx⟩; (replace hF := hF.below hbx; (try replace hp := Rows.below hp hbx); (try replace hm := Rows.below hm hbx); clear hbx o; have o := hF.own; simp only [World.size_alloc, World.size_drew, World.size_setCell, List.mem_cons, List.not_mem_nil, or_false, forall_eq_or_imp, forall_eq, At, and_true, Nat.zero_add, Nat.reduceAdd, List.set_cons_zero, List.set_cons_succ] at o)) | (go_at_call 42; go_must (refine (l3House_any ti _).mono ?_); rintro e wx ⟨rfl, hbx⟩; (replace hF := hF.below hbx; (try replace hp := Rows.below hp hbx); (try replace hm := Rows.below hm hbx); clear hbx o; have o := hF.own; simp only [World.size_alloc, World.size_drew, World.size_setCell, List.mem_cons, List.not_mem_nil, or_false, forall_eq_or_imp, forall_eq, At, and_true, Nat.zero_add, Nat.reduceAdd, List.set_cons_zero, List.set_cons_succ] at o)) | (go_at_call 43; go_must (refine (l3Has_any _ P ti _ hp).mono ?_); rintro e wx ⟨rfl, hbx⟩; (replace hF := hF.below hbx; (try replace hp := Rows.below hp hbx); (try replace hm := Rows.below hm hbx); clear hbx o; have o := hF.own; simp only [World.size_alloc, World.size_drew, World.size_setCell, List.mem_cons, List.not_mem_nil, or_false, forall_eq_or_imp, forall_eq, At, and_true, Nat.zero_add, Nat.reduceAdd, List.set_cons_zero, List.set_cons_succ] at o)))
        obtain ⟨wb, hwb⟩ : ∃ wb : World, wb = wx := ⟨_, rfl⟩
        rw [← hwb] at hF hp hm o ⊢
        clear hwb
        obtain ⟨x, hx⟩ := get_lt (show P.length - 1 < P.length by omega)
        have hxl : Hid (lastP P = x) := getD_of hx
        have cx := Ints.get hp hx
        have cxz := fun z : Cl wb.heap.size wb => z.cell cx
        have HVz := Lib.hid (fun z : Cl wb.heap.size wb => HH.out.below ((hF.cl z).kp))
        have oc := fun x : Cl _ wb => (Fb.cl hF x).own; simp only [World.size_alloc, World.size_drew, World.size_setCell, List.mem_cons, List.not_mem_nil, or_false, forall_eq_or_imp, forall_eq, At, and_true, Nat.zero_add, Nat.reduceAdd, List.set_cons_zero, List.set_cons_succ] at oc
        have d1 : ((P.length : Int) - 1).toNat = P.length - 1 := by omega
        have d2 : IntKind.i64.wrap ((P.length : Int) - 1) = (P.length : Int) - 1 := IntWalk.i64_in _ (by omega)
        have d3 : (0 : Int) ≤ (P.length : Int) - 1 := by omega
        have d4 : (P.length : Int) - 1 < (P.length : Int) := by omega
        obtain ⟨hb, hbe⟩ : ∃ z, H.any (holdsP x g c) = z := ⟨_, rfl⟩
        have hCz := Lib.hid (fun z : Cl wb.heap.size wb => (show Calls Tryd.prog 47 #[hv, .int .i64 x, .agg #[.int .i64 g, .int .i64 c]] z.W fun e w' => e = .returned (.bool hb) ∧ Below z.W.heap.size z.W w' from by have := l13Holds_any hv H x g c z.W (HVz.out z); rwa [hbe] at this))
        rw [hxl.out, hbe] at hr0
        clear hbe HVz cx hx hm hp o
        cases hb with
        | false =>
          have hr : Hid (lacks H L ti g c lk P M = -1) := hr0.out
          first | refine wp_region_new (by kernel_rfl) (by kernel_rfl) ?_ | refine wp_region_lex ?_
          repeat (any_goals (first | go_big_quiet_step (((go_at_call 47; exact Calls.cl (hCz.out _)))) | (refine wpQuiet_step (fun K hK => ?_); go_simp; split <;> (rename_i hg; refine hK _ ?_; clear hK K; simp only [hg, decide_true, decide_false]))))
          all_goals (refine wpQuiet_nil ?_; intro x)
          go_wp2
          go_ret
          exact ⟨by rw [hr.out]; rfl, (hF.cl x).kp⟩
        | true =>
          have hr : Hid (lacks H L ti g c lk P M = lk9 L (mkN ti g c P P.length)) := hr0.out
          first | refine wp_region_new (by kernel_rfl) (by kernel_rfl) ?_ | refine wp_region_lex ?_
          repeat (any_goals (first | go_big_quiet_step (((go_at_call 47; exact Calls.cl (hCz.out _)))) | (refine wpQuiet_step (fun K hK => ?_); go_simp; split <;> (rename_i hg; refine hK _ ?_; clear hK K; simp only [hg, decide_true, decide_false]))))
          all_goals (refine wpQuiet_nil ?_; intro x)
          replace hF := hF.cl x
          clear hCz cxz oc d1 d2 d3 d4 hr0
          go_wp2
          go_loopw [9] (fun i wr => ∃ (k : Nat), k ≤ P.length ∧ i = .int .i64 k ∧ Hid (∀ s ∈ (mkN ti g c P P.length).take k, s ∈ L) ∧ Fb w wr [(w.heap.size, [.int .i64 g, .int .i64 c, .slice (some ⟨b, off, none⟩) P.length c1, .int .i64 lk, .slice o2 M.length c2])]) (fun i _ => P.length - (intOf i).toNat)
          case atStart => exact ⟨0, Nat.zero_le _, rfl, fun s h => (by simp at h), hF⟩
          case round =>
            clear hF
            obtain ⟨k, hk, rfl, hA, hF⟩ := hrel
            by_cases hlt : k < P.length
            · have o := hF.own; simp only [World.size_alloc, World.size_drew, World.size_setCell, List.mem_cons, List.not_mem_nil, or_false, forall_eq_or_imp, forall_eq, At, and_true, Nat.zero_add, Nat.reduceAdd, List.set_cons_zero, List.set_cons_succ] at o
              go_wp2_with fail
              refine (l13Of_any g c lk P b off c1 o2 M.length c2 ti k _ (Rows.below HP.out hF.kp) hlt hP).mono ?_; rintro e wz ⟨u, rfl, hu, -, hbx⟩
              replace hF := hF.below hbx
              have HSG := Lib.hid (mkN_at (ti := ti) (g := g) (c := c) (P := P) hlt)
              obtain ⟨px, hpx⟩ : ∃ z, P.getD k 0 = z := ⟨_, rfl⟩
              obtain ⟨pt, hpt⟩ : ∃ z, tvAt ti P k = z := ⟨_, rfl⟩
              rw [sAt_is, hpx, hpt] at HSG
              rw [hpx, hpt]
              have HPX := Lib.hid hpx
              clear hpx hpt hbx o
              go_wp2_with fail
              refine (l13Has_any lv u L px pt g c (P.drop k) _ (HL.out.below hF.kp) hu).mono ?_; rintro e wv ⟨rfl, hbv⟩
              replace hF := hF.below hbv
              clear hbv hu
              have o := hF.own; simp only [World.size_alloc, World.size_drew, World.size_setCell, List.mem_cons, List.not_mem_nil, or_false, forall_eq_or_imp, forall_eq, At, and_true, Nat.zero_add, Nat.reduceAdd, List.set_cons_zero, List.set_cons_succ] at o
              obtain ⟨s, hs⟩ : ∃ s : Sl, s = (px, pt, g, c, P.drop k) := ⟨_, rfl⟩
              rw [← hs] at HSG ⊢
              have hs1 : Hid (s.1 = px) := by show _ = _; rw [hs]
              clear hs
              by_cases hin : s ∈ L
              · have din : decide (s ∈ L) = true := by simp [hin]
                have hA2 : Hid (∀ s ∈ (mkN ti g c P P.length).take (k + 1), s ∈ L) := all_snoc hA.out HSG.out hin
                clear hin
                go_wp2
                go_roundw
                case rel => exact ⟨k + 1, by omega, by go_num, hA2, hF⟩
                case measure => simp [intOf]; omega
              · have din : decide (s ∈ L) = false := by simp [hin]
                have hr1 : Hid (lk9 L (mkN ti g c P P.length) = px) := (lk9_at hA.out HSG.out hin).trans hs1.out
                obtain ⟨y, hy⟩ := get_lt hlt
                have hyx : px = y := HPX.out.symm.trans (getD_of hy)
                have cy := Ints.get (Rows.below HP.out hF.kp) hy
                rw [← hyx] at cy
                clear hin hy hyx
                go_wp2
                go_ret
                exact ⟨by rw [hr.out, hr1.out]; rfl, hF.kp⟩
            · have hr1 : Hid (lk9 L (mkN ti g c P P.length) = 0) := lk9_all (by have := hA.out; rwa [List.take_of_length_le (by rw [mkN_len]; omega)] at this)
              have o := hF.own; simp only [World.size_alloc, World.size_drew, World.size_setCell, List.mem_cons, List.not_mem_nil, or_false, forall_eq_or_imp, forall_eq, At, and_true, Nat.zero_add, Nat.reduceAdd, List.set_cons_zero, List.set_cons_succ] at o
              go_wp2
              go_ret
              exact ⟨by rw [hr.out, hr1.out]; rfl, hF.kp⟩
    · have e2 : decide (Bts ti 1 5) = false := by simp [k2]
      have hr : Hid (lacks H L ti g c lk P M = -2) := if_neg fun q => k2 q.2.1
      clear k1 k2
      go_wp2_with (first | (go_at_call 28; go_must (refine (sRouteOk_any g c lk _ _ P M _ hp hm).mono ?_); rintro e wx ⟨rfl, hbx⟩; (replace hF := hF.below hbx; (try replace hp := Rows.below hp hbx); (try replace hm := Rows.below hm hbx); clear hbx o; have o := hF.own; simp only [World.size_alloc, World.size_drew, World.size_setCell, List.mem_cons, List.not_mem_nil, or_false, forall_eq_or_imp, forall_eq, At, and_true, Nat.zero_add, Nat.reduceAdd, List.set_cons_zero, List.set_cons_succ] at o)) | (go_at_call 42; go_must (refine (l3House_any ti _).mono ?_); rintro e wx ⟨rfl, hbx⟩; (replace hF := hF.below hbx; (try replace hp := Rows.below hp hbx); (try replace hm := Rows.below hm hbx); clear hbx o; have o := hF.own; simp only [World.size_alloc, World.size_drew, World.size_setCell, List.mem_cons, List.not_mem_nil, or_false, forall_eq_or_imp, forall_eq, At, and_true, Nat.zero_add, Nat.reduceAdd, List.set_cons_zero, List.set_cons_succ] at o)))
      go_ret
      exact ⟨by rw [hr.out]; rfl, hF.kp⟩
  · have e1 : decide (RtOk g c P lk M) = false := by simp [k1]
    have hr : Hid (lacks H L ti g c lk P M = -2) := if_neg fun q => k1 q.1
    clear k1
    go_wp2_with ((go_at_call 28; go_must (refine (sRouteOk_any g c lk _ _ P M _ hp hm).mono ?_); rintro e wx ⟨rfl, hbx⟩; (replace hF := hF.below hbx; (try replace hp := Rows.below hp hbx); (try replace hm := Rows.below hm hbx); clear hbx o; have o := hF.own; simp only [World.size_alloc, World.size_drew, World.size_setCell, List.mem_cons, List.not_mem_nil, or_false, forall_eq_or_imp, forall_eq, At, and_true, Nat.zero_add, Nat.reduceAdd, List.set_cons_zero, List.set_cons_succ] at o)))
    go_ret
    exact ⟨by rw [hr.out]; rfl, hF.kp⟩
theorem sSealOk_any (hv lv : Value) (H : List HoldD) (L : List Sl) (g c lk : Int) (pv mv : Value) (P M : List Int) (ti : Int) (w : World) (hh : Rows w hv 3 HoldD.enc H) (hl : Sls w lv L) (hp : Ints w pv P) (hm : Ints w mv M) (hP : P.length ≤ 1000) :
    Calls Tryd.prog 27 #[hv, lv, .agg #[.int .i64 g, .int .i64 c, pv, .int .i64 lk, mv], .int .i64 ti] w fun e w' => e = .returned (.bool (lacks H L ti g c lk P M == 0)) ∧ Below w.heap.size w w' := by
  obtain ⟨o1, c1, rfl, -⟩ := hp.ex
  obtain ⟨o2, c2, rfl, -⟩ := hm.ex
  have hF := (Fb.start w).alloc [.int .i64 g, .int .i64 c, .slice o1 P.length c1, .int .i64 lk, .slice o2 M.length c2] 35
  go_enter Tryd.func27, Tryd.ntmps27
  go_wp2_with fail
  refine (sSealLacks_any hv lv H L g c lk _ _ P M ti _ (hh.below hF.kp) (hl.below hF.kp) (Rows.below hp hF.kp) (Rows.below hm hF.kp) hP).mono ?_; rintro e wx ⟨rfl, hbx⟩
  replace hF := hF.below hbx
  clear hbx
  go_wp2
  go_ret
  exact ⟨rfl, hF.kp⟩
theorem iSealOk_any (hv lv : Value) (H : List HoldD) (L : List Sl) (g c lk : Int) (pv mv : Value) (P M : List Int) (ti : Int) (a : Addr) (w : World) (hh : Rows w hv 3 HoldD.enc H) (hl : Sls w lv L) (hp : Ints w pv P) (hm : Ints w mv M) (hE : EPath w a) (hT : Tab w) (hP : P.length ≤ 1000) (hL : L.length ≤ 100000) (hs : ∀ s ∈ L, SmS s) :
    Calls Tryd.prog 19 #[hv, lv, .agg #[.int .i64 g, .int .i64 c, pv, .int .i64 lk, mv], .int .i64 ti] w fun e w' => e = .returned (.bool (lacks H L ti g c lk P M == 0)) ∧ Below w.heap.size w w' := by
  obtain ⟨o1, c1, rfl, -⟩ := hp.ex
  obtain ⟨o2, c2, rfl, -⟩ := hm.ex
  have hF := (Fb.start w).alloc [.int .i64 g, .int .i64 c, .slice o1 P.length c1, .int .i64 lk, .slice o2 M.length c2] 35
  have HS := Lib.hid hs
  clear hs
  go_enter Tryd.func19, Tryd.ntmps19
  go_wp2_with fail
  refine (iSealLacks_any hv lv H L g c lk _ _ P M ti a _ (hh.below hF.kp) (hl.below hF.kp) (Rows.below hp hF.kp) (Rows.below hm hF.kp) (hE.below hF.kp) (tab_below hT hF.kp) hP hL HS.out).mono ?_; rintro e wx ⟨rfl, hbx⟩
  replace hF := hF.below hbx
  clear hbx
  go_wp2
  go_ret
  exact ⟨rfl, hF.kp⟩
end Go.Proofs.YtiocomefkckbfaaDoor
set_option linter.unusedSimpArgs false
set_option linter.unusedVariables false
namespace Go.Proofs.YtiocomefkckbfaaDoor
open Go.RowKit

/-- A half of a range: its first address, its bits; whether there is one. -/
def Hlf (f b : Int) : Prop := ROk f b ∧ b ≠ 8
instance (f b : Int) : Decidable (Hlf f b) := by unfold Hlf; infer_instance
def hF (f b : Int) (up : Bool) : Int := if Hlf f b then f + (if up then sz (b + 1) else 0) else 0
def hB (f b : Int) : Int := if Hlf f b then b + 1 else 0
def hlfV (f b : Int) (up : Bool) : Value := .tuple #[.agg #[.int .i64 (hF f b up), .int .i64 (hB f b)], .bool (decide (Hlf f b))]

theorem sz_dvd {c d : Int} (h : d ≤ c) : ∃ m : Int, sz d = sz c * m := by
  refine ⟨2 ^ ((8 - d).toNat - (8 - c).toNat), ?_⟩
  unfold sz
  rw [← Int.pow_add]
  congr 1
  omega
/-- Two multiples of s apart are at least s apart. -/
theorem mul_gap {s x y : Int} (hs : 1 ≤ s) (hx : x % s = 0) (hy : y % s = 0) (h : x < y) : x + s ≤ y := by
  obtain ⟨p, hp⟩ := Int.dvd_of_emod_eq_zero hx
  obtain ⟨q, hq⟩ := Int.dvd_of_emod_eq_zero hy
  rw [hp, hq] at h ⊢
  have h1 : p < q := by
    rcases Int.lt_or_le p q with h' | h'
    · exact h'
    · have := Int.mul_le_mul_of_nonneg_left h' (show 0 ≤ s by omega); omega
  have h2 := Int.mul_le_mul_of_nonneg_left (show p + 1 ≤ q by omega) (show 0 ≤ s by omega)
  rw [Int.mul_add, Int.mul_one] at h2
  exact h2
theorem sz_half {b : Int} (h0 : 0 ≤ b) (h8 : b < 8) : sz b = 2 * sz (b + 1) := by
  obtain ⟨k, rfl⟩ := Int.eq_ofNat_of_zero_le h0
  unfold sz
  have e : (8 - (k : Int)).toNat = (8 - ((k : Int) + 1)).toNat + 1 := by omega
  rw [e, Int.pow_succ]; omega
theorem half_ok {f b : Int} (up : Bool) (h : Hlf f b) : ROk (hF f b up) (hB f b) := by
  obtain ⟨⟨h0, h8, hf, hf', hm⟩, h9⟩ := h
  have hs := sz_half h0 (by omega)
  have hp := sz_pos (b + 1)
  have hH : Hlf f b := ⟨⟨h0, h8, hf, hf', hm⟩, h9⟩
  simp only [hF, hB, if_pos hH]
  obtain ⟨q, hq⟩ := Int.dvd_of_emod_eq_zero hm
  have hq' : f = sz (b + 1) * (2 * q) := by rw [hq, hs]; rw [Int.mul_comm 2, Int.mul_assoc]
  have h256 : f + sz b ≤ 256 := by
    have hd : (256 : Int) % sz b = 0 := by
      obtain ⟨m, hm'⟩ := sz_dvd (show (0:Int) ≤ b from h0)
      have : sz 0 = 256 := by decide
      rw [this] at hm'; rw [hm']; exact Int.mul_emod_right _ _
    exact mul_gap (sz_pos b) hm hd (by omega)
  refine ⟨by omega, by omega, ?_, ?_, ?_⟩
  · split <;> omega
  · split <;> omega
  · split
    · rw [hq', show sz (b + 1) * (2 * q) + sz (b + 1) = sz (b + 1) * (2 * q + 1) by rw [Int.mul_add, Int.mul_one]]; exact Int.mul_emod_right _ _
    · rw [hq', Int.add_zero]; exact Int.mul_emod_right _ _
theorem hF_of {f b : Int} (h : Hlf f b) : hF f b true = f + sz (b + 1) ∧ hF f b false = f ∧ hB f b = b + 1 := by
  simp [hF, hB, h]
theorem half_split {f b : Int} (up : Bool) (h : Hlf f b) (x : Int) :
    (RHas f b x ↔ RHas (hF f b up) (hB f b) x ∨ RHas (hF f b (!up)) (hB f b) x) ∧ ¬ (RHas (hF f b up) (hB f b) x ∧ RHas (hF f b (!up)) (hB f b) x) := by
  have k1 := half_ok up h
  have k2 := half_ok (!up) h
  have hs := sz_half h.1.1 (by have := h.1.2.1; have := h.2; omega)
  have hp := sz_pos (b + 1)
  obtain ⟨e1, e2, e3⟩ := hF_of h
  unfold RHas
  simp only [k1, k2, h.1, true_and]
  by_cases hA : Adr x
  · simp only [hA, true_and]
    cases up <;> simp only [Bool.not_true, Bool.not_false, e1, e2, e3, Cov] <;> omega
  · simp [hA]
end Go.Proofs.YtiocomefkckbfaaDoor
