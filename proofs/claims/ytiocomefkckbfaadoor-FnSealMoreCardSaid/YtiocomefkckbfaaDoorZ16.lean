/- What lacks for a route: of the program, and of the model. What lacks for a route, by the model; SealOk of both. A drawn region whose head only reads, draws and calls what keeps old memory, and whose last operations stand in one order (they make memory): one walk of the head, then the tail. -/
import Derived.Test.YtiocomefkckbfaaDoorZ13
import Derived.Test.YtiocomefkckbfaaDoorZ14
import Derived.Test.YtiocomefkckbfaaDoorZ15
import Derived.Test.YtiocomefkckbfaaDoorZ1
import Derived.StillTail
set_option linter.unusedSimpArgs false
set_option linter.unusedVariables false
namespace Go.Proofs.YtiocomefkckbfaaDoor
open Go.RowKit Go.Maps Go.WideMaps

def lastP (P : List Int) : Int := P.getD (P.length - 1) 0
def lk9 (L : List Sl) : List Sl → Int
  | [] => 0
  | s :: r => if s ∈ L then lk9 L r else s.1
def lacks (H : List HoldD) (L : List Sl) (ti g c lk : Int) (P M : List Int) : Int :=
  if SMk ti g c lk P M then (if H.any (holdsP (lastP P) g c) then lk9 L (mkN ti g c P P.length) else -1) else -2
theorem lk9_at {L : List Sl} : ∀ {K : List Sl} {k : Nat} {x : Sl}, (∀ s ∈ K.take k, s ∈ L) → K[k]? = some x → x ∉ L → lk9 L K = x.1
  | [], k, x, _, h, _ => by simp at h
  | s :: r, 0, x, _, h, hx => by
    simp at h; subst h
    simp [lk9, hx]
  | s :: r, k + 1, x, ha, h, hx => by
    have h1 : s ∈ L := ha s (by simp)
    simp only [lk9, if_pos h1]
    exact lk9_at (k := k) (fun y hy => ha y (by simp [hy])) (by simpa using h) hx
theorem lk9_all {L : List Sl} : ∀ {K : List Sl}, (∀ s ∈ K, s ∈ L) → lk9 L K = 0
  | [], _ => rfl
  | s :: r, ha => by
    have h1 : s ∈ L := ha s (by simp)
    simp only [lk9, if_pos h1]
    exact lk9_all (fun y hy => ha y (by simp [hy]))
theorem mkN_at {ti g c : Int} {P : List Int} {n k : Nat} (h : k < n) : (mkN ti g c P n)[k]? = some (sAt ti g c P k) := by
  unfold mkN; rw [List.getElem?_map, List.getElem?_range h]; rfl
theorem mkN_mem {ti g c : Int} {P : List Int} {n : Nat} {s : Sl} (h : s ∈ mkN ti g c P n) : ∃ k, k < n ∧ s = sAt ti g c P k := by
  unfold mkN at h
  obtain ⟨k, hk, rfl⟩ := List.mem_map.1 h
  exact ⟨k, List.mem_range.1 hk, rfl⟩
theorem getD_mem {P : List Int} {k : Nat} (h : k < P.length) : P.getD k 0 ∈ P := by
  rw [List.getD_eq_getElem?_getD, List.getElem?_eq_getElem h]; simp
theorem SMk.sm {ti g c lk : Int} {P M : List Int} (h : SMk ti g c lk P M) (hP : P.length ≤ 1000) {n : Nat} (hn : n ≤ P.length) : ∀ s ∈ mkN ti g c P n, SmS s := fun s hs => by
  obtain ⟨k, hk, rfl⟩ := mkN_mem hs
  obtain ⟨⟨h1, h2, h3, h4, h5⟩, h6, h7⟩ := h
  have hb : ∀ x ∈ P, -1000000 ≤ x ∧ x ≤ 1000000 := fun x hx => by have := h3.1 x hx; unfold Bts at this; omega
  unfold Bts at h6
  refine ⟨hb _ (getD_mem (by omega)), ?_, ?_, ?_, ?_, ?_⟩
  · show -1000000 ≤ tvAt ti P k ∧ tvAt ti P k ≤ 1000000
    unfold tvAt
    split
    · omega
    · exact hb _ (getD_mem (by omega))
  · have := h1.2.2; show -1000000 ≤ g ∧ g ≤ 1000000; omega
  · have := h1; unfold ROk at this; show -1000000 ≤ c ∧ c ≤ 1000000; omega
  · show (P.drop k).length ≤ 1000; rw [List.length_drop]; omega
  · exact fun x hx => hb x (List.mem_of_mem_drop hx)
theorem all_snoc {K : List Sl} {L : List Sl} {k : Nat} {x : Sl} (h : ∀ s ∈ K.take k, s ∈ L) (hx : K[k]? = some x) (hxl : x ∈ L) : ∀ s ∈ K.take (k + 1), s ∈ L := fun s hs => by
  rw [take_succ' hx] at hs
  rcases List.mem_append.1 hs with hs | hs
  · exact h s hs
  · rw [List.mem_singleton.1 hs]; exact hxl
set_option maxRecDepth 100000 in
set_option maxHeartbeats 8000000 in
theorem iSealLacks_any (hv lv : Value) (H : List HoldD) (L : List Sl) (g c lk : Int) (pv mv : Value) (P M : List Int) (ti : Int) (a : Addr) (w : World) (hh : Rows w hv 3 HoldD.enc H) (hl : Sls w lv L) (hp : Ints w pv P) (hm : Ints w mv M) (hE : EPath w a) (hT : Tab w) (hP : P.length ≤ 1000) (hL : L.length ≤ 100000) (hs : ∀ s ∈ L, SmS s) :
    Calls Tryd.prog 23 #[hv, lv, .agg #[.int .i64 g, .int .i64 c, pv, .int .i64 lk, mv], .int .i64 ti] w fun e w' => e = .returned (.int .i64 (lacks H L ti g c lk P M)) ∧ Below w.heap.size w w' := by
  obtain ⟨o1, c1, rfl, hnc, hcc, -⟩ := hp.ex
  obtain ⟨o2, c2, rfl, -⟩ := hm.ex
  have hF := (Fb.start w).alloc [.int .i64 g, .int .i64 c, .slice o1 P.length c1, .int .i64 lk, .slice o2 M.length c2] 35
  replace hp := Rows.below hp hF.kp
  replace hm := Rows.below hm hF.kp
  replace hE := hE.below hF.kp
  have HH := Lib.hid hh
  have HL := Lib.hid hl
  have HT := Lib.hid hT
  have HS := Lib.hid hs
  clear hh hl hT hs
  have o := hF.own; simp only [World.size_alloc, World.size_drew, World.size_setCell, List.mem_cons, List.not_mem_nil, or_false, forall_eq_or_imp, forall_eq, At, and_true, Nat.zero_add, Nat.reduceAdd, List.set_cons_zero, List.set_cons_succ] at o
  go_enter Tryd.func23, Tryd.ntmps23
  go_wp2_with fail
  refine (iSealMake_any g c lk _ _ P M ti a _ hp hm hE hP).mono ?_; rintro e wx ⟨u, rfl, hO, hbx⟩
  replace hF := hF.below hbx
  obtain ⟨us, uc, rfl⟩ := hO.sl
  have HP := Lib.hid (Rows.below hp hbx)
  clear hp hm hE hbx o
  by_cases k1 : SMk ti g c lk P M
  · have hq : Hid (sealsOf ti g c lk P M = mkN ti g c P P.length) := if_pos k1
    have hr0 : Hid (lacks H L ti g c lk P M = if H.any (holdsP (lastP P) g c) then lk9 L (mkN ti g c P P.length) else -1) := if_pos k1
    rw [hq.out, mkN_len] at hO ⊢
    have hn0 : 0 < P.length := k1.1.2.1
    have HM := Lib.hid (k1.sm hP (Nat.le_refl _))
    clear k1
    obtain ⟨b, off, rfl⟩ := Ints.some HP.out hn0
    obtain ⟨x, hx⟩ := get_lt (show P.length - 1 < P.length by omega)
    have hxl : Hid (lastP P = x) := getD_of hx
    have cx := Ints.get HP.out hx
    have cxz := fun z : Cl wx.heap.size wx => z.cell cx
    have HVz := Lib.hid (fun z : Cl wx.heap.size wx => HH.out.below ((hF.cl z).kp))
    have oc := fun x : Cl _ wx => (Fb.cl hF x).own; simp only [World.size_alloc, World.size_drew, World.size_setCell, List.mem_cons, List.not_mem_nil, or_false, forall_eq_or_imp, forall_eq, At, and_true, Nat.zero_add, Nat.reduceAdd, List.set_cons_zero, List.set_cons_succ] at oc
    have HO := Lib.hid hO
    have d0 : ((P.length : Int) == 0) = false := by rw [beq_eq_false_iff_ne]; omega
    have d1 : ((P.length : Int) - 1).toNat = P.length - 1 := by omega
    have d2 : IntKind.i64.wrap ((P.length : Int) - 1) = (P.length : Int) - 1 := IntWalk.i64_in _ (by omega)
    have d3 : (0 : Int) ≤ (P.length : Int) - 1 := by omega
    have d4 : (P.length : Int) - 1 < (P.length : Int) := by omega
    clear cx hx hO
    obtain ⟨hb, hbe⟩ : ∃ z, H.any (holdsP x g c) = z := ⟨_, rfl⟩
    have hCz := Lib.hid (fun z : Cl wx.heap.size wx => (show Calls Tryd.prog 25 #[hv, .int .i64 x, .agg #[.int .i64 g, .int .i64 c]] z.W fun e w' => e = .returned (.bool hb) ∧ Below z.W.heap.size z.W w' from by have := iHoldHas_any hv H x g c z.W (HVz.out z); rwa [hbe] at this))
    rw [hxl.out, hbe] at hr0
    clear hbe HVz
    go_wp2
    cases hb with
    | false =>
      have hr : Hid (lacks H L ti g c lk P M = -1) := hr0.out
      first | refine wp_region_new (by kernel_rfl) (by kernel_rfl) ?_ | refine wp_region_lex ?_
      repeat (any_goals (first | go_big_quiet_step (((go_at_call 25; exact Calls.cl (hCz.out _)))) | (refine wpQuiet_step (fun K hK => ?_); go_simp; split <;> (rename_i hg; refine hK _ ?_; clear hK K; simp only [hg, decide_true, decide_false]))))
      all_goals (refine wpQuiet_nil ?_; intro x)
      go_wp2
      go_ret
      exact ⟨by rw [hr.out]; rfl, (hF.cl x).kp⟩
    | true =>
      have hr : Hid (lacks H L ti g c lk P M = lk9 L (mkN ti g c P P.length)) := hr0.out
      first | refine wp_region_new (by kernel_rfl) (by kernel_rfl) ?_ | refine wp_region_lex ?_
      repeat (any_goals (first | go_big_quiet_step (((go_at_call 25; exact Calls.cl (hCz.out _)))) | (refine wpQuiet_step (fun K hK => ?_); go_simp; split <;> (rename_i hg; refine hK _ ?_; clear hK K; simp only [hg, decide_true, decide_false]))))
      all_goals (refine wpQuiet_nil ?_; intro x)
      replace hF := hF.cl x
      replace HO := Lib.hid (HO.out.below x.below)
      clear hCz cxz oc d1 d2 d3 d4
      go_wp2_with fail
      refine (keysOf_any _ L _ (HL.out.below hF.kp) hL HS.out (tab_below HT.out hF.kp)).mono ?_; rintro e wy ⟨mb, mn, D, rfl, hD, hK, hby⟩
      replace hF := hF.below hby
      replace HO := Lib.hid (HO.out.below hby)
      have HK := Lib.hid hK
      clear hby hK
      go_wp2
      have HF := Lib.hid hF.kp
      have hQ := Fb.start wy
      clear hF hq hr0
      go_loopw [36] (fun i wr => ∃ (k : Nat), k ≤ P.length ∧ i = .int .i64 k ∧ Hid (∀ s ∈ (mkN ti g c P P.length).take k, s ∈ L) ∧ wr.ownsMap Tryd.prog 63 PS mb mn D ∧ Fb wy wr []) (fun i _ => P.length - (intOf i).toNat)
      case atStart => exact ⟨0, Nat.zero_le _, rfl, fun s h => (by simp at h), hD, hQ⟩
      case round =>
        clear hQ hD
        obtain ⟨k, hk, rfl, hA, hD, hQ⟩ := hrel
        by_cases hlt : k < P.length
        · have hS1 := (HO.out.below hQ.kp).sls
          obtain ⟨b1, o1, rfl⟩ := hS1.adr (by omega)
          obtain ⟨s, hsk⟩ : ∃ s, (mkN ti g c P P.length)[k]? = some s := ⟨_, mkN_at hlt⟩
          obtain ⟨a1, m1, k1, e0, e1, e2, e3, e4, g1⟩ := hS1.at hsk
          have hsm := Lib.hid (HM.out s (List.mem_of_getElem? hsk))
          have HK1 := Lib.hid hsk
          have HG := Lib.hid g1
          replace hQ := hQ.alloc [.int .i64 s.1, .int .i64 s.2.1, .int .i64 s.2.2.1, .int .i64 s.2.2.2.1, .slice a1 m1 k1] 28
          clear hsk g1 hS1
          go_wp2_with fail
          refine (key_any s.1 s.2.1 s.2.2.1 s.2.2.2.1 _ s.2.2.2.2 _ (Rows.alloc HG.out _) hsm.out.2.2.2.2.2 (tab_below HT.out (HF.out.trans (hQ.kp.mono HF.out.size))) hsm.out.2.2.2.2.1).mono ?_; rintro e wz ⟨rfl, hbx⟩
          replace hD := (hD.alloc (.cells #[.int .i64 s.1, .int .i64 s.2.1, .int .i64 s.2.2.1, .int .i64 s.2.2.2.1, .slice a1 m1 k1] 28)).kept (below_grownBy hbx) (by simp)
          replace hQ := hQ.below hbx
          clear hbx e0 e1 e2 e3 e4
          go_wp2_with fail
          refine (has_any2 s mb mn D L _ hD HK.out hsm.out).mono ?_; rintro e wv ⟨rfl, hbv⟩
          replace hD := hD.kept (below_grownBy hbv) (by simp)
          replace hQ := hQ.below hbv
          clear hbv
          have o := hQ.own; simp only [List.mem_cons, List.not_mem_nil, or_false, forall_eq, At, and_true, Nat.zero_add, Nat.reduceAdd] at o
          by_cases hin : s ∈ L
          · have din : decide (s ∈ L) = true := by simp [hin]
            have hA2 : Hid (∀ s ∈ (mkN ti g c P P.length).take (k + 1), s ∈ L) := all_snoc hA.out HK1.out hin
            clear hin
            go_wp2
            go_roundw
            case rel => exact ⟨k + 1, by omega, by go_num, hA2, hD, hQ.sub (by simp)⟩
            case measure => simp [intOf]; omega
          · have din : decide (s ∈ L) = false := by simp [hin]
            have hr1 : Hid (lk9 L (mkN ti g c P P.length) = s.1) := lk9_at hA.out HK1.out hin
            clear hin
            go_wp2
            go_ret
            exact ⟨by rw [hr.out, hr1.out]; rfl, HF.out.trans (hQ.kp.mono HF.out.size)⟩
        · have hr1 : Hid (lk9 L (mkN ti g c P P.length) = 0) := lk9_all (by have := hA.out; rwa [List.take_of_length_le (by rw [mkN_len]; omega)] at this)
          go_wp2
          go_ret
          exact ⟨by rw [hr.out, hr1.out]; rfl, HF.out.trans (hQ.kp.mono HF.out.size)⟩
  · have hq : Hid (sealsOf ti g c lk P M = []) := if_neg k1
    have hr : Hid (lacks H L ti g c lk P M = -2) := if_neg k1
    rw [hq.out] at hO ⊢
    clear k1 hO HP
    simp only [List.length_nil]
    go_wp2
    go_ret
    exact ⟨by rw [hr.out]; rfl, hF.kp⟩
end Go.Proofs.YtiocomefkckbfaaDoor
set_option linter.unusedSimpArgs false
set_option linter.unusedVariables false
namespace Go.Proofs.YtiocomefkckbfaaDoor
open Go.RowKit Go.Maps Go.WideMaps

set_option maxRecDepth 100000 in
set_option maxHeartbeats 8000000 in
theorem sSealLacks_any (hv lv : Value) (H : List HoldD) (L : List Sl) (g c lk : Int) (pv mv : Value) (P M : List Int) (ti : Int) (w : World) (hh : Rows w hv 3 HoldD.enc H) (hl : Sls w lv L) (hp : Ints w pv P) (hm : Ints w mv M) (hP : P.length ≤ 1000) :
    Calls Tryd.prog 24 #[hv, lv, .agg #[.int .i64 g, .int .i64 c, pv, .int .i64 lk, mv], .int .i64 ti] w fun e w' => e = .returned (.int .i64 (lacks H L ti g c lk P M)) ∧ Below w.heap.size w w' := by
  obtain ⟨o1, c1, rfl, hnc, hcc, -⟩ := hp.ex
  obtain ⟨o2, c2, rfl, -⟩ := hm.ex
  have HP := Lib.hid hp
  have hF := (Fb.start w).alloc [.int .i64 g, .int .i64 c, .slice o1 P.length c1, .int .i64 lk, .slice o2 M.length c2] 35
  replace hp := Rows.below hp hF.kp
  replace hm := Rows.below hm hF.kp
  have HH := Lib.hid hh
  have HL := Lib.hid hl
  clear hh hl
  have o := hF.own; simp only [World.size_alloc, World.size_drew, World.size_setCell, List.mem_cons, List.not_mem_nil, or_false, forall_eq_or_imp, forall_eq, At, and_true, Nat.zero_add, Nat.reduceAdd, List.set_cons_zero, List.set_cons_succ] at o
  go_enter Tryd.func24, Tryd.ntmps24
  by_cases k1 : RtOk g c P lk M
  · have e1 : decide (RtOk g c P lk M) = true := by simp [k1]
    by_cases k2 : Bts ti 1 5
    · have e2 : decide (Bts ti 1 5) = true := by simp [k2]
      by_cases k3 : ti ∈ P
      · have e3 : decide (ti ∈ P) = true := by simp [k3]
        have hr : Hid (lacks H L ti g c lk P M = -2) := if_neg fun q => q.2.2 k3
        clear k1 k2 k3
        go_wp2_with (first | (go_at_call 28; go_must (refine (sRouteOk_any g c lk _ _ P M _ hp hm).mono ?_); rintro e wx ⟨rfl, hbx⟩; (replace hF := hF.below hbx; (try replace hp := Rows.below hp hbx); (try replace hm := Rows.below hm hbx); clear hbx o; have o := hF.own; simp only [World.size_alloc, World.size_drew, World.size_setCell, List.mem_cons, List.not_mem_nil, or_false, forall_eq_or_imp, forall_eq, At, and_true, Nat.zero_add, Nat.reduceAdd, List.set_cons_zero, List.set_cons_succ] at o)) | (go_at_call 42; go_must (refine (l3House_any ti _).mono ?_); rintro e wx ⟨rfl, hbx⟩; (replace hF := hF.below hbx; (try replace hp := Rows.below hp hbx); (try replace hm := Rows.below hm hbx); clear hbx o; have o := hF.own; simp only [World.size_alloc, World.size_drew, World.size_setCell, List.mem_cons, List.not_mem_nil, or_false, forall_eq_or_imp, forall_eq, At, and_true, Nat.zero_add, Nat.reduceAdd, List.set_cons_zero, List.set_cons_succ] at o)) | (go_at_call 43; go_must (refine (l3Has_any _ P ti _ hp).mono ?_); rintro e wx ⟨rfl, hbx⟩; (replace hF := hF.below hbx; (try replace hp := Rows.below hp hbx); (try replace hm := Rows.below hm hbx); clear hbx o; have o := hF.own; simp only [World.size_alloc, World.size_drew, World.size_setCell, List.mem_cons, List.not_mem_nil, or_false, forall_eq_or_imp, forall_eq, At, and_true, Nat.zero_add, Nat.reduceAdd, List.set_cons_zero, List.set_cons_succ] at o)))
        go_ret
        exact ⟨by rw [hr.out]; rfl, hF.kp⟩
      · have e3 : decide (ti ∈ P) = false := by simp [k3]
        have hr0 : Hid (lacks H L ti g c lk P M = if H.any (holdsP (lastP P) g c) then lk9 L (mkN ti g c P P.length) else -1) := if_pos ⟨k1, k2, k3⟩
        have hn0 : 0 < P.length := k1.2.1
        clear k1 k2 k3
        obtain ⟨b, off, rfl⟩ := Ints.some hp hn0
        go_wp2_with (first | (go_at_call 28; go_must (refine (sRouteOk_any g c lk _ _ P M _ hp hm).mono ?_); rintro e wx ⟨rfl, hbx⟩; (replace hF := hF.below hbx; (try replace hp := Rows.below hp hbx); (try replace hm := Rows.below hm hbx); clear hbx o; have o := hF.own; simp only [World.size_alloc, World.size_drew, World.size_setCell, List.mem_cons, List.not_mem_nil, or_false, forall_eq_or_imp, forall_eq, At, and_true, Nat.zero_add, Nat.reduceAdd, List.set_cons_zero, List.set_cons_succ] at o)) | (go_at_call 42; go_must (refine (l3House_any ti _).mono ?_); rintro e wx ⟨rfl, hbx⟩; (replace hF := hF.below hbx; (try replace hp := Rows.below hp hbx); (try replace hm := Rows.below hm hbx); clear hbx o; have o := hF.own; simp only [World.size_alloc, World.size_drew, World.size_setCell, List.mem_cons, List.not_mem_nil, or_false, forall_eq_or_imp, forall_eq, At, and_true, Nat.zero_add, Nat.reduceAdd, List.set_cons_zero, List.set_cons_succ] at o)) | (go_at_call 43; go_must (refine (l3Has_any _ P ti _ hp).mono ?_); rintro e wx ⟨rfl, hbx⟩; (replace hF := hF.below hbx; (try replace hp := Rows.below hp hbx); (try replace hm := Rows.below hm hbx); clear hbx o; have o := hF.own; simp only [World.size_alloc, World.size_drew, World.size_setCell, List.mem_cons, List.not_mem_nil, or_false, forall_eq_or_imp, forall_eq, At, and_true, Nat.zero_add, Nat.reduceAdd, List.set_cons_zero, List.set_cons_succ] at o)))
        obtain ⟨wb, hwb⟩ : ∃ wb : World, wb = wx := ⟨_, rfl⟩
        rw [← hwb] at hF hp hm o ⊢
        clear hwb
        obtain ⟨x, hx⟩ := get_lt (show P.length - 1 < P.length by omega)
        have hxl : Hid (lastP P = x) := getD_of hx
        have cx := Ints.get hp hx
        have cxz := fun z : Cl wb.heap.size wb => z.cell cx
        have HVz := Lib.hid (fun z : Cl wb.heap.size wb => HH.out.below ((hF.cl z).kp))
        have oc := fun x : Cl _ wb => (Fb.cl hF x).own; simp only [World.size_alloc, World.size_drew, World.size_setCell, List.mem_cons, List.not_mem_nil, or_false, forall_eq_or_imp, forall_eq, At, and_true, Nat.zero_add, Nat.reduceAdd, List.set_cons_zero, List.set_cons_succ] at oc
        have d1 : ((P.length : Int) - 1).toNat = P.length - 1 := by omega
        have d2 : IntKind.i64.wrap ((P.length : Int) - 1) = (P.length : Int) - 1 := IntWalk.i64_in _ (by omega)
        have d3 : (0 : Int) ≤ (P.length : Int) - 1 := by omega
        have d4 : (P.length : Int) - 1 < (P.length : Int) := by omega
        obtain ⟨hb, hbe⟩ : ∃ z, H.any (holdsP x g c) = z := ⟨_, rfl⟩
        have hCz := Lib.hid (fun z : Cl wb.heap.size wb => (show Calls Tryd.prog 47 #[hv, .int .i64 x, .agg #[.int .i64 g, .int .i64 c]] z.W fun e w' => e = .returned (.bool hb) ∧ Below z.W.heap.size z.W w' from by have := l13Holds_any hv H x g c z.W (HVz.out z); rwa [hbe] at this))
        rw [hxl.out, hbe] at hr0
        clear hbe HVz cx hx hm hp o
        cases hb with
        | false =>
          have hr : Hid (lacks H L ti g c lk P M = -1) := hr0.out
          first | refine wp_region_new (by kernel_rfl) (by kernel_rfl) ?_ | refine wp_region_lex ?_
          repeat (any_goals (first | go_big_quiet_step (((go_at_call 47; exact Calls.cl (hCz.out _)))) | (refine wpQuiet_step (fun K hK => ?_); go_simp; split <;> (rename_i hg; refine hK _ ?_; clear hK K; simp only [hg, decide_true, decide_false]))))
          all_goals (refine wpQuiet_nil ?_; intro x)
          go_wp2
          go_ret
          exact ⟨by rw [hr.out]; rfl, (hF.cl x).kp⟩
        | true =>
          have hr : Hid (lacks H L ti g c lk P M = lk9 L (mkN ti g c P P.length)) := hr0.out
          first | refine wp_region_new (by kernel_rfl) (by kernel_rfl) ?_ | refine wp_region_lex ?_
          repeat (any_goals (first | go_big_quiet_step (((go_at_call 47; exact Calls.cl (hCz.out _)))) | (refine wpQuiet_step (fun K hK => ?_); go_simp; split <;> (rename_i hg; refine hK _ ?_; clear hK K; simp only [hg, decide_true, decide_false]))))
          all_goals (refine wpQuiet_nil ?_; intro x)
          replace hF := hF.cl x
          clear hCz cxz oc d1 d2 d3 d4 hr0
          go_wp2
          go_loopw [9] (fun i wr => ∃ (k : Nat), k ≤ P.length ∧ i = .int .i64 k ∧ Hid (∀ s ∈ (mkN ti g c P P.length).take k, s ∈ L) ∧ Fb w wr [(w.heap.size, [.int .i64 g, .int .i64 c, .slice (some ⟨b, off, none⟩) P.length c1, .int .i64 lk, .slice o2 M.length c2])]) (fun i _ => P.length - (intOf i).toNat)
          case atStart => exact ⟨0, Nat.zero_le _, rfl, fun s h => (by simp at h), hF⟩
          case round =>
            clear hF
            obtain ⟨k, hk, rfl, hA, hF⟩ := hrel
            by_cases hlt : k < P.length
            · have o := hF.own; simp only [World.size_alloc, World.size_drew, World.size_setCell, List.mem_cons, List.not_mem_nil, or_false, forall_eq_or_imp, forall_eq, At, and_true, Nat.zero_add, Nat.reduceAdd, List.set_cons_zero, List.set_cons_succ] at o
              go_wp2_with fail
              refine (l13Of_any g c lk P b off c1 o2 M.length c2 ti k _ (Rows.below HP.out hF.kp) hlt hP).mono ?_; rintro e wz ⟨u, rfl, hu, -, hbx⟩
              replace hF := hF.below hbx
              have HSG := Lib.hid (mkN_at (ti := ti) (g := g) (c := c) (P := P) hlt)
              obtain ⟨px, hpx⟩ : ∃ z, P.getD k 0 = z := ⟨_, rfl⟩
              obtain ⟨pt, hpt⟩ : ∃ z, tvAt ti P k = z := ⟨_, rfl⟩
              rw [sAt_is, hpx, hpt] at HSG
              rw [hpx, hpt]
              have HPX := Lib.hid hpx
              clear hpx hpt hbx o
              go_wp2_with fail
              refine (l13Has_any lv u L px pt g c (P.drop k) _ (HL.out.below hF.kp) hu).mono ?_; rintro e wv ⟨rfl, hbv⟩
              replace hF := hF.below hbv
              clear hbv hu
              have o := hF.own; simp only [World.size_alloc, World.size_drew, World.size_setCell, List.mem_cons, List.not_mem_nil, or_false, forall_eq_or_imp, forall_eq, At, and_true, Nat.zero_add, Nat.reduceAdd, List.set_cons_zero, List.set_cons_succ] at o
              obtain ⟨s, hs⟩ : ∃ s : Sl, s = (px, pt, g, c, P.drop k) := ⟨_, rfl⟩
              rw [← hs] at HSG ⊢
              have hs1 : Hid (s.1 = px) := by show _ = _; rw [hs]
              clear hs
              by_cases hin : s ∈ L
              · have din : decide (s ∈ L) = true := by simp [hin]
                have hA2 : Hid (∀ s ∈ (mkN ti g c P P.length).take (k + 1), s ∈ L) := all_snoc hA.out HSG.out hin
                clear hin
                go_wp2
                go_roundw
                case rel => exact ⟨k + 1, by omega, by go_num, hA2, hF⟩
                case measure => simp [intOf]; omega
              · have din : decide (s ∈ L) = false := by simp [hin]
                have hr1 : Hid (lk9 L (mkN ti g c P P.length) = px) := (lk9_at hA.out HSG.out hin).trans hs1.out
                obtain ⟨y, hy⟩ := get_lt hlt
                have hyx : px = y := HPX.out.symm.trans (getD_of hy)
                have cy := Ints.get (Rows.below HP.out hF.kp) hy
                rw [← hyx] at cy
                clear hin hy hyx
                go_wp2
                go_ret
                exact ⟨by rw [hr.out, hr1.out]; rfl, hF.kp⟩
            · have hr1 : Hid (lk9 L (mkN ti g c P P.length) = 0) := lk9_all (by have := hA.out; rwa [List.take_of_length_le (by rw [mkN_len]; omega)] at this)
              have o := hF.own; simp only [World.size_alloc, World.size_drew, World.size_setCell, List.mem_cons, List.not_mem_nil, or_false, forall_eq_or_imp, forall_eq, At, and_true, Nat.zero_add, Nat.reduceAdd, List.set_cons_zero, List.set_cons_succ] at o
              go_wp2
              go_ret
              exact ⟨by rw [hr.out, hr1.out]; rfl, hF.kp⟩
    · have e2 : decide (Bts ti 1 5) = false := by simp [k2]
      have hr : Hid (lacks H L ti g c lk P M = -2) := if_neg fun q => k2 q.2.1
      clear k1 k2
      go_wp2_with (first | (go_at_call 28; go_must (refine (sRouteOk_any g c lk _ _ P M _ hp hm).mono ?_); rintro e wx ⟨rfl, hbx⟩; (replace hF := hF.below hbx; (try replace hp := Rows.below hp hbx); (try replace hm := Rows.below hm hbx); clear hbx o; have o := hF.own; simp only [World.size_alloc, World.size_drew, World.size_setCell, List.mem_cons, List.not_mem_nil, or_false, forall_eq_or_imp, forall_eq, At, and_true, Nat.zero_add, Nat.reduceAdd, List.set_cons_zero, List.set_cons_succ] at o)) | (go_at_call 42; go_must (refine (l3House_any ti _).mono ?_); rintro e wx ⟨rfl, hbx⟩; (replace hF := hF.below hbx; (try replace hp := Rows.below hp hbx); (try replace hm := Rows.below hm hbx); clear hbx o; have o := hF.own; simp only [World.size_alloc, World.size_drew, World.size_setCell, List.mem_cons, List.not_mem_nil, or_false, forall_eq_or_imp, forall_eq, At, and_true, Nat.zero_add, Nat.reduceAdd, List.set_cons_zero, List.set_cons_succ] at o)))
      go_ret
      exact ⟨by rw [hr.out]; rfl, hF.kp⟩
  · have e1 : decide (RtOk g c P lk M) = false := by simp [k1]
    have hr : Hid (lacks H L ti g c lk P M = -2) := if_neg fun q => k1 q.1
    clear k1
    go_wp2_with ((go_at_call 28; go_must (refine (sRouteOk_any g c lk _ _ P M _ hp hm).mono ?_); rintro e wx ⟨rfl, hbx⟩; (replace hF := hF.below hbx; (try replace hp := Rows.below hp hbx); (try replace hm := Rows.below hm hbx); clear hbx o; have o := hF.own; simp only [World.size_alloc, World.size_drew, World.size_setCell, List.mem_cons, List.not_mem_nil, or_false, forall_eq_or_imp, forall_eq, At, and_true, Nat.zero_add, Nat.reduceAdd, List.set_cons_zero, List.set_cons_succ] at o)))
    go_ret
    exact ⟨by rw [hr.out]; rfl, hF.kp⟩
theorem sSealOk_any (hv lv : Value) (H : List HoldD) (L : List Sl) (g c lk : Int) (pv mv : Value) (P M : List Int) (ti : Int) (w : World) (hh : Rows w hv 3 HoldD.enc H) (hl : Sls w lv L) (hp : Ints w pv P) (hm : Ints w mv M) (hP : P.length ≤ 1000) :
    Calls Tryd.prog 27 #[hv, lv, .agg #[.int .i64 g, .int .i64 c, pv, .int .i64 lk, mv], .int .i64 ti] w fun e w' => e = .returned (.bool (lacks H L ti g c lk P M == 0)) ∧ Below w.heap.size w w' := by
  obtain ⟨o1, c1, rfl, -⟩ := hp.ex
  obtain ⟨o2, c2, rfl, -⟩ := hm.ex
  have hF := (Fb.start w).alloc [.int .i64 g, .int .i64 c, .slice o1 P.length c1, .int .i64 lk, .slice o2 M.length c2] 35
  go_enter Tryd.func27, Tryd.ntmps27
  go_wp2_with fail
  refine (sSealLacks_any hv lv H L g c lk _ _ P M ti _ (hh.below hF.kp) (hl.below hF.kp) (Rows.below hp hF.kp) (Rows.below hm hF.kp) hP).mono ?_; rintro e wx ⟨rfl, hbx⟩
  replace hF := hF.below hbx
  clear hbx
  go_wp2
  go_ret
  exact ⟨rfl, hF.kp⟩
theorem iSealOk_any (hv lv : Value) (H : List HoldD) (L : List Sl) (g c lk : Int) (pv mv : Value) (P M : List Int) (ti : Int) (a : Addr) (w : World) (hh : Rows w hv 3 HoldD.enc H) (hl : Sls w lv L) (hp : Ints w pv P) (hm : Ints w mv M) (hE : EPath w a) (hT : Tab w) (hP : P.length ≤ 1000) (hL : L.length ≤ 100000) (hs : ∀ s ∈ L, SmS s) :
    Calls Tryd.prog 19 #[hv, lv, .agg #[.int .i64 g, .int .i64 c, pv, .int .i64 lk, mv], .int .i64 ti] w fun e w' => e = .returned (.bool (lacks H L ti g c lk P M == 0)) ∧ Below w.heap.size w w' := by
  obtain ⟨o1, c1, rfl, -⟩ := hp.ex
  obtain ⟨o2, c2, rfl, -⟩ := hm.ex
  have hF := (Fb.start w).alloc [.int .i64 g, .int .i64 c, .slice o1 P.length c1, .int .i64 lk, .slice o2 M.length c2] 35
  have HS := Lib.hid hs
  clear hs
  go_enter Tryd.func19, Tryd.ntmps19
  go_wp2_with fail
  refine (iSealLacks_any hv lv H L g c lk _ _ P M ti a _ (hh.below hF.kp) (hl.below hF.kp) (Rows.below hp hF.kp) (Rows.below hm hF.kp) (hE.below hF.kp) (tab_below hT hF.kp) hP hL HS.out).mono ?_; rintro e wx ⟨rfl, hbx⟩
  replace hF := hF.below hbx
  clear hbx
  go_wp2
  go_ret
  exact ⟨rfl, hF.kp⟩
end Go.Proofs.YtiocomefkckbfaaDoor
set_option linter.unusedSimpArgs false
set_option linter.unusedVariables false
namespace Go.Proofs.YtiocomefkckbfaaDoor
open Go Go.RowKit

section
variable {P : Program} {ops : Array Oper} {md : Region.Mode} {C : World → Prop}

/-- Whatever order the head's operations come up in, each has its one value, and L holds behind them. -/
def HeadQ (P : Program) (md : Region.Mode) (ops : Array Oper) (C : World → Prop) (n : Nat) (L : Array Bool → Act → Prop) : Nat → Array Bool → Act → Prop
  | 0, ls, a => L ls a
  | f + 1, ls, a => Region.ready md ops ls ≠ [] ∧ ∀ i ∈ Region.ready md ops ls, i < n ∧ qOp P ops C i (HeadQ P md ops C n L f (ls.setIfInBounds i true)) a

theorem HeadQ.any {n g : Nat} {L : Array Bool → Act → Prop} {Q : Exit → Act → World → Prop} (hL : ∀ ls a w, C w → L ls a → wpAny P md ops Q g ls a w) :
    ∀ f ls a w, C w → HeadQ P md ops C n L f ls a → wpAny P md ops Q (f + g) ls a w
  | 0, ls, a, w, hw, h => by rw [Nat.zero_add]; exact hL ls a w hw h
  | f + 1, ls, a, w, hw, ⟨h1, h2⟩ => by
    rw [Nat.add_right_comm]
    refine ⟨fun e => absurd e h1, fun i hi => ?_⟩
    exact wpOp_of_qOp hw (fun a' w' hw' k => HeadQ.any hL f _ a' w' hw' k) (h2 i hi).2

/-- One of the head that is ready, and apart from all that does not wait for it, may as well come first. -/
theorem HeadQ.first {n i : Nat} {o : Oper} {v : Value} {L : Array Bool → Act → Prop} (ho : ops[i]? = some o) (hsel : ∀ (j : Nat) (o : Oper) cs b, ops[j]? = some o → o.op ≠ .select cs b)
    (hs : Region.sinkB md ops n = true) (hc : Region.chainB md ops n = true) (hn : n < ops.size) (hin : i < n) (hend : ∀ ls a, L ls a → ∀ j ∈ Region.ready md ops ls, n ≤ j) :
    ∀ f ls a, HeadInv md ops n ls → (∀ j oj, ops[j]? = some oj → j ≠ i → ls.getD j true = false → (∀ e ∈ oj.after, Region.binds md e = true → e.on ≠ i) → o.apart ops oj = true) →
      i ∈ Region.ready md ops ls → YieldsIn P ops C o v a → HeadQ P md ops C n L f (ls.setIfInBounds i true) (a.put o.dst v) → HeadQ P md ops C n L (f + 1) ls a := by
  intro f
  induction f with
  | zero =>
    intro ls a inv _ hi hy k
    have hnot : ∀ j ∈ Region.ready md ops ls, j < n := fun j hj => Classical.byContradiction fun g => tail_waits hs hc hn inv _ i rfl hin (mem_ready.1 hi).1 j (by omega) hj
    refine ⟨fun e => (by rw [e] at hi; cases hi), fun j hj => ⟨hnot j hj, ?_⟩⟩
    by_cases e : j = i
    · subst e; exact hy.qOp ho k
    · have h1 := hend _ _ k j (ready_mono hj e)
      have h2 := hnot j hj
      omega
  | succ f ih =>
    intro ls a inv hap hi hy k
    have hnot : ∀ j ∈ Region.ready md ops ls, j < n := fun j hj => Classical.byContradiction fun g => tail_waits hs hc hn inv _ i rfl hin (mem_ready.1 hi).1 j (by omega) hj
    refine ⟨fun e => (by rw [e] at hi; cases hi), fun j hj => ⟨hnot j hj, ?_⟩⟩
    by_cases e : j = i
    · subst e; exact hy.qOp ho k
    · obtain ⟨hju, oj, hoj, haft⟩ := mem_ready.1 hj
      have hfree : ∀ x ∈ oj.after, Region.binds md x = true → x.on ≠ i := fun x hx hb q => by
        have := haft x hx hb
        rw [q, getD_both (mem_ready.1 hi).1] at this
        cases this
      have hq := qOp_put hoj (hap j oj hoj e hju hfree) (fun cs b => hsel i o cs b ho) (fun cs b => hsel j oj cs b hoj) hy (k.2 j (ready_mono hj e)).2
      refine qOp_mono (fun a' ha' => ih (ls.setIfInBounds j true) a' (inv.set hj (hnot j hj)) (fun m om hm hmi hmu hno => hap m om hm hmi ?_ hno) (ready_mono hi (Ne.symm e)) ha'.1 ?_) hq
      · by_cases q : j = m
        · subst q; exact hju
        · rwa [getD_set_ne true q] at hmu
      · rw [Array.setIfInBounds_comm _ _ e]
        exact ha'.2

theorem HeadQ.lex {n g : Nat} {K : Act → Prop} (hsel : Region.noSelect ops = true) (hs : Region.sinkB md ops n = true) (hc : Region.chainB md ops n = true) (hn : n < ops.size) :
    ∀ (l : List Oper) (k : Nat) (ls : Array Bool) (a : Act), (∀ j, j < l.length → l[j]? = ops[k + j]?) → k + l.length = n → HeadInv md ops n ls → Region.lexHead md ops g l.length k ls = true →
      wpQuiet P ops C K l a → HeadQ P md ops C n (fun ls a => Region.seqB md ops g n ls = true ∧ K a) l.length ls a
  | [], k, ls, a, _, hk, _, hB, h => by
    obtain rfl : k = n := by simpa using hk
    exact ⟨by simpa [Region.lexHead] using hB, h⟩
  | o :: l, k, ls, a, hl, hk, inv, hB, h => by
    have ho : ops[k]? = some o := by simpa using (hl 0 (by simp)).symm
    simp only [List.length_cons, Region.lexHead, Bool.and_eq_true] at hB hk
    have hr : k ∈ Region.ready md ops ls := by simpa using hB.1.1
    have hq : qOp P ops C k (wpQuiet P ops C K l) a := by unfold qOp; simp only [ho]; exact h
    obtain ⟨v, hy, hK⟩ := yieldsIn_of_qOp ho hq
    refine HeadQ.first ho (Region.noSelect_spec hsel) hs hc hn (by omega) (fun ls a hL => seqB_ready hL.1) l.length ls a inv (Region.free_spec ho hB.1.2) hr hy ?_
    exact HeadQ.lex hsel hs hc hn l (k + 1) _ _ (fun j hj => by have := hl (j + 1) (by simp; omega); simpa [Nat.add_assoc, Nat.add_comm 1 j] using this) (by omega) (inv.set hr (by omega)) hB.2 hK
end

/-- The region. -/
theorem wp_region_tail {P : Program} {id : Nat} {Q : Exit → Act → World → Prop} {a : Act} {w : World} {l : List Oper} (n : Nat) (hm : P.follows .mixedOrders = true) (hB : Region.lexTailB .any l.toArray n = true)
    (h : wpQuiet P l.toArray (fun w' => ∃ x : Cl w.heap.size w, w' = x.W) (fun a' => ∀ x : Cl w.heap.size w, wpList P l.toArray Q (l.drop n) a' x.W) (l.take n) a) : (Code.region id l.toArray true).wp P Q a w := by
  simp only [Region.lexTailB, Bool.and_eq_true, decide_eq_true_eq] at hB
  obtain ⟨⟨⟨⟨hsel, hn⟩, hs⟩, hc⟩, hlex⟩ := hB
  have hnl : n < l.length := by simpa using hn
  have e1 : (l.take n).length = n := by simp; omega
  have e2 : (l.drop n).length = l.toArray.size - n := by simp
  have inv0 : HeadInv .any l.toArray n (Array.replicate l.toArray.size false) :=
    ⟨by simp, fun j oj _ hl => (by rw [getD_replicate_false] at hl; cases hl), fun t _ ht => getD_in (by simpa using ht) (getD_replicate_false _ _)⟩
  have H := HeadQ.lex (md := .any) (g := l.toArray.size - n) hsel hs hc hn (l.take n) 0 _ a (fun j hj => by rw [e1] at hj; simp [hj]) (by rw [e1, Nat.zero_add]) inv0 (by rw [e1]; exact hlex) h
  refine wp_region_any hm ?_
  have key := HeadQ.any (Q := Q) (g := l.toArray.size - n) (fun ls a' w' hw' hL => by
    obtain ⟨x, rfl⟩ := hw'
    have := wpAny_of_seq (md := .any) (Q' := Q) (l.drop n) n ls a' x.W (fun j => by simp [List.getElem?_drop]) (by rw [e2]; exact hL.1) (hL.2 x)
    rwa [e2] at this) _ _ _ w.drew ⟨⟨w.drew, (Below.refl _ _).drew⟩, rfl⟩ H
  rw [e1, show n + (l.toArray.size - n) = l.toArray.size by omega] at key
  exact key
end Go.Proofs.YtiocomefkckbfaaDoor
