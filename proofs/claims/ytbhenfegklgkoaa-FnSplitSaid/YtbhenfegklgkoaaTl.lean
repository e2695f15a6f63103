/- Tries of tables; finding, by both. -/
import Derived.Test.YtbhenfegklgkoaaTk
set_option linter.unusedSimpArgs false
set_option linter.unusedVariables false
namespace Go.Proofs.Ytbhenfegklgkoaa
open Go.RowKit

set_option maxHeartbeats 2000000 in
theorem trieOf_any (v : Value) (T : List Ent) (w : World) (hv : Ents w v T) (hT : TOk T) :
    Calls Try.prog 49 #[v] w fun e w' => e = .returned (.pointer (some ⟨w.heap.size, 0, none⟩)) ∧ (∃ nd, Tr w' w.heap.size w.heap.size nd (va T)) ∧ Below w.heap.size w w' := by
  have hTr := Tr.made w w.heap.size 82 (Nat.le_refl _)
  have hB := (Below.refl w.heap.size w).alloc (Nat.le_refl _) (.cells #[.int .i64 0, .pointer none, .pointer none] 82)
  have HT := Lib.hid hT
  obtain ⟨n, cap, hn, hnc, hcap, hv'⟩ := hv.cases
  have hn12 : n ≤ 12 := by have := hT.2; have := hn.out; omega
  clear hT
  rcases hv' with ⟨hn0, ao, rfl⟩ | ⟨hn0, b0, off, rfl, hc⟩
  all_goals
    clear hv
    go_enter Try.func49, Try.ntmps49
    go_wp2
    go_loopw [10] (fun i wr => ∃ (k : Nat) (nd : Nat → Option Nat), k ≤ n ∧ i = .int .i64 k ∧ Hid (Tr wr w.heap.size w.heap.size nd (vaL T k)) ∧ Below w.heap.size w wr) (fun i _ => n - (intOf i).toNat)
    case atStart => exact ⟨0, _, Nat.zero_le _, rfl, hTr, hB⟩
    case round =>
      clear hTr hB
      obtain ⟨k, nd, hk, rfl, hTr, hB⟩ := hrel
      by_cases hlt : k < n
      · try (exfalso; omega)
        all_goals
          obtain ⟨y, hy⟩ := get_of hn.out hlt
          obtain ⟨c0, c1, c2⟩ := ents3 hc.out hy
          have hEy := tok_ep HT.out (List.mem_of_getElem? hy)
          have hst := Lib.hid (vaL_s hy)
          obtain ⟨⟨q0, q8, p0, p1, _⟩, _⟩ := hEy
          obtain ⟨yf, yb, yv⟩ := y
          dsimp only at c0 c1 c2 q0 q8 p0 p1
          obtain ⟨yf, rfl⟩ := Int.eq_ofNat_of_zero_le p0
          obtain ⟨yb, rfl⟩ := Int.eq_ofNat_of_zero_le q0
          have h0 := (hB.cell (p := ⟨b0, off + k * 3, none⟩) (World.block_lt_of_cell? w _ c0)).trans c0
          have h1 := (hB.cell (p := ⟨b0, off + k * 3 + 1, none⟩) (World.block_lt_of_cell? w _ c1)).trans c1
          have h2 := (hB.cell (p := ⟨b0, off + k * 3 + 2, none⟩) (World.block_lt_of_cell? w _ c2)).trans c2
          have hsz := hB.size
          have hid : Hid (upd (vaL T k) (up yf yb) yv = vaL T (k + 1)) := by show _ = _; rw [hst.out]; rfl
          clear c0 c1 c2 hy hst
          go_wp2_with fail
          refine (tput_any yf yb w.heap.size w.heap.size yv nd _ _ (by omega) (by omega) (by simp; omega) (hTr.out.below ((Below.refl _ _).alloc (Nat.le_refl _) _))).mono ?_; rintro e wx ⟨rfl, ⟨nd2, hT2⟩, hB2⟩
          rw [hid.out] at hT2
          have HT2 := Lib.hid hT2
          have hB3 := (hB.alloc hsz _).trans hB2
          clear hT2 hB2 h0 h1 h2
          go_wp2
          go_roundw
          case rel => exact ⟨k + 1, nd2, by omega, by go_num, HT2, hB3⟩
          case measure => simp [intOf]; omega
      · have hfin : Hid (Tr wr w.heap.size w.heap.size nd (va T)) := by
          have := hTr.out
          rw [show k = T.length by rw [hn.out]; omega] at this
          exact this
        go_wp2
        go_ret
        exact ⟨rfl, ⟨nd, hfin.out⟩, hB⟩
/-- By whom one goes to a, if the table is one and a an address. -/
def tfind (T : List Ent) (a : Int) : Int := if TOk T ∧ Bts a 0 255 then fnd T a.toNat else 0
theorem tfind_yes {T : List Ent} {a : Int} (h1 : TOk T) (h2 : Bts a 0 255) : tfind T a = fnd T a.toNat := by unfold tfind; rw [if_pos ⟨h1, h2⟩]
theorem tfind_no {T : List Ent} {a : Int} (h : ¬ (TOk T ∧ Bts a 0 255)) : tfind T a = 0 := by unfold tfind; rw [if_neg h]
theorem iTableFind_any (v : Value) (T : List Ent) (a : Int) (w : World) (hv : Ents w v T) :
    Calls Try.prog 19 #[v, .int .i64 a] w fun e w' => e = .returned (.int .i64 (tfind T a)) ∧ Below w.heap.size w w' := by
  have hF := Fb.start w
  have hV := hv
  by_cases h1 : TOk T
  · have d1 : decide (TOk T) = true := by simp [h1]
    by_cases h2 : Bts a 0 255
    · have d2 : decide (Adr a) = true := decide_eq_true h2
      rw [tfind_yes h1 h2]
      have HT := Lib.hid h1
      obtain ⟨a0, a1⟩ := h2
      obtain ⟨a, rfl⟩ := Int.eq_ofNat_of_zero_le a0
      clear h1
      go_enter Try.func19, Try.ntmps19
      go_wp2_with (first | (go_at_call 16; go_must (refine (iTableOk_any _ T _ hV).mono ?_); rintro e wx ⟨rfl, hbx⟩; replace hF := hF.below hbx; replace hV := hV.below hbx; clear hbx) | (go_at_call 48; go_must (refine (isAddr_any _ _).mono ?_); rintro e wx ⟨rfl, hbx⟩; replace hF := hF.below hbx; replace hV := hV.below hbx; clear hbx))
      refine (trieOf_any _ T _ hV HT.out).mono ?_; rintro e wy ⟨rfl, ⟨nd, hTr⟩, hB⟩
      replace hF := hF.below hB
      have HTr := Lib.hid hTr
      clear hTr hB
      go_wp2_with fail
      refine (find_any a _ _ nd (va T) _ (by omega) HTr.out).mono ?_; rintro e wz ⟨rfl, hbz⟩
      replace hF := hF.below hbz
      clear hbz
      go_wp2
      go_ret
      exact ⟨rfl, hF.kp⟩
    · have d2 : decide (Adr a) = false := decide_eq_false h2
      rw [tfind_no (fun g => h2 g.2)]
      clear h1 h2
      go_enter Try.func19, Try.ntmps19
      go_wp2_with (first | (go_at_call 16; go_must (refine (iTableOk_any _ T _ hV).mono ?_); rintro e wx ⟨rfl, hbx⟩; replace hF := hF.below hbx; replace hV := hV.below hbx; clear hbx) | (go_at_call 48; go_must (refine (isAddr_any _ _).mono ?_); rintro e wx ⟨rfl, hbx⟩; replace hF := hF.below hbx; replace hV := hV.below hbx; clear hbx))
      go_ret
      exact ⟨rfl, hF.kp⟩
  · have d1 : decide (TOk T) = false := by simp [h1]
    rw [tfind_no (fun g => h1 g.1)]
    clear h1
    go_enter Try.func19, Try.ntmps19
    go_wp2_with (go_at_call 16; go_must (refine (iTableOk_any _ T _ hV).mono ?_); rintro e wx ⟨rfl, hbx⟩; replace hF := hF.below hbx; replace hV := hV.below hbx; clear hbx)
    go_ret
    exact ⟨rfl, hF.kp⟩
/-- The best of the first k entries. -/
structure Bst (T : List Ent) (a k : Nat) (o : Option Nat) : Prop where
  no : o = none → ∀ (j : Nat) (x : Ent), j < k → T[j]? = some x → ¬ covE a x
  yes : ∀ i, o = some i → i < k ∧ ∃ x, T[i]? = some x ∧ covE a x ∧ ∀ (j : Nat) (y : Ent), j < k → T[j]? = some y → covE a y → y.2.1 ≤ x.2.1
theorem bst_0 (T : List Ent) (a : Nat) : Bst T a 0 none := ⟨fun _ j x h => by omega, fun i h => by cases h⟩
theorem bst_skip {T : List Ent} {a k : Nat} {o : Option Nat} {y : Ent} (h : Bst T a k o) (hy : T[k]? = some y) (hc : ¬ covE a y) : Bst T a (k + 1) o :=
  ⟨fun e j x hj hx => by
    by_cases e1 : j = k
    · subst e1; rw [hy] at hx; injection hx with hx; rw [← hx]; exact hc
    · exact h.no e j x (by omega) hx, fun i e => by
    obtain ⟨h1, x, h2, h3, h4⟩ := h.yes i e
    exact ⟨by omega, x, h2, h3, fun j z hj hz hcz => by
      by_cases e1 : j = k
      · subst e1; rw [hy] at hz; injection hz with hz; exact absurd (hz ▸ hcz) hc
      · exact h4 j z (by omega) hz hcz⟩⟩
theorem bst_first {T : List Ent} {a k : Nat} {y : Ent} (h : Bst T a k none) (hy : T[k]? = some y) (hc : covE a y) : Bst T a (k + 1) (some k) :=
  ⟨fun e => (by cases e), fun i e => by
    injection e with e; subst e
    exact ⟨by omega, y, hy, hc, fun j z hj hz hcz => by
      by_cases e1 : j = k
      · subst e1; rw [hy] at hz; injection hz with hz; rw [hz]; exact Int.le_refl _
      · exact absurd hcz (h.no rfl j z (by omega) hz)⟩⟩
theorem bst_more {T : List Ent} {a k i : Nat} {x y : Ent} (h : Bst T a k (some i)) (hx : T[i]? = some x) (hy : T[k]? = some y) (hc : covE a y) (hb : x.2.1 < y.2.1) : Bst T a (k + 1) (some k) :=
  ⟨fun e => (by cases e), fun i' e => by
    injection e with e; subst e
    obtain ⟨h1, x', h2, h3, h4⟩ := h.yes i rfl
    rw [hx] at h2; injection h2 with h2; subst h2
    exact ⟨by omega, y, hy, hc, fun j z hj hz hcz => by
      by_cases e1 : j = k
      · subst e1; rw [hy] at hz; injection hz with hz; rw [hz]; exact Int.le_refl _
      · have := h4 j z (by omega) hz hcz; omega⟩⟩
theorem bst_keep {T : List Ent} {a k i : Nat} {x y : Ent} (h : Bst T a k (some i)) (hx : T[i]? = some x) (hy : T[k]? = some y) (hb : y.2.1 ≤ x.2.1) : Bst T a (k + 1) (some i) :=
  ⟨fun e => (by cases e), fun i' e => by
    injection e with e; subst e
    obtain ⟨h1, x', h2, h3, h4⟩ := h.yes i rfl
    rw [hx] at h2; injection h2 with h2; subst h2
    exact ⟨by omega, x, hx, h3, fun j z hj hz hcz => by
      by_cases e1 : j = k
      · subst e1; rw [hy] at hz; injection hz with hz; rw [← hz]; exact hb
      · exact h4 j z (by omega) hz hcz⟩⟩
def bVia (T : List Ent) : Option Nat → Int
  | none => 0
  | some i => (T.getD i zE).2.2
theorem bst_fnd {T : List Ent} (hT : TOk T) {a : Nat} (ha : a < 256) {o : Option Nat} (h : Bst T a T.length o) : fnd T a = bVia T o := by
  cases o with
  | none =>
    refine fnd_none hT ha fun x hx => ?_
    obtain ⟨j, hj, rfl⟩ := List.getElem_of_mem hx
    exact h.no rfl j _ hj (List.getElem?_eq_getElem hj)
  | some i =>
    obtain ⟨h1, x, h2, h3, h4⟩ := h.yes i rfl
    show fnd T a = (T.getD i zE).2.2
    rw [getD_of h2]
    refine fnd_best hT ha (List.mem_of_getElem? h2) h3 fun y hy hc => ?_
    obtain ⟨j, hj, rfl⟩ := List.getElem_of_mem hy
    exact h4 j _ hj (List.getElem?_eq_getElem hj) hc
def bIx (o : Option Nat) : Value := .int .i64 (match o with | none => -1 | some i => (i : Int))
set_option maxHeartbeats 2000000 in
theorem l2Find_any (v : Value) (T : List Ent) (a : Nat) (w : World) (hv : Ents w v T) (hT : TOk T) (ha : a < 256) :
    Calls Try.prog 52 #[v, .int .i64 a] w fun e w' => e = .returned (.int .i64 (fnd T a)) ∧ Below w.heap.size w w' := by
  have hF := Fb.start w
  have HT := Lib.hid hT
  have ha0 : (0 : Int) ≤ (a : Int) := by omega
  have ha1 : (a : Int) ≤ 255 := by omega
  obtain ⟨n, cap, hn, hnc, hcap, hv'⟩ := hv.cases
  have hn12 : n ≤ 12 := by have := hT.2; have := hn.out; omega
  clear hT
  rcases hv' with ⟨hn0, ao, rfl⟩ | ⟨hn0, b0, off, rfl, hc⟩
  all_goals
    clear hv
    go_enter Try.func52, Try.ntmps52
    go_wp2
    go_loopw [5, 6] (fun s5 s6 wr => ∃ (k : Nat) (o : Option Nat), k ≤ n ∧ s5 = bIx o ∧ s6 = .int .i64 k ∧ Hid (Bst T a k o) ∧ Fb w wr []) (fun _ s6 _ => n - (intOf s6).toNat)
    case atStart => exact ⟨0, none, Nat.zero_le _, rfl, rfl, bst_0 T a, hF⟩
    case round =>
      clear hF
      obtain ⟨k, o, hk, rfl, rfl, hb, hF⟩ := hrel
      by_cases hlt : k < n
      · try (exfalso; omega)
        all_goals
          obtain ⟨y, hy⟩ := get_of hn.out hlt
          obtain ⟨c0, c1, c2⟩ := ents3 hc.out hy
          have hEy := tok_ep HT.out (List.mem_of_getElem? hy)
          have hok := Lib.hid hEy.1
          have HY := Lib.hid hy
          have hcov : Hid (covE a y ↔ Cov y.1 y.2.1 (a : Int)) := Iff.rfl
          clear hy hEy
          obtain ⟨yf, yb, yv⟩ := y
          dsimp only at c0 c1 c2 hok hcov
          have cc0 := fun x : Cl wr.heap.size wr => Cl.old hF x c0
          have cc1 := fun x : Cl wr.heap.size wr => Cl.old hF x c1
          clear c0 c1 c2
          by_cases hC : Cov yf yb (a : Int)
          · have dC : decide (Cov yf yb (a : Int)) = true := by simp [hC]
            have HC := Lib.hid (hcov.out.2 hC)
            have hLH := Lib.hid (fun w => (show Calls Try.prog 70 #[.agg #[.int .i64 yf, .int .i64 yb], .int .i64 (a : Int)] w fun e w' => e = .returned (.bool true) ∧ Below w.heap.size w w' from by have := l1Has_any yf yb a hok.out ha0 ha1 w; rw [dC] at this; exact this))
            clear hC
            cases o with
            | none =>
              have hb2 := Lib.hid (bst_first hb.out HY.out HC.out)
              simp only [bIx]
              go_wp2
              first | refine wp_region_new (by kernel_rfl) (by kernel_rfl) ?_ | refine wp_region_lex ?_
              repeat (any_goals (first | go_big_quiet_step (((go_at_call 70; exact Calls.cl (hLH.out _)))) | (refine wpQuiet_step (fun K hK => ?_); go_simp; split <;> (rename_i hg; refine hK _ ?_; clear hK K; simp only [hg, decide_true, decide_false]))))
              all_goals (refine wpQuiet_nil ?_; intro x)
              go_wp2
              go_roundw
              case rel => exact ⟨k + 1, some k, by omega, rfl, by go_num, hb2, hF.cl x⟩
              case measure => simp [intOf]; omega
            | some i =>
              have hik := (hb.out.yes i rfl).1
              obtain ⟨z, hz⟩ := get_of hn.out (show i < n by omega)
              have HZ := Lib.hid hz
              obtain ⟨p0, p1, p2⟩ := ents3 hc.out hz
              clear hz
              obtain ⟨zf, zb, zv⟩ := z
              dsimp only at p0 p1 p2
              have pp1 := fun x : Cl wr.heap.size wr => Cl.old hF x p1
              clear p0 p1 p2
              have hin : i < n := by omega
              have dneg : decide ((i : Int) < 0) = false := decide_eq_false (by omega)
              simp only [bIx]
              by_cases hbb : zb < yb
              · have dB : decide (zb < yb) = true := by simp [hbb]
                have hb2 := Lib.hid (bst_more hb.out HZ.out HY.out HC.out hbb)
                clear hbb
                go_wp2
                first | refine wp_region_new (by kernel_rfl) (by kernel_rfl) ?_ | refine wp_region_lex ?_
                repeat (any_goals (first | go_big_quiet_step (((go_at_call 70; exact Calls.cl (hLH.out _)))) | (refine wpQuiet_step (fun K hK => ?_); go_simp; split <;> (rename_i hg; refine hK _ ?_; clear hK K; simp only [hg, decide_true, decide_false]))))
                all_goals (refine wpQuiet_nil ?_; intro x)
                go_wp2
                go_roundw
                case rel => exact ⟨k + 1, some k, by omega, rfl, by go_num, hb2, hF.cl x⟩
                case measure => simp [intOf]; omega
              · have dB : decide (zb < yb) = false := by simp; omega
                have hb2 := Lib.hid (bst_keep hb.out HZ.out HY.out (by dsimp only; omega))
                clear hbb
                go_wp2
                first | refine wp_region_new (by kernel_rfl) (by kernel_rfl) ?_ | refine wp_region_lex ?_
                repeat (any_goals (first | go_big_quiet_step (((go_at_call 70; exact Calls.cl (hLH.out _)))) | (refine wpQuiet_step (fun K hK => ?_); go_simp; split <;> (rename_i hg; refine hK _ ?_; clear hK K; simp only [hg, decide_true, decide_false]))))
                all_goals (refine wpQuiet_nil ?_; intro x)
                go_wp2
                go_roundw
                case rel => exact ⟨k + 1, some i, by omega, rfl, by go_num, hb2, hF.cl x⟩
                case measure => simp [intOf]; omega
          · have dC : decide (Cov yf yb (a : Int)) = false := by simp [hC]
            have hb2 := Lib.hid (bst_skip hb.out HY.out (fun g => hC (hcov.out.1 g)))
            have hLH := Lib.hid (fun w => (show Calls Try.prog 70 #[.agg #[.int .i64 yf, .int .i64 yb], .int .i64 (a : Int)] w fun e w' => e = .returned (.bool false) ∧ Below w.heap.size w w' from by have := l1Has_any yf yb a hok.out ha0 ha1 w; rw [dC] at this; exact this))
            clear hC
            go_wp2
            first | refine wp_region_new (by kernel_rfl) (by kernel_rfl) ?_ | refine wp_region_lex ?_
            repeat (any_goals (first | go_big_quiet_step (((go_at_call 70; exact Calls.cl (hLH.out _)))) | (refine wpQuiet_step (fun K hK => ?_); go_simp; split <;> (rename_i hg; refine hK _ ?_; clear hK K; simp only [hg, decide_true, decide_false]))))
            all_goals (refine wpQuiet_nil ?_; intro x)
            go_wp2
            go_roundw
            case rel => exact ⟨k + 1, o, by omega, rfl, by go_num, hb2, hF.cl x⟩
            case measure => simp [intOf]; omega
      · obtain rfl : k = n := by omega
        have hres : Hid (fnd T a = bVia T o) := bst_fnd HT.out ha (by rw [hn.out]; exact hb.out)
        cases o with
        | none =>
          simp only [bIx]
          go_wp2
          go_ret
          exact ⟨by rw [hres.out]; rfl, hF.kp⟩
        | some i =>
          have hik := (hb.out.yes i rfl).1
          try (exfalso; omega)
          all_goals
            obtain ⟨z, hz⟩ := get_of hn.out hik
            obtain ⟨p0, p1, p2⟩ := ents3 hc.out hz
            have hg : Hid (T.getD i zE = z) := getD_of hz
            have q2 := hF.old p2
            clear hz p0 p1 p2
            obtain ⟨zf, zb, zv⟩ := z
            dsimp only at q2
            simp only [bIx]
            go_wp2
            go_ret
            exact ⟨by rw [hres.out]; show _ = Ending.returned (.int .i64 (T.getD i zE).2.2); rw [hg.out]; rfl, hF.kp⟩
theorem sTableFind_any (v : Value) (T : List Ent) (a : Int) (w : World) (hv : Ents w v T) :
    Calls Try.prog 20 #[v, .int .i64 a] w fun e w' => e = .returned (.int .i64 (tfind T a)) ∧ Below w.heap.size w w' := by
  have hF := Fb.start w
  have hV := hv
  by_cases h1 : TOk T
  · have d1 : decide (TOk T) = true := by simp [h1]
    by_cases h2 : Bts a 0 255
    · have d2 : decide (Bts a 0 255) = true := decide_eq_true h2
      rw [tfind_yes h1 h2]
      have HT := Lib.hid h1
      obtain ⟨a0, a1⟩ := h2
      obtain ⟨a, rfl⟩ := Int.eq_ofNat_of_zero_le a0
      have hr := fun w hv => l2Find_any v T a w hv HT.out (by omega)
      have hr' := Lib.hid hr
      clear h1 hr
      go_enter Try.func20, Try.ntmps20
      go_wp2_with (first | (go_at_call 17; go_must (refine (sTableOk_any _ T _ hV).mono ?_); rintro e wx ⟨rfl, hbx⟩; replace hF := hF.below hbx; replace hV := hV.below hbx; clear hbx) | (go_at_call 51; go_must (refine (l6In_any _ _ _ _).mono ?_); rintro e wx ⟨rfl, hbx⟩; replace hF := hF.below hbx; replace hV := hV.below hbx; clear hbx) | (go_at_call 52; go_must (refine (hr'.out _ hV).mono ?_); rintro e wx ⟨rfl, hbx⟩; replace hF := hF.below hbx; clear hbx))
      go_ret
      exact ⟨rfl, hF.kp⟩
    · have d2 : decide (Bts a 0 255) = false := decide_eq_false h2
      rw [tfind_no (fun g => h2 g.2)]
      clear h1 h2
      go_enter Try.func20, Try.ntmps20
      go_wp2_with (first | (go_at_call 17; go_must (refine (sTableOk_any _ T _ hV).mono ?_); rintro e wx ⟨rfl, hbx⟩; replace hF := hF.below hbx; replace hV := hV.below hbx; clear hbx) | (go_at_call 51; go_must (refine (l6In_any _ _ _ _).mono ?_); rintro e wx ⟨rfl, hbx⟩; replace hF := hF.below hbx; replace hV := hV.below hbx; clear hbx))
      go_ret
      exact ⟨rfl, hF.kp⟩
  · have d1 : decide (TOk T) = false := by simp [h1]
    rw [tfind_no (fun g => h1 g.1)]
    clear h1
    go_enter Try.func20, Try.ntmps20
    go_wp2_with (go_at_call 17; go_must (refine (sTableOk_any _ T _ hV).mono ?_); rintro e wx ⟨rfl, hbx⟩; replace hF := hF.below hbx; replace hV := hV.below hbx; clear hbx)
    go_ret
    exact ⟨rfl, hF.kp⟩
end Go.Proofs.Ytbhenfegklgkoaa
