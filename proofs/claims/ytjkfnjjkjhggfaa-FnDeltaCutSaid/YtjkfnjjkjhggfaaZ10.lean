/- Routes compared. Paths drawn. append onto an owned row, at a step of a region that draws its order. -/
import Derived.Test.YtjkfnjjkjhggfaaZ9
import Derived.Test.YtjkfnjjkjhggfaaZ7
import Derived.Test.YtjkfnjjkjhggfaaZ3
import Derived.Test.YtjkfnjjkjhggfaaZ2
import Derived.Deep.RegionHeldLaw
import Derived.Deep.RegionLaw
import Derived.Deep.AppendLies
set_option linter.unusedSimpArgs false
set_option linter.unusedVariables false
namespace Go.Proofs.Ytjkfnjjkjhggfaa
open Go.RowKit

/-- Which of two routes is better. -/
def rtc (f b lk : Int) (P M : List Int) (g c lk2 : Int) (P2 M2 : List Int) : Int := orz (icmp lk2 lk) (orz (PC P P2) (orz (RC f b g c) (orz (icmp (M.length : Int) (M2.length : Int)) (lex M M2))))
def RT (f b lk : Int) (P M : List Int) (g c lk2 : Int) (P2 M2 : List Int) : Int := if RtOk f b P lk M ∧ RtOk g c P2 lk2 M2 then rtc f b lk P M g c lk2 P2 M2 else 0
theorem orI5 (a b c d e : Int) : orI [a, b, c, d, e] = orz a (orz b (orz c (orz d e))) := by
  simp only [orI_cons, orI_nil, orz]
  by_cases h1 : a = 0 <;> by_cases h2 : b = 0 <;> by_cases h3 : c = 0 <;> by_cases h4 : d = 0 <;> by_cases h5 : e = 0 <;> simp [h1, h2, h3, h4, h5]
def rts (f b lk : Int) (P M : List Int) (g c lk2 : Int) (P2 M2 : List Int) : Int := orz (icmp lk2 lk) (orz (pcmp P P2) (orz (rcmp f b g c) (pcmp M M2)))
theorem rts_is {f b lk g c lk2 : Int} {P M P2 M2 : List Int} (h1 : RtOk f b P lk M) (h2 : RtOk g c P2 lk2 M2) : rts f b lk P M g c lk2 P2 M2 = rtc f b lk P M g c lk2 P2 M2 := by
  unfold rts rtc
  rw [show PC P P2 = pcmp P P2 from if_pos ⟨h1.2.2.1, h2.2.2.1⟩, show RC f b g c = rcmp f b g c from if_pos ⟨h1.1, h2.1⟩]
  rfl
set_option maxHeartbeats 4000000 in
theorem l4Cmp_any (f b lk : Int) (pv mv : Value) (P M : List Int) (g c lk2 : Int) (pv2 mv2 : Value) (P2 M2 : List Int) (w : World) (hp : Ints w pv P) (hm : Ints w mv M) (hp2 : Ints w pv2 P2) (hm2 : Ints w mv2 M2) :
    Calls Try.prog 46 #[.agg #[.int .i64 f, .int .i64 b, pv, .int .i64 lk, mv], .agg #[.int .i64 g, .int .i64 c, pv2, .int .i64 lk2, mv2]] w fun e w' => e = .returned (.int .i64 (rts f b lk P M g c lk2 P2 M2)) ∧ Below w.heap.size w w' := by
  obtain ⟨o1, c1, rfl, -⟩ := hp.ex
  obtain ⟨o2, c2, rfl, -⟩ := hm.ex
  obtain ⟨o3, c3, rfl, -⟩ := hp2.ex
  obtain ⟨o4, c4, rfl, -⟩ := hm2.ex
  have hF := ((Fb.start w).alloc [.int .i64 f, .int .i64 b, .slice o1 P.length c1, .int .i64 lk, .slice o2 M.length c2] 64).alloc [.int .i64 g, .int .i64 c, .slice o3 P2.length c3, .int .i64 lk2, .slice o4 M2.length c4] 64
  have hb0 := hF.kp
  simp only [World.size_alloc] at hF
  replace hp := Rows.below hp hb0
  replace hm := Rows.below hm hb0
  replace hp2 := Rows.below hp2 hb0
  replace hm2 := Rows.below hm2 hb0
  clear hb0
  have o := hF.own; simp only [World.size_alloc, World.size_drew, World.size_setCell, List.mem_cons, List.not_mem_nil, or_false, forall_eq_or_imp, forall_eq, At, and_true, Nat.zero_add, Nat.reduceAdd, List.set_cons_zero, List.set_cons_succ] at o
  go_enter Try.func46, Try.ntmps46
  by_cases hlk : lk = lk2
  · subst hlk
    have hr : Hid (rts f b lk P M g c lk P2 M2 = orz (pcmp P P2) (orz (rcmp f b g c) (pcmp M M2))) := by
      show _ = _; unfold rts; rw [show icmp lk lk = 0 by simp [icmp]]; rfl
    obtain ⟨z1, hz1⟩ : ∃ z, pcmp P P2 = z := ⟨_, rfl⟩
    obtain ⟨z2, hz2⟩ : ∃ z, rcmp f b g c = z := ⟨_, rfl⟩
    rw [hz1, hz2] at hr
    have hnn : (lk != lk) = false := by simp
    by_cases e1 : z1 = 0
    · subst e1
      by_cases e2 : z2 = 0
      · subst e2
        have hr2 : Hid (rts f b lk P M g c lk P2 M2 = pcmp M M2) := hr.out
        have tok1 : True := trivial
        go_wp2_with (first | (go_at_call 56; clear tok1; go_must (refine (l3Cmp_any _ _ P P2 _ hp hp2).mono ?_); rintro e wx ⟨rfl, hbx⟩; replace hF := hF.below hbx; replace hm := Rows.below hm hbx; replace hm2 := Rows.below hm2 hbx; clear hbx o; have o := hF.own; simp only [World.size_alloc, World.size_drew, World.size_setCell, List.mem_cons, List.not_mem_nil, or_false, forall_eq_or_imp, forall_eq, At, and_true, Nat.zero_add, Nat.reduceAdd, List.set_cons_zero, List.set_cons_succ] at o) | (go_at_call 51; go_must (refine (l1Cmp_any _ _ _ _ _).mono ?_); rintro e wx ⟨rfl, hbx⟩; replace hF := hF.below hbx; replace hm := Rows.below hm hbx; replace hm2 := Rows.below hm2 hbx; clear hbx o; have o := hF.own; simp only [World.size_alloc, World.size_drew, World.size_setCell, List.mem_cons, List.not_mem_nil, or_false, forall_eq_or_imp, forall_eq, At, and_true, Nat.zero_add, Nat.reduceAdd, List.set_cons_zero, List.set_cons_succ] at o) | (go_at_call 56; go_must (refine (l3Cmp_any _ _ M M2 _ hm hm2).mono ?_); rintro e wx ⟨rfl, hbx⟩; replace hF := hF.below hbx; clear hbx))
        go_ret
        exact ⟨by rw [hr2.out]; rfl, hF.kp⟩
      · have hr2 : Hid (rts f b lk P M g c lk P2 M2 = z2) := hr.out.trans (by simp [orz, e2])
        have d2 : (z2 != 0) = true := by simp [e2]
        go_wp2_with (first | (go_at_call 56; go_must (refine (l3Cmp_any _ _ P P2 _ hp hp2).mono ?_); rintro e wx ⟨rfl, hbx⟩; replace hF := hF.below hbx; clear hbx o; have o := hF.own; simp only [World.size_alloc, World.size_drew, World.size_setCell, List.mem_cons, List.not_mem_nil, or_false, forall_eq_or_imp, forall_eq, At, and_true, Nat.zero_add, Nat.reduceAdd, List.set_cons_zero, List.set_cons_succ] at o) | (go_at_call 51; go_must (refine (l1Cmp_any _ _ _ _ _).mono ?_); rintro e wx ⟨rfl, hbx⟩; replace hF := hF.below hbx; clear hbx o; have o := hF.own; simp only [World.size_alloc, World.size_drew, World.size_setCell, List.mem_cons, List.not_mem_nil, or_false, forall_eq_or_imp, forall_eq, At, and_true, Nat.zero_add, Nat.reduceAdd, List.set_cons_zero, List.set_cons_succ] at o))
        go_ret
        exact ⟨by rw [hr2.out]; rfl, hF.kp⟩
    · have hr2 : Hid (rts f b lk P M g c lk P2 M2 = z1) := hr.out.trans (by simp [orz, e1])
      have d2 : (z1 != 0) = true := by simp [e1]
      go_wp2_with (first | (go_at_call 56; go_must (refine (l3Cmp_any _ _ P P2 _ hp hp2).mono ?_); rintro e wx ⟨rfl, hbx⟩; replace hF := hF.below hbx; clear hbx o; have o := hF.own; simp only [World.size_alloc, World.size_drew, World.size_setCell, List.mem_cons, List.not_mem_nil, or_false, forall_eq_or_imp, forall_eq, At, and_true, Nat.zero_add, Nat.reduceAdd, List.set_cons_zero, List.set_cons_succ] at o))
      go_ret
      exact ⟨by rw [hr2.out]; rfl, hF.kp⟩
  · have hnn : (lk != lk2) = true := by simp [hlk]
    by_cases hlt : lk2 < lk
    · have hr : Hid (rts f b lk P M g c lk2 P2 M2 = -1) := by
        show _ = _; unfold rts; rw [show icmp lk2 lk = -1 by unfold icmp; rw [if_pos hlt]]; rfl
      clear hlk
      go_wp2
      go_ret
      exact ⟨by rw [hr.out]; rfl, hF.kp⟩
    · have hr : Hid (rts f b lk P M g c lk2 P2 M2 = 1) := by
        show _ = _; unfold rts; rw [show icmp lk2 lk = 1 by unfold icmp; rw [if_neg hlt, if_pos (by omega)]]; rfl
      clear hlk
      go_wp2
      go_ret
      exact ⟨by rw [hr.out]; rfl, hF.kp⟩
end Go.Proofs.Ytjkfnjjkjhggfaa
set_option linter.unusedSimpArgs false
set_option linter.unusedVariables false
namespace Go.Proofs.Ytjkfnjjkjhggfaa
open Go.RowKit

theorem Own.ints {E : TypeId} {w : World} {B : Nat} {v : Value} {L : List Int} (h : Own E w B v 1 encI L) : Ints w v L := h.rows (fun _ => rfl)
theorem Own.two {α : Type} {E : TypeId} {w : World} {B : Nat} {v : Value} {sz : Nat} {enc : α → List Value} {L : List α} (h : Own E w B v sz enc L) : (v = .slice none 0 0 ∧ L = []) ∨ ∃ g c n, v = .slice (some ⟨g, 0, none⟩) n c ∧ n ≤ c ∧ Hid (L.length = n) := by
  obtain ⟨_, ⟨rfl, h2⟩ | ⟨g, cap, cur, rfl, _, _, hnc, _⟩⟩ := h
  · exact Or.inl ⟨rfl, List.length_eq_zero_iff.1 h2⟩
  · exact Or.inr ⟨g, cap, _, rfl, hnc, rfl⟩
/-- A row of numbers, nil or somewhere. -/
def It (w : World) (v : Value) (L : List Int) : Prop := Ints w v L ∧ (v = .slice none 0 0 ∨ ∃ b off n c, v = .slice (some ⟨b, off, none⟩) n c)
theorem It.below {w w' : World} {v : Value} {L : List Int} (h : It w v L) (hb : Below w.heap.size w w') : It w' v L := ⟨Rows.below h.1 hb, h.2⟩
theorem Own.it {E : TypeId} {w : World} {B : Nat} {v : Value} {L : List Int} (h : Own E w B v 1 encI L) : It w v L := by
  refine ⟨h.ints, ?_⟩
  rcases h.two with ⟨h, _⟩ | ⟨g, c, n, h, _, _⟩
  · exact Or.inl h
  · exact Or.inr ⟨g, 0, n, c, h⟩
set_option maxHeartbeats 2000000 in
theorem l91Path_any (r k : Nat) (w : World) (hR : Rd w r k) (hk : k ≤ 700000) :
    Calls Try.prog 58 #[.pointer (some ⟨r, 0, none⟩)] w fun e w' => ∃ (v : Value) (L : List Int), e = .returned v ∧ Own 3 w' w.heap.size v 1 encI L ∧ L.length ≤ 4 ∧ (∀ x ∈ L, Bts x 1 5) ∧ (∃ k', k' ≤ k + 20 ∧ Rd w' r k') ∧ Kp r w w' := by
  have hr := hR.lt
  have hF := (Fr.start r w).other (.cells #[] 3)
  have hO : Own 3 (w.alloc (.cells #[] 3)) w.heap.size (.slice (some ⟨w.heap.size, 0, none⟩) 0 0) 1 encI [] := Own.made _ _ _ _ _ (Nat.le_refl _)
  replace hR := hR.alloc (.cells #[] 3)
  go_enter Try.func58, Try.ntmps58
  go_wp2_with ((go_at_call 41; go_must (refine (pick_any r _ _ _ hR (by omega) (by omega) (by omega)).mono ?_); rintro e wx ⟨vx, rfl, ux, lx, hRx, hKx⟩; replace hF := hF.call hKx; replace hR := hRx; (try replace hO := Own.kp hO hKx hr); have hsx := hKx.size; clear hRx hKx))
  obtain ⟨m0, rfl⟩ := Int.eq_ofNat_of_zero_le ux
  have hs0 : w.heap.size ≤ wx.heap.size := by simp only [World.size_alloc] at hsx; omega
  clear hsx
  go_loopw [3, 4, 5] (fun s3 s4 s5 wr => ∃ (m k' : Nat) (L : List Int), s4 = .int .i64 m ∧ L.length + m ≤ 4 ∧ k' + 3 * m ≤ k + 15 ∧ Hid (∀ x ∈ L, Bts x 1 5) ∧ Own 3 wr w.heap.size s3 1 encI L ∧ Rd wr r k' ∧ Fr r w wr [] ∧ w.heap.size ≤ wr.heap.size) (fun _ s4 _ _ => (intOf s4).toNat)
  case atStart => exact ⟨m0, k + 1, [], rfl, by simp; omega, by omega, by show ∀ x ∈ _, _; simp, hO, hR, hF, hs0⟩
  case round =>
    clear hF hR hO hs0
    obtain ⟨m, k', L, rfl, hL, hk', hH, hO, hR, hF, hsz⟩ := hrel
    by_cases hm : 0 < m
    · have hm' : 0 < (m : Int) := by omega
      obtain ⟨m', hm1, hm2⟩ : ∃ m', m' + 1 ≤ m ∧ m ≤ m' + 1 := ⟨m - 1, by omega, by omega⟩
      have hsub : (m : Int) - 1 = (m' : Int) := by omega
      go_wp2_with ((go_at_call 41; go_must (refine (pick_any r _ _ _ hR (by omega) (by omega) (by omega)).mono ?_); rintro e wx ⟨vx, rfl, ux, lx, hRx, hKx⟩; replace hF := hF.call hKx; replace hR := hRx; (try replace hO := Own.kp hO hKx hr); have hsx := hKx.size; clear hRx hKx))
      obtain ⟨h, hh⟩ : ∃ h : Int, 1 + vx = h := ⟨_, rfl⟩
      rw [hh]
      have hB : Bts h 1 5 := by unfold Bts; omega
      have hH2 : Hid (∀ x ∈ L ++ [h], Bts x 1 5) := by
        show ∀ x ∈ _, _
        intro x hx
        rcases List.mem_append.1 hx with g | g
        · exact hH.out x g
        · rw [List.mem_singleton.1 g]; exact hB
      clear ux lx
      by_cases hin : h ∈ L
      · have d : decide (h ∈ L) = true := by simp [hin]
        clear hin hh
        refine (l3Has_any _ _ _ _ hO.ints).mono ?_; rintro e wy ⟨rfl, hby⟩
        replace hR := hR.below hby hR.lt
        replace hF := hF.below hby
        replace hO := hO.below hby
        have hsy := hby.size
        clear hby
        go_wp2_with fail
        refine (pick_any r _ _ _ hR (by omega) (by omega) (by omega)).mono ?_; rintro e wx ⟨vx, rfl, ux, lx, hRx, hKx⟩
        replace hF := hF.call hKx
        replace hR := hRx
        replace hO := Own.kp hO hKx hr
        have hsx2 := hKx.size
        clear hRx hKx
        by_cases hz : vx = 0
        · subst hz
          go_wp2_with ((at_builtin; refine wpList_app rfl _ _ 40 rfl 3 (.int .i64 0) 1 8 Try.underlying40 infoInt rfl (by decide) (by decide) w.heap.size encI _ _ rfl (hO.alloc _) (h) ⟨_, 0, none⟩ 1 rfl rfl (cells_new _ _ _) (by simp [encI, Value.oneCell']) (by omega) (by simp only [World.size_alloc]; omega) ?_; intro v' wx hO1 hg1 hb1 hf1; (have hsz9 := hb1.size; simp only [World.size_alloc] at hsz9; replace hO := hO1; replace hR := (hR.alloc _).below hb1 hr; replace hF := (hF.other _).belowB hb1 (Nat.le_refl _) (by simp); clear hO1 hg1 hb1 hf1)))
          go_roundw
          case rel => exact ⟨m', k' + 1 + 1, L ++ [h], by go_num, by simp; omega, by omega, hH2, hO, hR, hF, by omega⟩
          case measure => simp [intOf]; omega
        · have dz : (vx == 0) = false := by simp [hz]
          clear hz
          go_wp2_with fail
          go_roundw
          case rel => exact ⟨m', k' + 1 + 1, L, by go_num, by omega, by omega, hH, hO, hR, hF, by omega⟩
          case measure => simp [intOf]; omega
      · have d : decide (h ∈ L) = false := by simp [hin]
        clear hin hh
        refine (l3Has_any _ _ _ _ hO.ints).mono ?_; rintro e wy ⟨rfl, hby⟩
        replace hR := hR.below hby hR.lt
        replace hF := hF.below hby
        replace hO := hO.below hby
        have hsy := hby.size
        clear hby
        go_wp2_with ((at_builtin; refine wpList_app rfl _ _ 40 rfl 3 (.int .i64 0) 1 8 Try.underlying40 infoInt rfl (by decide) (by decide) w.heap.size encI _ _ rfl (hO.alloc _) (h) ⟨_, 0, none⟩ 1 rfl rfl (cells_new _ _ _) (by simp [encI, Value.oneCell']) (by omega) (by simp only [World.size_alloc]; omega) ?_; intro v' wx hO1 hg1 hb1 hf1; (have hsz9 := hb1.size; simp only [World.size_alloc] at hsz9; replace hO := hO1; replace hR := (hR.alloc _).below hb1 hr; replace hF := (hF.other _).belowB hb1 (Nat.le_refl _) (by simp); clear hO1 hg1 hb1 hf1)))
        go_roundw
        case rel => exact ⟨m', k' + 1, L ++ [h], by go_num, by simp; omega, by omega, hH2, hO, hR, hF, by omega⟩
        case measure => simp [intOf]; omega
    · obtain rfl : m = 0 := by omega
      go_wp2_with fail
      go_ret
      exact ⟨_, L, rfl, hO, by omega, hH.out, ⟨k', by omega, hR⟩, hF.kp⟩
end Go.Proofs.Ytjkfnjjkjhggfaa
set_option linter.unusedSimpArgs false
set_option linter.unusedVariables false
namespace Go.Proofs.Ytjkfnjjkjhggfaa
open Go Go.RowKit

theorem step_app {α : Type} {P : Program} {ops : Array Oper} {o : Oper} {a : Act} {w : World} {K : Act → World → Prop} {Q : Exit → Act → World → Prop} {F : Prop} (hgd : o.guard = none) (s x : Operand) (t : TypeId)
    (ho : o.op = .call { callee := .builtin .append, args := #[s, x], argTypes := #[t, t] })
    (E : TypeId) (z : Value) (sz bytes : Nat) (ht : P.underlying t = some (.slice E)) (hI : (P.info? E).map (fun i => (i.zero, i.size, i.bytes)) = some (some z, sz, bytes)) (hzs : z.cells.size = sz) (hsz : 0 < sz) (hby : bytes ≤ 1000)
    (B : Nat) (enc : α → List Value) (v : Value) (L : List α) (hs : a.eval s = v) (hown : Own E w B v sz enc L) (y : α)
    (ad : Addr) (c : Nat) (hx : a.eval x = .slice (some ad) 1 c) (hl : (enc y).length = sz) (hnews : ∀ j u, (enc y)[j]? = some u → w.cell? (ad.add j) = some u) (h1 : ∀ u ∈ enc y, u.oneCell' = true)
    (hlen : L.length ≤ 1000000) (hB : B ≤ w.heap.size)
    (h : ∀ v' w', Own E w' B v' sz enc (L ++ [y]) → w.grownBy w' v.ownBlock → Below B w w' → Frsh w v v' → K (a.put o.dst v') w') : if Region.wanted o (yielded ops a.tmps) = true then Oper.wp P o a w K Q else F := by
  have hw : Region.wanted o (yielded ops a.tmps) = true := by simp [Region.wanted, hgd]
  rw [if_pos hw]
  obtain ⟨i, hi, hz, hsize, hbytes⟩ := info_parts hI
  have hm : L.length + 1 ≤ maxLen := by unfold maxLen; omega
  have hb : (L.length + 1) * bytes ≤ 140737488355328 := Nat.le_trans (Nat.mul_le_mul (show L.length + 1 ≤ 1000001 by omega) hby) (by omega)
  obtain ⟨v', w', hr, h2, h3, h4⟩ := run_append_own (P := P) w B t o.type E i z sz bytes ht hi hz hsize hbytes hzs hsz v L.length (L.flatMap enc) hown ad 1 c (enc y) (by omega) hnews h1 hm hb hB
  have hf := append_block (P := P) (w := w) B t o.type E i z sz bytes ht hi hz hsize hbytes v L.length (L.flatMap enc) hown ad 1 c (enc y) (by omega) hnews h1 hm hb (by omega) hr
  unfold Oper.wp execOp
  simp only [ho, resolve, invoke, builtin, Sem.run_bind, Sem.run_pure, Result.andThen_ok, List.map_toArray, List.map_cons, List.map_nil, hs, hx, hr]
  exact h v' w' (by unfold Own; rw [List.length_append, List.flatMap_append]; simpa using h2) h3 (own_grown hown h3 hB) hf
end Go.Proofs.Ytjkfnjjkjhggfaa
