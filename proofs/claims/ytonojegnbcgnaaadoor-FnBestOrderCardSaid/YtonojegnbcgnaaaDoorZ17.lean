/- FnBestMore: the walk. Ranges and entries compared; a slice compared with nil. Are two routes the same; FnRouteCmp: the walk. -/
import Derived.Test.YtonojegnbcgnaaaDoorZ16
import Derived.Test.YtonojegnbcgnaaaDoorZ11
import Derived.Test.YtonojegnbcgnaaaDoorZ3
import Derived.Laws.StructEq
import Derived.Lib.SliceRun
import Derived.Test.YtonojegnbcgnaaaDoorZ13
set_option linter.unusedSimpArgs false
set_option linter.unusedVariables false
namespace Go.Proofs.YtonojegnbcgnaaaDoor
open Go.RowKit

theorem GLs.app {δ β : Type} {S : Sh δ β} {w : World} {v : Value} {ds es : List δ} {L K : List β} (hr : Rows w v S.sz S.enc (ds ++ es)) (h1 : ds.length = L.length) (h2 : es.length = K.length) (p1 : ∀ (k : Nat) (s : β), L[k]? = some s → ∃ d : δ, ds[k]? = some d ∧ S.rd w d s) (p2 : ∀ (k : Nat) (s : β), K[k]? = some s → ∃ d : δ, es[k]? = some d ∧ S.rd w d s) : GLs S w v (L ++ K) :=
  ⟨ds ++ es, hr, by simp [h1, h2], fun k s hk => by
    by_cases hlt : k < L.length
    · rw [List.getElem?_append_left hlt] at hk
      rw [List.getElem?_append_left (by omega)]
      exact p1 k s hk
    · rw [List.getElem?_append_right (by omega)] at hk
      rw [List.getElem?_append_right (by omega), h1]
      exact p2 _ s hk⟩
theorem cellsF {W w : World} {b : Nat} {vs : List Value} {L : List (Nat × List Value)} (h : Fb W w ((b, vs) :: L)) : ∀ j u, vs[j]? = some u → w.cell? ((⟨b, 0, none⟩ : Addr).add j) = some u := by
  have h1 := (h.own (b, vs) (by simp)).1
  have key : ∀ (vs : List Value) (o : Nat), At w b o vs → ∀ j u, vs[j]? = some u → w.cell? ⟨b, o + j, none⟩ = some u := by
    intro vs
    induction vs with
    | nil => intro o _ j u hu; simp at hu
    | cons v vs ih =>
      intro o ha j u hu
      cases j with
      | zero => simp at hu; subst hu; exact ha.1
      | succ j => rw [show o + (j + 1) = o + 1 + j by omega]; exact ih (o + 1) ha.2.2 j u (by simpa using hu)
  intro j u hu
  rw [addr_add]
  have := key vs 0 h1 j u hu
  rwa [Nat.zero_add] at this
theorem cellsR {W w : World} {b : Nat} {f c lk : Int} {u v : Value} {L : List (Nat × List Value)} (h : Fb W w ((b, [.int .i64 f, .int .i64 c, u, .int .i64 lk, v]) :: L)) : ∀ j x, (encRt ⟨f, c, lk, u, v⟩)[j]? = some x → w.cell? ((⟨b, 0, none⟩ : Addr).add j) = some x := cellsF h
theorem cells_newD (w : World) (vs : List Value) (T : TypeId) : ∀ j u, vs[j]? = some u → (w.alloc (.cells vs.toArray T)).drew.cell? ((⟨w.heap.size, 0, none⟩ : Addr).add j) = some u := cells_new w vs T
theorem frsh_some {w : World} {g n c : Nat} {v : Value} (h : Frsh w (.slice (some ⟨g, 0, none⟩) n c) v) : ∃ k, v.ownBlock = some k ∧ (k = g ∨ w.heap.size ≤ k) := by
  rcases h with e | ⟨k, e, hk⟩
  · exact ⟨g, e, Or.inl rfl⟩
  · exact ⟨k, e, Or.inr hk⟩
theorem Fb.grown {W w w' : World} {L : List (Nat × List Value)} {gi : Nat} (h : Fb W w L) (hg : w.grownBy w' (some gi)) (hW : W.heap.size ≤ gi) (hL : ∀ p ∈ L, p.1 ≠ gi) : Fb W w' L :=
  ⟨⟨hg.os.trans h.kp.os, hg.tape.trans h.kp.tape, hg.output.trans h.kp.output, Nat.le_trans h.kp.size hg.size, fun i hi => (hg.block i (Nat.lt_of_lt_of_le hi h.kp.size) (fun e => by injection e with e; omega)).trans (h.kp.block i hi)⟩, fun p hp => by
    obtain ⟨h1, h2, h3⟩ := h.own p hp
    have hne : some p.1 ≠ some gi := fun e => by injection e with e; exact hL p hp e
    exact ⟨At.move (fun o v hv => (hg.cell_far ⟨p.1, o, Option.none⟩ h3 hne).trans hv) (fun o v _ => hg.frozen_far ⟨p.1, o, Option.none⟩ h3 hne) _ _ h1, h2, Nat.lt_of_lt_of_le h3 hg.size⟩⟩
theorem Own.madeS {α : Type} (E : TypeId) (w : World) (B sz g : Nat) (enc : α → List Value) (hg : g = w.heap.size) (hB : B ≤ w.heap.size) : Own E (w.alloc (.cells #[] E)) B (.slice (some ⟨g, 0, none⟩) 0 0) sz enc [] := by
  subst hg; exact Own.made E w B sz enc hB
set_option maxRecDepth 100000 in
set_option maxHeartbeats 8000000 in
theorem FnBestMore_walk (a0 a1 : Option Addr) (n0 c0 n1 c1 : Nat) (a : Addr) (w : World) (h0 : Given w (.slice a0 n0 c0)) (h1 : Given w (.slice a1 n1 c1)) (hE : EPath w a) :
    Calls Tryd.prog 5 #[.slice a0 n0 c0, .slice a1 n1 c1] w fun e w' => e = .returned (.bool true) ∧ Below w.heap.size w w' := by
  by_cases hn0 : 1048576 < n0
  · have e0 : decide (1048576 < (n0 : Int)) = true := by simp; omega
    go_enter Tryd.func5, Tryd.ntmps5
    go_wp2
    go_ret
    exact ⟨rfl, Below.refl _ _⟩
  have e0 : decide (1048576 < (n0 : Int)) = false := by simp; omega
  by_cases hn1 : 1048576 < n1
  · have e1 : decide (1048576 < (n1 : Int)) = true := by simp; omega
    go_enter Tryd.func5, Tryd.ntmps5
    go_wp2
    go_ret
    exact ⟨rfl, Below.refl _ _⟩
  have e1 : decide (1048576 < (n1 : Int)) = false := by simp; omega
  have hF := Fb.start w
  go_enter Tryd.func5, Tryd.ntmps5
  go_wp2_with fail
  refine (drawRouteBest_any _ _ h0).mono ?_; rintro e w1 ⟨v, L, rfl, hV, hL5, hSm, hb1⟩
  clear h0
  replace hF := hF.below hb1
  replace hE := hE.below hb1
  replace h1 := h1.below hb1
  clear hb1
  go_wp2_with fail
  refine (iRouteBest_any v L a w1 hV hE (by omega)).mono ?_; rintro e w2 ⟨rfl, hb2⟩
  replace hF := hF.below hb2
  replace hE := hE.below hb2
  replace hV := hV.below hb2
  replace h1 := h1.below hb2
  clear hb2
  obtain ⟨N, hN⟩ : ∃ N, bestOf L = N := ⟨_, rfl⟩
  rw [hN]
  have hnn : (N != N) = false := by simp
  have cS := sRouteBest_any v L w2 hV
  rw [hN] at cS
  have CS := Lib.hid cS
  clear cS
  go_wp2_with fail
  refine CS.out.mono ?_; rintro e w3 ⟨rfl, hb3⟩
  replace hF := hF.below hb3
  replace hE := hE.below hb3
  replace hV := hV.below hb3
  replace h1 := h1.below hb3
  clear hb3 CS
  by_cases hneg : N < 0
  · have d1 : decide (N < 0) = true := decide_eq_true hneg
    have hee : (N == N) = true := by simp
    have cS := sRouteBest_any v L w3 hV
    rw [hN] at cS
    have CS := Lib.hid cS
    clear cS hneg hN
    go_wp2_with fail
    refine CS.out.mono ?_; rintro e w4 ⟨rfl, hb4⟩
    replace hF := hF.below hb4
    clear hb4 CS
    go_wp2
    go_ret
    exact ⟨rfl, hF.kp⟩
  ·
    have d1 : decide (N < 0) = false := decide_eq_false hneg
    have hge : 0 ≤ bestOf L := by omega
    obtain ⟨hok, hl0, hb, hlt9⟩ := best_ge hge
    obtain ⟨m, hm⟩ : ∃ m, bst L (L.length - 1) = m := ⟨_, rfl⟩
    rw [hm] at hb hlt9
    have hNm : N = (m : Int) := by rw [← hN, hb]
    subst hNm
    obtain ⟨ao, n, cap, rfl, hn, hnc, hcap⟩ := GLs.sl hV
    have hmn : m < n := by have := hn.out; omega
    have hn5 : n ≤ 5 := by have := hn.out; omega
    have HOK := Lib.hid hok
    have HG := Lib.hid hge
    have HM := Lib.hid hm
    clear hneg hge hok hl0 hb hlt9 hm hN hL5 hSm
    go_wp2_with fail
    refine (drawRouteText_any _ _ h1).mono ?_; rintro e w4 ⟨f, b, lk, pv, mv, P, M, rfl, hp, hm, hP4, hM9, hb4⟩
    clear h1
    replace hE := hE.below hb4
    replace hV := hV.below hb4
    replace hp := hp.1
    replace hm := hm.1
    obtain ⟨o1, k1, rfl, -⟩ := hp.ex
    obtain ⟨o2, k2, rfl, -⟩ := hm.ex
    replace hF := (hF.below hb4).alloc [.int .i64 f, .int .i64 b, .slice o1 P.length k1, .int .i64 lk, .slice o2 M.length k2] 27
    have hb5 := (Below.refl w4.heap.size w4).alloc (Nat.le_refl _) (.cells #[.int .i64 f, .int .i64 b, .slice o1 P.length k1, .int .i64 lk, .slice o2 M.length k2] 27)
    replace hE := hE.below hb5
    replace hV := hV.below hb5
    replace hp := Rows.below hp hb5
    replace hm := Rows.below hm hb5
    obtain ⟨n7, hn7⟩ : ∃ n, w4.heap.size = n := ⟨_, rfl⟩
    rw [hn7] at hF
    clear hb4 hb5
    have o := hF.own; simp only [World.size_alloc, World.size_drew, World.size_setCell, List.mem_cons, List.not_mem_nil, or_false, forall_eq_or_imp, forall_eq, At, and_true, Nat.zero_add, Nat.reduceAdd, List.set_cons_zero, List.set_cons_succ] at o
    go_wp2_with fail
    refine (iRouteOk_any f b lk _ _ P M a _ hp hm hE).mono ?_; rintro e w5 ⟨rfl, hb6⟩
    replace hF := hF.below hb6
    replace hE := hE.below hb6
    replace hV := hV.below hb6
    replace hp := Rows.below hp hb6
    replace hm := Rows.below hm hb6
    clear o hb6 hn7
    by_cases hq : RtOk f b P lk M
    · have dq : decide (RtOk f b P lk M) = true := by simp [hq]
      have HQ := Lib.hid hq
      clear hq
      have o := hF.own; simp only [World.size_alloc, World.size_drew, World.size_setCell, List.mem_cons, List.not_mem_nil, or_false, forall_eq_or_imp, forall_eq, At, and_true, Nat.zero_add, Nat.reduceAdd, List.set_cons_zero, List.set_cons_succ] at o
      go_upto_region 10 with (fail)
      obtain ⟨wb, hwb⟩ : ∃ wb : World, wb = w5 := ⟨_, rfl⟩
      rw [← hwb] at hV hp hm hE hF o ⊢
      clear hwb
      have HC := Lib.hid (show wb.cell? ⟨n7, 0, none⟩ = some (.int .i64 f) ∧ wb.cell? ⟨n7, 1, none⟩ = some (.int .i64 b) ∧ wb.cell? ⟨n7, 2, none⟩ = some (.slice o1 P.length k1) ∧ wb.cell? ⟨n7, 3, none⟩ = some (.int .i64 lk) ∧ wb.cell? ⟨n7, 4, none⟩ = some (.slice o2 M.length k2) by simp [o])
      obtain ⟨ds, hr, hdl, hdp⟩ := hV.ex
      have HR := Lib.hid hr
      have HDL := Lib.hid hdl
      have HDP := Lib.hid hdp
      have HOne := Lib.hid (GLs.one hdl hdp)
      have HV := Lib.hid hV
      have HP := Lib.hid hp
      have HMv := Lib.hid hm
      have HE := Lib.hid hE
      have HF := Lib.hid hF.kp
      have hQ := Fb.start wb
      have hrd : shRt.rd wb ⟨f, b, lk, .slice o1 P.length k1, .slice o2 M.length k2⟩ (f, b, lk, P, M) := ⟨⟨rfl, rfl, rfl⟩, hp, hm⟩
      have HRD := Lib.hid hrd
      have HO1 := Lib.hid (shRt.one hrd)
      have HBS := Lib.hid (best_snoc (x := (f, b, lk, P, M)) HG.out HQ.out)
      clear hr hdl hdp hV hp hm hE hF hrd o
      have tok2 : True := trivial
      have tok3 : True := trivial
      obtain ⟨q0, q1, q2, q3, q4⟩ := HC.out
      go_cut [8] (fun s8 wx => s8 = .int .i64 (bestOf (L ++ [(f, b, lk, P, M)])) ∧ Fb wb wx [])
      case first =>
        go_region_held3 (fun w' => w'.cell? ⟨n7, 0, none⟩ = some (.int .i64 f) ∧ w'.cell? ⟨n7, 1, none⟩ = some (.int .i64 b) ∧ w'.cell? ⟨n7, 2, none⟩ = some (.slice o1 P.length k1) ∧ w'.cell? ⟨n7, 3, none⟩ = some (.int .i64 lk) ∧ w'.cell? ⟨n7, 4, none⟩ = some (.slice o2 M.length k2))
          (first | (with_reducible assumption) | (refine ⟨?_, ?_, ?_, ?_, ?_⟩; exact Fb.old (w := wb) (L := []) (by repeat (first | (with_reducible assumption) | (with_reducible apply Fb.drew) | (with_reducible apply Fb.other) | (with_reducible apply Fb.setAway) | (intro q hq; cases hq) | (have := hQ.kp.size; (try simp only [World.size_alloc, World.size_drew, World.size_setCell]); (try dsimp only); omega))) HC.out.1; exact Fb.old (w := wb) (L := []) (by repeat (first | (with_reducible assumption) | (with_reducible apply Fb.drew) | (with_reducible apply Fb.other) | (with_reducible apply Fb.setAway) | (intro q hq; cases hq) | (have := hQ.kp.size; (try simp only [World.size_alloc, World.size_drew, World.size_setCell]); (try dsimp only); omega))) HC.out.2.1; exact Fb.old (w := wb) (L := []) (by repeat (first | (with_reducible assumption) | (with_reducible apply Fb.drew) | (with_reducible apply Fb.other) | (with_reducible apply Fb.setAway) | (intro q hq; cases hq) | (have := hQ.kp.size; (try simp only [World.size_alloc, World.size_drew, World.size_setCell]); (try dsimp only); omega))) HC.out.2.2.1; exact Fb.old (w := wb) (L := []) (by repeat (first | (with_reducible assumption) | (with_reducible apply Fb.drew) | (with_reducible apply Fb.other) | (with_reducible apply Fb.setAway) | (intro q hq; cases hq) | (have := hQ.kp.size; (try simp only [World.size_alloc, World.size_drew, World.size_setCell]); (try dsimp only); omega))) HC.out.2.2.2.1; exact Fb.old (w := wb) (L := []) (by repeat (first | (with_reducible assumption) | (with_reducible apply Fb.drew) | (with_reducible apply Fb.other) | (with_reducible apply Fb.setAway) | (intro q hq; cases hq) | (have := hQ.kp.size; (try simp only [World.size_alloc, World.size_drew, World.size_setCell]); (try dsimp only); omega))) HC.out.2.2.2.2))
          (first
            | (clear tok2; refine step_appsZ (by rfl) _ _ 34 (by rfl) 27 (.agg #[.int .i64 0, .int .i64 0, .slice none 0 0, .int .i64 0, .slice none 0 0]) 5 72 Tryd.underlying34 infoRt rfl (by decide) (by decide) wb.heap.size encRt (fun _ => rfl) (.slice (some ⟨_, 0, none⟩) 0 0) [] (by rfl) (by repeat (first | (with_reducible assumption) | (with_reducible apply Own.drew) | exact Own.madeS _ _ _ _ _ _ (by simp) (Below.size (Fb.kp (W := wb) (L := []) (by repeat (first | (with_reducible assumption) | (with_reducible apply Fb.drew) | (with_reducible apply Fb.other) | (with_reducible apply Fb.setAway) | (intro q hq; cases hq) | (have := hQ.kp.size; (try simp only [World.size_alloc, World.size_drew, World.size_setCell]); (try dsimp only); omega))))) | apply Own.alloc)) (.slice ao n cap) ds HOne.out (by rfl) (HR.out.below (Fb.kp (W := wb) (L := []) (by repeat (first | (with_reducible assumption) | (with_reducible apply Fb.drew) | (with_reducible apply Fb.other) | (with_reducible apply Fb.setAway) | (intro q hq; cases hq) | (have := hQ.kp.size; (try simp only [World.size_alloc, World.size_drew, World.size_setCell]); (try dsimp only); omega))))) (by have := HDL.out; have := hn.out; simp; omega) (Below.size (Fb.kp (W := wb) (L := []) (by repeat (first | (with_reducible assumption) | (with_reducible apply Fb.drew) | (with_reducible apply Fb.other) | (with_reducible apply Fb.setAway) | (intro q hq; cases hq) | (have := hQ.kp.size; (try simp only [World.size_alloc, World.size_drew, World.size_setCell]); (try dsimp only); omega))))) ?_; intro v8 w8 hO8 hg8 hb8 hf8; rw [List.nil_append] at hO8; replace hQ := Fb.belowB (W := wb) (by repeat (first | (with_reducible assumption) | (with_reducible apply Fb.drew) | (with_reducible apply Fb.other) | (with_reducible apply Fb.setAway) | (intro q hq; cases hq) | (have := hQ.kp.size; (try simp only [World.size_alloc, World.size_drew, World.size_setCell]); (try dsimp only); omega))) hb8 (Nat.le_refl _) (by simp); obtain ⟨g8, e8, h8⟩ := frsh_some hf8; have hF8 := Fb.grown (W := wb) (by repeat (first | (with_reducible exact Fb.start _) | (with_reducible assumption) | (with_reducible apply Fb.drew) | (with_reducible apply Fb.alloc_5) | (with_reducible apply Fb.other))) hg8 (by (try simp only [World.size_alloc, World.size_drew]); omega) (by intro p hp; simp only [List.mem_cons, List.not_mem_nil, or_false] at hp <;> (subst hp; (try simp only [World.size_alloc, World.size_drew]); (try dsimp only); omega)); have s8 := hb8.size; (try simp only [World.size_alloc, World.size_drew] at s8); (try simp only [World.size_alloc, World.size_drew] at hF8); clear hg8 hb8 hf8)
            | (clear tok3; refine step_app1 (by rfl) _ _ 34 (by rfl) 27 (.agg #[.int .i64 0, .int .i64 0, .slice none 0 0, .int .i64 0, .slice none 0 0]) 5 72 Tryd.underlying34 infoRt rfl (by decide) (by decide) wb.heap.size encRt v8 ds (by rfl) (by repeat (first | (with_reducible assumption) | (with_reducible apply Own.drew) | (with_reducible apply Own.alloc))) (⟨f, b, lk, .slice o1 P.length k1, .slice o2 M.length k2⟩ : RtD) ⟨_, 0, none⟩ 1 (by rfl) rfl (by first | exact cells_newD _ _ _ | exact cells_new _ _ _ | exact cellsR (by repeat (first | (with_reducible exact Fb.start _) | (with_reducible assumption) | (with_reducible apply Fb.drew) | (with_reducible apply Fb.alloc_5) | (with_reducible apply Fb.other)))) HO1.out (by have := HDL.out; have := hn.out; omega) (Below.size (Fb.kp (W := wb) (L := []) (by repeat (first | (with_reducible assumption) | (with_reducible apply Fb.drew) | (with_reducible apply Fb.other) | (with_reducible apply Fb.setAway) | (intro q hq; cases hq) | (have := hQ.kp.size; (try simp only [World.size_alloc, World.size_drew, World.size_setCell]); (try dsimp only); omega))))) ?_; intro v9 w9 hO9 hg9 hb9 hf9; replace hQ := Fb.belowB (W := wb) (L := []) (by repeat (first | (with_reducible assumption) | (with_reducible apply Fb.drew) | (with_reducible apply Fb.other) | (with_reducible apply Fb.setAway) | (intro q hq; cases hq) | (have := hQ.kp.size; (try simp only [World.size_alloc, World.size_drew, World.size_setCell]); (try dsimp only); omega))) hb9 (Nat.le_refl _) (by simp); clear hF8; have hR9 : Rts w9 v9 (L ++ [(f, b, lk, P, M)]) := GLs.app (hO9.rows (fun _ => rfl)) HDL.out rfl (fun k s hk => by obtain ⟨d, e, i⟩ := HDP.out k s hk; exact ⟨d, e, Sh.below i hQ.kp⟩) (fun k s hk => by cases k with | zero => simp at hk; subst hk; exact ⟨_, rfl, Sh.below HRD.out hQ.kp⟩ | succ k => simp at hk); have HR9 := Lib.hid hR9; clear hO9 hg9 hb9 hf9 hR9)
            | (go_at_call 16; go_must (refine (iRouteBest_any v9 (L ++ [(f, b, lk, P, M)]) a _ (by first | exact HR9.out | exact HR9.out.below (Below.refl _ _).drew) (HE.out.below (Fb.kp (W := wb) (L := []) (by repeat (first | (with_reducible assumption) | (with_reducible apply Fb.drew) | (with_reducible apply Fb.other) | (with_reducible apply Fb.setAway) | (intro q hq; cases hq) | (have := hQ.kp.size; (try simp only [World.size_alloc, World.size_drew, World.size_setCell]); (try dsimp only); omega))))) (by have := hn.out; simp; omega)).mono ?_); rintro e wy ⟨rfl, hby⟩; replace hQ := Fb.below (W := wb) (L := []) (by repeat (first | (with_reducible assumption) | (with_reducible apply Fb.drew) | (with_reducible apply Fb.other) | (with_reducible apply Fb.setAway) | (intro q hq; cases hq) | (have := hQ.kp.size; (try simp only [World.size_alloc, World.size_drew, World.size_setCell]); (try dsimp only); omega))) hby; clear hby))
        all_goals
          go_wp2_with fail
          go_meet
          case rel => exact ⟨rfl, hQ⟩
      case rest =>
        obtain ⟨rfl, hFb⟩ := hcut
        clear q0 q1 q2 q3 q4 hQ tok2 tok3
        obtain ⟨we, hwe⟩ : ∃ we : World, we = wc := ⟨_, rfl⟩
        rw [← hwe] at hFb ⊢
        clear hwe
        obtain ⟨b1, p1, rfl⟩ := GLs.adr HV.out (by omega)
        obtain ⟨t, ht⟩ := get_of hn.out hmn
        have ht1 := HOK.out t (List.mem_of_getElem? ht)
        have HB2 := HBS.out
        rw [HM.out, rat_of ht, hn.out] at HB2
        obtain ⟨g, c, l2, P2, M2⟩ := t
        obtain ⟨a3, m3, c3, a4, m4, c4, g0, g1, g2, g3, g4, i3, i4⟩ := Rts.at HV.out ht
        obtain ⟨y, hy⟩ : ∃ y, RT f b lk P M g c l2 P2 M2 = y := ⟨_, rfl⟩
        have hyS : rtS (f, b, lk, P, M) (g, c, l2, P2, M2) = y := (RT_ok HQ.out ht1).symm.trans hy
        rw [hyS] at HB2
        have hC := Lib.hid (fun z : Cl we.heap.size we => (show Calls Tryd.prog 18 #[.agg #[.int .i64 f, .int .i64 b, .slice o1 P.length k1, .int .i64 lk, .slice o2 M.length k2], .agg #[.int .i64 g, .int .i64 c, .slice a3 m3 c3, .int .i64 l2, .slice a4 m4 c4]] z.W fun e w' => e = .returned (.int .i64 y) ∧ Below z.W.heap.size z.W w' from by have := iRouteCmp_any f b lk _ _ P M g c l2 _ _ P2 M2 a z.W (Rows.below HP.out (hFb.cl z).kp) (Rows.below HMv.out (hFb.cl z).kp) (Rows.below i3 (hFb.cl z).kp) (Rows.below i4 (hFb.cl z).kp) (HE.out.below (hFb.cl z).kp); rwa [hy] at this))
        have x0 := fun z : Cl we.heap.size we => Cl.old hFb z HC.out.1
        have x1 := fun z : Cl we.heap.size we => Cl.old hFb z HC.out.2.1
        have x2 := fun z : Cl we.heap.size we => Cl.old hFb z HC.out.2.2.1
        have x3 := fun z : Cl we.heap.size we => Cl.old hFb z HC.out.2.2.2.1
        have x4 := fun z : Cl we.heap.size we => Cl.old hFb z HC.out.2.2.2.2
        have y0 := fun z : Cl we.heap.size we => Cl.old hFb z g0
        have y1 := fun z : Cl we.heap.size we => Cl.old hFb z g1
        have y2 := fun z : Cl we.heap.size we => Cl.old hFb z g2
        have y3 := fun z : Cl we.heap.size we => Cl.old hFb z g3
        have y4 := fun z : Cl we.heap.size we => Cl.old hFb z g4
        clear g0 g1 g2 g3 g4 i3 i4 hy hyS ht ht1
        by_cases hlz : y < 0
        · have dy : decide (y < 0) = true := decide_eq_true hlz
          rw [if_pos hlz] at HB2
          rw [HB2]
          have dnn : ((n : Int) == (n : Int)) = true := by simp
          clear hlz HB2
          go_wp2
          first | refine wp_region_new (by kernel_rfl) (by kernel_rfl) ?_ | refine wp_region_lex ?_
          repeat (any_goals (first | go_big_quiet_step (((go_at_call 18; exact Calls.cl (hC.out _)))) | (refine wpQuiet_step (fun K hK => ?_); go_simp; split <;> (rename_i hg; refine hK _ ?_; clear hK K; simp only [hg, decide_true, decide_false]))))
          all_goals (refine wpQuiet_nil ?_; intro x)
          go_wp2
          go_ret
          exact ⟨rfl, HF.out.trans ((hFb.cl x).kp.mono HF.out.size)⟩
        · have dy : decide (y < 0) = false := decide_eq_false hlz
          rw [if_neg hlz] at HB2
          rw [HB2]
          have dmm : ((m : Int) == (m : Int)) = true := by simp
          clear hlz HB2
          go_wp2
          first | refine wp_region_new (by kernel_rfl) (by kernel_rfl) ?_ | refine wp_region_lex ?_
          repeat (any_goals (first | go_big_quiet_step (((go_at_call 18; exact Calls.cl (hC.out _)))) | (refine wpQuiet_step (fun K hK => ?_); go_simp; split <;> (rename_i hg; refine hK _ ?_; clear hK K; simp only [hg, decide_true, decide_false]))))
          all_goals (refine wpQuiet_nil ?_; intro x)
          go_wp2
          go_ret
          exact ⟨rfl, HF.out.trans ((hFb.cl x).kp.mono HF.out.size)⟩
    · have dq : decide (RtOk f b P lk M) = false := by simp [hq]
      clear hq
      go_wp2
      go_ret
      exact ⟨rfl, hF.kp⟩
end Go.Proofs.YtonojegnbcgnaaaDoor
set_option linter.unusedSimpArgs false
set_option linter.unusedVariables false
namespace Go.Proofs.YtonojegnbcgnaaaDoor
open Go.RowKit

theorem rng_fields : (Tryd.prog.fieldsOf 24).toList = [⟨ "First", 3, 0, false, "", "", 0⟩, ⟨ "Bits", 3, 1, false, "", "", 8⟩] := by kernel_rfl
theorem rng_eq (f b g c : Int) (d : Nat) (w : World) : (Op.equalIn (d + 2) 24 (.agg #[.int .i64 f, .int .i64 b]) (.agg #[.int .i64 g, .int .i64 c])).run Tryd.prog w = .ok (f == g && b == c) w := by
  rw [run_equalIn_agg w (d + 1) 24 _ _ (by kernel_rfl) (by kernel_rfl), rng_fields]
  cases h1 : (f == g) <;> cases h2 : (b == c) <;> simp [Op.eqFields, go_sem, h1, h2]
theorem rng_neq (f b g c : Int) (w : World) : (binOp .neq 24 (.agg #[.int .i64 f, .int .i64 b]) (.agg #[.int .i64 g, .int .i64 c])).run Tryd.prog w = .ok (.bool (!(f == g && b == c))) w := by
  rw [run_neq_struct, rng_eq f b g c 9998]; rfl
theorem rng_eql (f b g c : Int) (w : World) : (binOp .eql 24 (.agg #[.int .i64 f, .int .i64 b]) (.agg #[.int .i64 g, .int .i64 c])).run Tryd.prog w = .ok (.bool (f == g && b == c)) w := by
  rw [run_eql_struct, rng_eq f b g c 9998]; rfl
end Go.Proofs.YtonojegnbcgnaaaDoor
set_option linter.unusedSimpArgs false
set_option linter.unusedVariables false
namespace Go.Proofs.YtonojegnbcgnaaaDoor
open Go.RowKit

set_option maxHeartbeats 4000000 in
theorem lyRoute_any (f b lk : Int) (pv mv : Value) (P M : List Int) (g c lk2 : Int) (pv2 mv2 : Value) (P2 M2 : List Int) (w : World) (hp : Ints w pv P) (hm : Ints w mv M) (hp2 : Ints w pv2 P2) (hm2 : Ints w mv2 M2) :
    Calls Tryd.prog 14 #[.agg #[.int .i64 f, .int .i64 b, pv, .int .i64 lk, mv], .agg #[.int .i64 g, .int .i64 c, pv2, .int .i64 lk2, mv2]] w fun e w' => e = .returned (.bool (decide (SameR f b lk P M g c lk2 P2 M2))) ∧ Below w.heap.size w w' := by
  obtain ⟨o1, c1, rfl, -⟩ := hp.ex
  obtain ⟨o2, c2, rfl, -⟩ := hm.ex
  obtain ⟨o3, c3, rfl, -⟩ := hp2.ex
  obtain ⟨o4, c4, rfl, -⟩ := hm2.ex
  have hF := ((Fb.start w).alloc [.int .i64 f, .int .i64 b, .slice o1 P.length c1, .int .i64 lk, .slice o2 M.length c2] 27).alloc [.int .i64 g, .int .i64 c, .slice o3 P2.length c3, .int .i64 lk2, .slice o4 M2.length c4] 27
  have hb0 := hF.kp
  simp only [World.size_alloc] at hF
  replace hp := Rows.below hp hb0
  replace hm := Rows.below hm hb0
  replace hp2 := Rows.below hp2 hb0
  replace hm2 := Rows.below hm2 hb0
  clear hb0
  have o := hF.own; simp only [World.size_alloc, World.size_drew, World.size_setCell, List.mem_cons, List.not_mem_nil, or_false, forall_eq_or_imp, forall_eq, At, and_true, Nat.zero_add, Nat.reduceAdd, List.set_cons_zero, List.set_cons_succ] at o
  have tok1 : True := trivial
  by_cases e1 : f = g ∧ b = c
  · have heql : ∀ w, (binOp .eql 24 (.agg #[.int .i64 f, .int .i64 b]) (.agg #[.int .i64 g, .int .i64 c])).run Tryd.prog w = .ok (.bool true) w := fun w => by rw [rng_eql]; simp [e1]
    by_cases e2 : P = P2
    · have L1 := Lib.hid (fun (w : World) (g1 : Ints w (.slice o1 P.length c1) P) (g2 : Ints w (.slice o3 P2.length c3) P2) => (show Calls Tryd.prog 32 #[.slice o1 P.length c1, .slice o3 P2.length c3] w fun e w' => e = .returned (.bool true) ∧ Below w.heap.size w w' from by have := lyInts_any _ _ P P2 w g1 g2; rwa [(decide_eq_true e2)] at this))
      by_cases e3 : lk = lk2
      · have d3 : (lk == lk2) = true := by simp [e3]
        have hr : Hid (decide (SameR f b lk P M g c lk2 P2 M2) = decide (M = M2)) := decide_eq_decide.2 ⟨fun q => q.2.2.2, fun q => ⟨e1, e2, e3, q⟩⟩
        clear e1 e2 e3
        go_enter Tryd.func14, Tryd.ntmps14
        go_wp2_with (first | (go_at_call 32; clear tok1; go_must (refine (L1.out _ hp hp2).mono ?_); rintro e wx ⟨rfl, hbx⟩; (replace hF := hF.below hbx; (try replace hp := Rows.below hp hbx); (try replace hm := Rows.below hm hbx); (try replace hp2 := Rows.below hp2 hbx); (try replace hm2 := Rows.below hm2 hbx); clear hbx o; have o := hF.own; simp only [World.size_alloc, World.size_drew, World.size_setCell, List.mem_cons, List.not_mem_nil, or_false, forall_eq_or_imp, forall_eq, At, and_true, Nat.zero_add, Nat.reduceAdd, List.set_cons_zero, List.set_cons_succ] at o)) | (go_at_call 32; go_must (refine (lyInts_any _ _ M M2 _ hm hm2).mono ?_); rintro e wx ⟨rfl, hbx⟩; (replace hF := hF.below hbx; (try replace hp := Rows.below hp hbx); (try replace hm := Rows.below hm hbx); (try replace hp2 := Rows.below hp2 hbx); (try replace hm2 := Rows.below hm2 hbx); clear hbx o; have o := hF.own; simp only [World.size_alloc, World.size_drew, World.size_setCell, List.mem_cons, List.not_mem_nil, or_false, forall_eq_or_imp, forall_eq, At, and_true, Nat.zero_add, Nat.reduceAdd, List.set_cons_zero, List.set_cons_succ] at o)))
        go_ret
        exact ⟨by rw [hr.out]; rfl, hF.kp⟩
      · have d3 : (lk == lk2) = false := by simp [e3]
        have hr : Hid (decide (SameR f b lk P M g c lk2 P2 M2) = false) := decide_eq_false fun q => e3 q.2.2.1
        clear e1 e2 e3
        go_enter Tryd.func14, Tryd.ntmps14
        go_wp2_with ((go_at_call 32; clear tok1; go_must (refine (L1.out _ hp hp2).mono ?_); rintro e wx ⟨rfl, hbx⟩; (replace hF := hF.below hbx; (try replace hp := Rows.below hp hbx); (try replace hm := Rows.below hm hbx); (try replace hp2 := Rows.below hp2 hbx); (try replace hm2 := Rows.below hm2 hbx); clear hbx o; have o := hF.own; simp only [World.size_alloc, World.size_drew, World.size_setCell, List.mem_cons, List.not_mem_nil, or_false, forall_eq_or_imp, forall_eq, At, and_true, Nat.zero_add, Nat.reduceAdd, List.set_cons_zero, List.set_cons_succ] at o)))
        go_ret
        exact ⟨by rw [hr.out]; rfl, hF.kp⟩
    · have L1 := Lib.hid (fun (w : World) (g1 : Ints w (.slice o1 P.length c1) P) (g2 : Ints w (.slice o3 P2.length c3) P2) => (show Calls Tryd.prog 32 #[.slice o1 P.length c1, .slice o3 P2.length c3] w fun e w' => e = .returned (.bool false) ∧ Below w.heap.size w w' from by have := lyInts_any _ _ P P2 w g1 g2; rwa [(decide_eq_false e2)] at this))
      have hr : Hid (decide (SameR f b lk P M g c lk2 P2 M2) = false) := decide_eq_false fun q => e2 q.2.1
      clear e1 e2
      go_enter Tryd.func14, Tryd.ntmps14
      go_wp2_with ((go_at_call 32; clear tok1; go_must (refine (L1.out _ hp hp2).mono ?_); rintro e wx ⟨rfl, hbx⟩; (replace hF := hF.below hbx; (try replace hp := Rows.below hp hbx); (try replace hm := Rows.below hm hbx); (try replace hp2 := Rows.below hp2 hbx); (try replace hm2 := Rows.below hm2 hbx); clear hbx o; have o := hF.own; simp only [World.size_alloc, World.size_drew, World.size_setCell, List.mem_cons, List.not_mem_nil, or_false, forall_eq_or_imp, forall_eq, At, and_true, Nat.zero_add, Nat.reduceAdd, List.set_cons_zero, List.set_cons_succ] at o)))
      go_ret
      exact ⟨by rw [hr.out]; rfl, hF.kp⟩
  · have heql : ∀ w, (binOp .eql 24 (.agg #[.int .i64 f, .int .i64 b]) (.agg #[.int .i64 g, .int .i64 c])).run Tryd.prog w = .ok (.bool false) w := fun w => by
      rw [rng_eql]
      have : (f == g && b == c) = false := by rw [Bool.eq_false_iff]; intro q; simp at q; exact e1 q
      rw [this]
    have hr : Hid (decide (SameR f b lk P M g c lk2 P2 M2) = false) := decide_eq_false fun q => e1 q.1
    clear e1
    go_enter Tryd.func14, Tryd.ntmps14
    go_wp2_with fail
    go_ret
    exact ⟨by rw [hr.out]; rfl, hF.kp⟩
theorem bdI {N : Int} (h : -1 ≤ N ∧ N ≤ 1) : N = -1 ∨ N = 0 ∨ N = 1 := by omega
end Go.Proofs.YtonojegnbcgnaaaDoor
