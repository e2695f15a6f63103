/- What a house told: its end, and down (the model's own way). What a house told: down (the model's own way). What a house told: its end (the model's own way). -/
import Derived.Test.YtonojegnbcgnaaaDoorZ17
set_option linter.unusedSimpArgs false
set_option linter.unusedVariables false
namespace Go.Proofs.YtonojegnbcgnaaaDoor
open Go.RowKit

theorem flat_set {α : Type} {enc : α → List Value} {sz : Nat} (hs : ∀ x, (enc x).length = sz) {d' : α} {u : Value} : ∀ (L : List α) (i j : Nat) (d : α), L[i]? = some d → j < sz → enc d' = (enc d).set j u → (L.flatMap enc).set (i * sz + j) u = (L.set i d').flatMap enc
  | [], i, j, d, h, _, _ => by simp at h
  | x :: L, 0, j, d, h, hj, he => by
    simp at h; subst h
    rw [List.flatMap_cons, List.set_cons_zero, List.flatMap_cons, Nat.zero_mul, Nat.zero_add, List.set_append_left _ _ (by rw [hs]; exact hj), he]
  | x :: L, i + 1, j, d, h, hj, he => by
    have ih := flat_set hs L i j d (by simpa using h) hj he
    rw [List.flatMap_cons, List.set_cons_succ, List.flatMap_cons, List.set_append_right _ _ (by rw [hs, Nat.succ_mul]; omega), hs, ← ih]
    rw [show (i + 1) * sz + j - sz = i * sz + j by rw [Nat.succ_mul]; omega]
theorem own_live {α : Type} {E : TypeId} {w : World} {B g n cap sz : Nat} {enc : α → List Value} {L : List α} (h : Own E w B (.slice (some ⟨g, 0, none⟩) n cap) sz enc L) (j : Nat) : w.frozen? ⟨g, j, none⟩ = false := by
  obtain ⟨_, ⟨e, _⟩ | ⟨g', cap', cur, e, _, h3, _⟩⟩ := h
  · cases e
  · injection e with e1 e2 e3
    injection e1 with e1
    injection e1 with e1
    subst e1
    unfold World.frozen?
    simp [h3]
theorem own_seti {α : Type} {E : TypeId} {w : World} {B g n cap sz : Nat} {enc : α → List Value} {L : List α} (h : Own E w B (.slice (some ⟨g, 0, none⟩) n cap) sz enc L) (hs : ∀ x, (enc x).length = sz) {i j : Nat} {d d' : α} {u : Value} (hi : L[i]? = some d) (hj : j < sz) (he : enc d' = (enc d).set j u) : Own E (w.setCell ⟨g, i * sz + j, none⟩ u) B (.slice (some ⟨g, 0, none⟩) n cap) sz enc (L.set i d') := by
  obtain ⟨ao, c, e⟩ := Own.sl h
  injection e with e1 e2 e3
  subst e2
  have := (World.ownsRow.stored h (i * sz + j) u).1
  unfold Own
  rw [List.length_set, ← flat_set hs L i j d hi hj he]
  exact this
theorem gown_live {E : TypeId} {w : World} {B g n cap : Nat} {L : List Gt} (h : GOwn shGt E w B (.slice (some ⟨g, 0, none⟩) n cap) L) (j : Nat) : w.frozen? ⟨g, j, none⟩ = false := by
  obtain ⟨ds, h1, _⟩ := h; exact own_live h1 j
/-- The mark of one of them is written. -/
theorem gown_old {E : TypeId} {w : World} {B g n cap : Nat} {L : List Gt} (h : GOwn shGt E w B (.slice (some ⟨g, 0, none⟩) n cap) L) {i : Nat} {s : Gt} (hi : L[i]? = some s) (bo : Bool) : GOwn shGt E (w.setCell ⟨g, i * 6 + 5, none⟩ (.bool bo)) B (.slice (some ⟨g, 0, none⟩) n cap) (L.set i (s.1, bo)) := by
  obtain ⟨ds, h1, h2⟩ := h
  obtain ⟨d, e1, e2, e3⟩ := h2.2 i s hi
  have hap : ∀ x : Value, Apart x (.slice (some ⟨g, 0, none⟩) n cap) → ∀ g', x.ownBlock = some g' → (some g : Option Nat) ≠ some g' := fun x hx g' h1 e => by
    injection e with e
    subst e
    exact hx _ h1 rfl
  refine ⟨ds.set i { d with o := bo }, own_seti h1 shGt.len e1 (by decide) rfl, by simp [h2.1], fun j t hj => ?_⟩
  have hil : i < L.length := (List.getElem?_eq_some_iff.1 hi).1
  by_cases hij : i = j
  · subst hij
    rw [List.getElem?_set_self hil] at hj
    injection hj with hj
    subst hj
    refine ⟨{ d with o := bo }, by rw [List.getElem?_set_self (by rw [h2.1]; exact hil)], ?_, fun x hx => ⟨(e3 x hx).1, fun g' h1 => by simp only [World.size_setCell]; exact (e3 x hx).2 g' h1⟩⟩
    have hk := shGt.keep (grown_setC w ⟨g, i * 6 + 5, none⟩ (.bool bo)) (fun x hx => hap x (e3 x hx).1) e2
    exact ⟨⟨hk.1.1, hk.1.2.1, hk.1.2.2.1, rfl⟩, hk.2.1, hk.2.2⟩
  · rw [List.getElem?_set_ne hij] at hj
    obtain ⟨d2, a, b, c⟩ := h2.2 j t hj
    exact ⟨d2, by rw [List.getElem?_set_ne hij]; exact a, shGt.keep (grown_setC _ _ _) (fun x hx => hap x (c x hx).1) b, fun x hx => ⟨(c x hx).1, fun g' h1 => by simp only [World.size_setCell]; exact (c x hx).2 g' h1⟩⟩
theorem sm_set {L : List Gt} (h : ∀ s ∈ L, SmG s) {i : Nat} {s : Gt} (hi : L[i]? = some s) (bo : Bool) : ∀ t ∈ L.set i (s.1, bo), SmG t := fun t ht => by
  rcases List.mem_or_eq_of_mem_set ht with g | g
  · exact h t g
  · rw [g]; exact h s (List.mem_of_getElem? hi)
theorem smg_snoc {K : List Gt} {x : Gt} (h : ∀ s ∈ K, SmG s) (hx : SmG x) : ∀ s ∈ K ++ [x], SmG s := fun s hs => by
  rcases List.mem_append.1 hs with hs | hs
  · exact h s hs
  · rw [List.mem_singleton.1 hs]; exact hx
end Go.Proofs.YtonojegnbcgnaaaDoor
set_option linter.unusedSimpArgs false
set_option linter.unusedVariables false
namespace Go.Proofs.YtonojegnbcgnaaaDoor
open Go.RowKit

set_option maxRecDepth 100000 in
set_option maxHeartbeats 4000000 in
theorem RibDown_any (H : Int) (up ge : Bool) (v : Value) (L : List Gt) (w : World) (hv : Gts w v L) (hs : ∀ s ∈ L, SmG s) :
    Calls Tryd.prog 95 #[.agg #[.int .i64 H, .bool up, v], .bool ge] w fun e w' => ∃ (H2 : Int) (up2 : Bool) (u : Value) (K : List Gt), e = .returned (.agg #[.int .i64 H2, .bool up2, u]) ∧ RibR w w' H2 up2 u K := by
  obtain ⟨ao, n, cap, rfl, hn, hnc, hcap⟩ := GLs.sl hv
  have hF := ((Fb.start w).alloc [.int .i64 H, .bool up, .slice ao n cap] 44).alloc [.int .i64 0, .bool false, .slice none 0 0] 44
  replace hv := GLs.below hv hF.kp
  simp only [World.size_alloc] at hF
  obtain ⟨n1, hn1⟩ : ∃ n, w.heap.size = n := ⟨_, rfl⟩
  rw [hn1] at hF
  have hsz : n1 + 2 ≤ ((w.alloc (.cells #[.int .i64 H, .bool up, .slice ao n cap] 44)).alloc (.cells #[.int .i64 0, .bool false, .slice none 0 0] 44)).heap.size := by simp only [World.size_alloc]; omega
  have HS := Lib.hid hs
  have HN := Lib.hid hn1
  clear hs
  have o := hF.own; simp only [World.size_alloc, World.size_drew, World.size_setCell, List.mem_cons, List.not_mem_nil, or_false, forall_eq_or_imp, forall_eq, At, and_true, Nat.zero_add, Nat.reduceAdd, List.set_cons_zero, List.set_cons_succ] at o
  go_enter Tryd.func95, Tryd.ntmps95
  go_wp2_with fail
  clear hn1
  refine (sRibOk_any H up _ L _ hv).mono ?_; rintro e w2 ⟨rfl, hb2⟩
  replace hF := hF.below hb2
  replace hv := GLs.below hv hb2
  have hs2 := hb2.size
  clear hb2 o
  have o := hF.own; simp only [World.size_alloc, World.size_drew, World.size_setCell, List.mem_cons, List.not_mem_nil, or_false, forall_eq_or_imp, forall_eq, At, and_true, Nat.zero_add, Nat.reduceAdd, List.set_cons_zero, List.set_cons_succ] at o
  by_cases hq : RbOk H up L
  · have dq : decide (RbOk H up L) = true := by simp [hq]
    have HL := Lib.hid hq.1.2
    clear hq
    go_wp2_with fail
    refine (l21Copy_any H up _ L _ hv (by have := HL.out; omega) HS.out).mono ?_; rintro e w3 ⟨u, rfl, hO, hb3⟩
    have hs3 := hb3.size
    have hlu := hO.lt
    replace hO := hO.base (B := n1 + 2) (by omega)
    obtain ⟨au, cu, rfl⟩ := hO.sl
    obtain ⟨nu, hnu⟩ : ∃ nu, Hid (L.length = nu) := ⟨_, rfl⟩
    rw [hnu.out] at hO hlu ⊢
    have HF0 := Lib.hid (hF.below hb3)
    replace hF := (hF.below hb3).alloc [.int .i64 H, .bool false, .slice au nu cu] 44
    replace hO := hO.alloc (.cells #[.int .i64 H, .bool false, .slice au nu cu] 44)
    obtain ⟨n3, hn3⟩ : ∃ n, w3.heap.size = n := ⟨_, rfl⟩
    rw [hn3] at hF hlu
    have hs4 : n3 < (w3.alloc (.cells #[.int .i64 H, .bool false, .slice au nu cu] 44)).heap.size := by simp only [World.size_alloc]; omega
    clear hb3 o hv
    have o := hF.own; simp only [World.size_alloc, World.size_drew, World.size_setCell, List.mem_cons, List.not_mem_nil, or_false, forall_eq_or_imp, forall_eq, At, and_true, Nat.zero_add, Nat.reduceAdd, List.set_cons_zero, List.set_cons_succ] at o
    go_upto_if 15 with (fail)
    go_cut [5] (fun s5 wx => ∃ (u : Value) (K : List Gt), s5 = .pointer (some ⟨n3, 0, none⟩) ∧ u.ownBlock ≠ some n3 ∧ n3 < wx.heap.size ∧ Hid (K.length ≤ 6) ∧ Hid (∀ s ∈ K, SmG s) ∧ GOwn shGt 48 wx (n1 + 2) u K ∧ Fb w wx [(n3, [.int .i64 H, .bool false, u]), (n1 + 1, [.int .i64 0, .bool false, .slice none 0 0]), (n1, [.int .i64 H, .bool up, .slice ao n cap])])
    case first =>
      cases ge with
      | true =>
        go_wp2_with fail
        go_meet
        case rel => exact ⟨_, L, rfl, fun e => by have := hlu _ e; omega, hs4, HL.out, HS.out, hO, hF⟩
      | false =>
        go_wp2_with fail
        have hF2 := (HF0.out.alloc [.int .i64 H, .bool false, .slice (some ⟨n3 + 1, 0, none⟩) 0 0] 44).other (.cells #[] 48)
        have hO2 : GOwn shGt 48 ((w3.alloc (.cells #[.int .i64 H, .bool false, .slice (some ⟨n3 + 1, 0, none⟩) 0 0] 44)).alloc (.cells #[] 48)) (n1 + 2) (.slice (some ⟨(w3.alloc (.cells #[.int .i64 H, .bool false, .slice (some ⟨n3 + 1, 0, none⟩) 0 0] 44)).heap.size, 0, none⟩) 0 0) [] := GOwn.made _ _ _ (by simp only [World.size_alloc]; omega)
        simp only [World.size_alloc, hn3] at hO2
        rw [hn3] at hF2
        go_meet
        case rel => exact ⟨_, [], rfl, (by simp [Value.ownBlock]), (by simp only [World.size_alloc]; omega), (by show _ ≤ _; simp), (fun s h => by simp at h), hO2, hF2⟩
    case rest =>
      clear hF o hO hlu hs4 hnu
      obtain ⟨u, K, rfl, hne, hs5, hK6, hKs, hO, hF⟩ := hcut
      obtain ⟨aq, cq, rfl⟩ := hO.sl
      obtain ⟨nq, hnq⟩ : ∃ nq, Hid (K.length = nq) := ⟨_, rfl⟩
      rw [hnq.out] at hO hne hF
      have hq6 : nq ≤ 6 := by have := hnq.out; have := hK6.out; omega
      have h31 : n1 + 1 < n3 := by omega
      clear hn3 hs2 hs3 hsz
      have o := hF.own; simp only [World.size_alloc, World.size_drew, World.size_setCell, List.mem_cons, List.not_mem_nil, or_false, forall_eq_or_imp, forall_eq, At, and_true, Nat.zero_add, Nat.reduceAdd, List.set_cons_zero, List.set_cons_succ] at o
      go_wp2
      go_loopw [6] (fun s6 wr => ∃ (k : Nat) (K : List Gt), k ≤ nq ∧ s6 = .int .i64 k ∧ Hid (K.length = nq) ∧ Hid (∀ s ∈ K, SmG s) ∧ GOwn shGt 48 wr (n1 + 2) (.slice aq nq cq) K ∧ n3 < wr.heap.size ∧ Fb w wr [(n3, [.int .i64 H, .bool false, .slice aq nq cq]), (n1 + 1, [.int .i64 0, .bool false, .slice none 0 0]), (n1, [.int .i64 H, .bool up, .slice ao n cap])]) (fun i _ => nq - (intOf i).toNat)
      case atStart => exact ⟨0, K, Nat.zero_le _, rfl, hnq, hKs, hO, hs5, hF⟩
      case round =>
        clear hF o hO hs5 hnq hKs hK6
        obtain ⟨k, K, hk, rfl, hKl, hKs, hO, hs5, hF⟩ := hrel
        have o := hF.own; simp only [World.size_alloc, World.size_drew, World.size_setCell, List.mem_cons, List.not_mem_nil, or_false, forall_eq_or_imp, forall_eq, At, and_true, Nat.zero_add, Nat.reduceAdd, List.set_cons_zero, List.set_cons_succ] at o
        by_cases hlt : k < nq
        · obtain ⟨s, hs⟩ := get_of hKl.out hlt
          obtain ⟨ds, hOw, hRl⟩ := id hO
          have hdl : 0 < ds.length := by have := hRl.1; have := hKl.out; omega
          rcases hOw.two with ⟨e, h0⟩ | ⟨g9, c9, m9, e, -, -⟩
          · exfalso; rw [h0] at hdl; simp at hdl
          injection e with q1 q2 q3
          subst q1; subst q2; subst q3
          have hg9 := hO.ge g9 rfl
          have hn9 : g9 ≠ n3 := fun e => hne (by rw [← e]; rfl)
          have hlv := gown_live hO (k * 6 + 5)
          obtain ⟨⟨f, b, lk, P, M⟩, old⟩ := s
          obtain ⟨a1, m1, c1, a2, m2, c2, ⟨-, -, -, -, -, e5⟩, -, -⟩ := Gts.at hO.gls hs
          simp only [Nat.zero_add] at e5
          have hO2 := gown_old hO hs true
          have hK2 := Lib.hid (sm_set hKs.out hs true)
          have hKl2 : Hid ((K.set k (((f, b, lk, P, M), true) : Gt)).length = nq) := by show _ = _; rw [List.length_set]; exact hKl.out
          have hW9 := HN.out
          have hF2 := hF.setAway ⟨g9, k * 6 + 5, none⟩ (.bool true) (by dsimp only; omega) (fun q hq => by
            simp only [List.mem_cons, List.not_mem_nil, or_false] at hq
            rcases hq with rfl | rfl | rfl
            · exact fun e => hn9 e.symm
            · dsimp only; omega
            · dsimp only; omega)
          clear hs hOw hRl hdl hO hW9
          go_wp2
          go_roundw
          case rel => exact ⟨k + 1, _, by omega, by go_num, hKl2, hK2, hO2, by simp only [World.size_setCell]; omega, hF2⟩
          case measure => simp [intOf]; omega
        · have hF2 := hF.turnB
          have hO2 := hO.go3
          clear hF o hO
          have hF := hF2
          have hO := hO2
          clear hF2 hO2
          have o := hF.own; simp only [World.size_alloc, World.size_drew, World.size_setCell, List.mem_cons, List.not_mem_nil, or_false, forall_eq_or_imp, forall_eq, At, and_true, Nat.zero_add, Nat.reduceAdd, List.set_cons_zero, List.set_cons_succ] at o
          go_wp2_with fail
          obtain ⟨wz, hwz, hG, hszz, hput⟩ := put3f hF (by simp; omega) (.int .i64 H) (.bool false) (.slice aq nq cq)
          have hOz := hput _ _ _ _ _ _ (Or.inl (by omega)) hO
          rw [← hwz]
          clear hwz o hF hput
          have hF := hG
          have o := hF.own; simp only [World.size_alloc, World.size_drew, World.size_setCell, List.mem_cons, List.not_mem_nil, or_false, forall_eq_or_imp, forall_eq, At, and_true, Nat.zero_add, Nat.reduceAdd, List.set_cons_zero, List.set_cons_succ] at o
          refine bodyPost_ret (v := .agg #[.int .i64 H, .bool false, (.slice aq nq cq)]) ?_ rfl ?_
          · simp [results, Tryd.results95, go_sem, o]
          · exact ⟨_, _, _, K, rfl, hOz.gown (Nat.le_of_eq hszz.symm) (by have := HN.out; omega), by have := hKl.out; omega, hKs.out, hG.kp⟩
  · have dq : decide (RbOk H up L) = false := by simp [hq]
    clear hq
    go_wp2_with fail
    obtain ⟨wz, hwz, hG, -, -⟩ := put3f hF (by simp) (.int .i64 0) (.bool false) (.slice none 0 0)
    rw [← hwz]
    clear hwz o hF
    have hF := hG
    have o := hF.own; simp only [World.size_alloc, World.size_drew, World.size_setCell, List.mem_cons, List.not_mem_nil, or_false, forall_eq_or_imp, forall_eq, At, and_true, Nat.zero_add, Nat.reduceAdd, List.set_cons_zero, List.set_cons_succ] at o
    refine bodyPost_ret (v := .agg #[.int .i64 0, .bool false, .slice none 0 0]) ?_ rfl ?_
    · simp [results, Tryd.results95, go_sem, o]
    · exact ⟨_, _, _, [], rfl, ribR_nil _ _ hG.kp⟩
end Go.Proofs.YtonojegnbcgnaaaDoor
set_option linter.unusedSimpArgs false
set_option linter.unusedVariables false
namespace Go.Proofs.YtonojegnbcgnaaaDoor
open Go.RowKit

set_option maxRecDepth 100000 in
set_option maxHeartbeats 4000000 in
theorem RibEnd_any (H : Int) (up : Bool) (v : Value) (L : List Gt) (w : World) (hv : Gts w v L) (hs : ∀ s ∈ L, SmG s) :
    Calls Tryd.prog 97 #[.agg #[.int .i64 H, .bool up, v]] w fun e w' => ∃ (H2 : Int) (up2 : Bool) (u : Value) (K : List Gt), e = .returned (.agg #[.int .i64 H2, .bool up2, u]) ∧ RibR w w' H2 up2 u K := by
  obtain ⟨ao, n, cap, rfl, hn, hnc, hcap⟩ := GLs.sl hv
  have HV := Lib.hid hv
  have hF := ((Fb.start w).alloc [.int .i64 H, .bool up, .slice ao n cap] 44).alloc [.int .i64 0, .bool false, .slice none 0 0] 44
  replace hv := GLs.below hv hF.kp
  simp only [World.size_alloc] at hF
  obtain ⟨n1, hn1⟩ : ∃ n, w.heap.size = n := ⟨_, rfl⟩
  rw [hn1] at hF
  have hsz : n1 + 2 ≤ ((w.alloc (.cells #[.int .i64 H, .bool up, .slice ao n cap] 44)).alloc (.cells #[.int .i64 0, .bool false, .slice none 0 0] 44)).heap.size := by simp only [World.size_alloc]; omega
  have HSm := Lib.hid hs
  have HN := Lib.hid hn1
  clear hs
  have o := hF.own; simp only [World.size_alloc, World.size_drew, World.size_setCell, List.mem_cons, List.not_mem_nil, or_false, forall_eq_or_imp, forall_eq, At, and_true, Nat.zero_add, Nat.reduceAdd, List.set_cons_zero, List.set_cons_succ] at o
  go_enter Tryd.func97, Tryd.ntmps97
  go_wp2_with fail
  clear hn1
  refine (sRibOk_any H up _ L _ hv).mono ?_; rintro e w2 ⟨rfl, hb2⟩
  have hs2 := hb2.size
  by_cases hq : RbOk H up L
  · have dq : decide (RbOk H up L) = true := by simp [hq]
    have HL := Lib.hid hq.1.2
    obtain ⟨nb, hnb⟩ : ∃ n, w2.heap.size = n := ⟨_, rfl⟩
    have hnb2 : n1 + 2 ≤ nb := by omega
    have hn6 : n ≤ 6 := by have := hn.out; have := HL.out; omega
    replace hF := hF.below hb2
    clear o
    have o := hF.own; simp only [World.size_alloc, World.size_drew, World.size_setCell, List.mem_cons, List.not_mem_nil, or_false, forall_eq_or_imp, forall_eq, At, and_true, Nat.zero_add, Nat.reduceAdd, List.set_cons_zero, List.set_cons_succ] at o
    go_wp2_with fail
    replace hF := (hF.other (.cells #[] 48)).alloc [.int .i64 H, .bool up, .slice (some ⟨nb, 0, none⟩) 0 0] 44
    have hO := (GO2.made (S := shGt) 48 w2 nb (nb + 2) (by omega)).alloc (.cells #[.int .i64 H, .bool up, .slice (some ⟨nb, 0, none⟩) 0 0] 44)
    simp only [World.size_alloc] at hF
    rw [hnb] at hF hO
    have hs0 : nb + 2 ≤ ((w2.alloc (.cells #[] 48)).alloc (.cells #[.int .i64 H, .bool up, .slice (some ⟨nb, 0, none⟩) 0 0] 44)).heap.size := by simp only [World.size_alloc]; omega
    clear hq hb2 o hv
    clear hnb hs2 hsz
    go_loopw [4] (fun s4 wr => ∃ (k : Nat) (u : Value) (K : List Gt), k ≤ n ∧ s4 = .int .i64 k ∧ K.length ≤ k ∧ Hid (∀ s ∈ K, SmG s) ∧ u.ownBlock ≠ some (nb + 1) ∧ nb + 2 ≤ wr.heap.size ∧ GO2 shGt 48 wr nb (nb + 2) u K ∧ Fb w wr [(nb + 1, [.int .i64 H, .bool up, u]), (n1 + 1, [.int .i64 0, .bool false, .slice none 0 0]), (n1, [.int .i64 H, .bool up, .slice ao n cap])]) (fun s4 _ => n - (intOf s4).toNat)
    case atStart => exact ⟨0, _, [], Nat.zero_le _, rfl, by simp, fun s h => by simp at h, (by simp [Value.ownBlock]), hs0, hO, hF⟩
    case round =>
      clear hF hO
      obtain ⟨k, u, K, hk, rfl, hKk, hKs, hne, hsz, hO, hF⟩ := hrel
      obtain ⟨au, cu, rfl⟩ := hO.sl
      obtain ⟨nk, hnk⟩ : ∃ nk, Hid (K.length = nk) := ⟨_, rfl⟩
      have hnk1 : nk ≤ 100 := by have := hnk.out; omega
      rw [hnk.out] at hO hF hne
      have o := hF.own; simp only [World.size_alloc, World.size_drew, World.size_setCell, List.mem_cons, List.not_mem_nil, or_false, forall_eq_or_imp, forall_eq, At, and_true, Nat.zero_add, Nat.reduceAdd, List.set_cons_zero, List.set_cons_succ] at o
      by_cases hlt : k < n
      · obtain ⟨b1, p1, rfl⟩ := GLs.adr HV.out (by omega)
        obtain ⟨s, hs⟩ := get_of hn.out hlt
        have HSS := Lib.hid (HSm.out s (List.mem_of_getElem? hs))
        obtain ⟨⟨f, b, lk, P, M⟩, old⟩ := s
        obtain ⟨a1, m1, c1, a2, m2, c2, ⟨e0, e1, e2, e3, e4, e5⟩, i1, i2⟩ := Gts.at HV.out hs
        have E6 := Lib.hid (⟨e0, e1, e2, e3, e4, e5⟩ : w.cell? ⟨b1, p1 + k * 6, none⟩ = _ ∧ w.cell? ⟨b1, p1 + k * 6 + 1, none⟩ = _ ∧ w.cell? ⟨b1, p1 + k * 6 + 2, none⟩ = _ ∧ w.cell? ⟨b1, p1 + k * 6 + 3, none⟩ = _ ∧ w.cell? ⟨b1, p1 + k * 6 + 4, none⟩ = _ ∧ w.cell? ⟨b1, p1 + k * 6 + 5, none⟩ = _)
        have HI := Lib.hid (And.intro i1 i2)
        have hKs2 : Hid (∀ s ∈ K ++ [(((f, b, lk, P, M), false) : Gt)], SmG s) := smg_snoc hKs.out HSS.out
        have x0 := hF.old e0
        have x1 := hF.old e1
        have x2 := hF.old e2
        have x3 := hF.old e3
        have x4 := hF.old e4
        have x5 := hF.old e5
        clear hs e0 e1 e2 e3 e4 e5 i1 i2
        cases old with
        | true =>
          go_wp2_with fail
          go_roundw
          case rel => exact ⟨k + 1, _, K, by omega, by go_num, by omega, hKs, hne, hsz, hO, hF⟩
          case measure => simp [intOf]; omega
        | false =>
          go_upto_region 8 with (fail)
          refine wp_region_held_drew (S := fun w' => w'.cell? ⟨b1, p1 + k * 6, none⟩ = some (.int .i64 f) ∧ w'.cell? ⟨b1, p1 + k * 6 + 1, none⟩ = some (.int .i64 b) ∧ w'.cell? ⟨b1, p1 + k * 6 + 2, none⟩ = some (.slice a1 m1 c1) ∧ w'.cell? ⟨b1, p1 + k * 6 + 3, none⟩ = some (.int .i64 lk) ∧ w'.cell? ⟨b1, p1 + k * 6 + 4, none⟩ = some (.slice a2 m2 c2) ∧ w'.cell? ⟨b1, p1 + k * 6 + 5, none⟩ = some (.bool false) ∧ w'.cell? ⟨n1, 2, none⟩ = some (.slice (some ⟨b1, p1, none⟩) n cap)) (by kernel_rfl) ?hs (fun hHeld => ?_)
          case hs => exact ⟨Fb.old (by repeat (first | with_reducible exact hF | with_reducible apply Fb.drew | with_reducible apply Fb.other)) E6.out.1, Fb.old (by repeat (first | with_reducible exact hF | with_reducible apply Fb.drew | with_reducible apply Fb.other)) E6.out.2.1, Fb.old (by repeat (first | with_reducible exact hF | with_reducible apply Fb.drew | with_reducible apply Fb.other)) E6.out.2.2.1, Fb.old (by repeat (first | with_reducible exact hF | with_reducible apply Fb.drew | with_reducible apply Fb.other)) E6.out.2.2.2.1, Fb.old (by repeat (first | with_reducible exact hF | with_reducible apply Fb.drew | with_reducible apply Fb.other)) E6.out.2.2.2.2.1, Fb.old (by repeat (first | with_reducible exact hF | with_reducible apply Fb.drew | with_reducible apply Fb.other)) E6.out.2.2.2.2.2, Fb.get (by repeat (first | with_reducible exact hF | with_reducible apply Fb.drew | with_reducible apply Fb.other)) (List.mem_cons_of_mem _ (List.mem_cons_of_mem _ (List.mem_cons_self ..))) rfl⟩
          refine wpAnyH_take (i := 0) (oi := _) (v := ?_) (by simp only [List.getElem?_toArray, List.getElem?_cons_succ, List.getElem?_cons_zero]; rfl) (by kernel_rfl) (by kernel_rfl) (by kernel_rfl) (by exact fun _ _ _ h => h) (Or.inl ⟨by rfl, ?hy⟩) (by assumption) ?_
          case hy => (intro w hSw; (try dsimp only at hSw); go_simp; (try with_reducible rfl))
          (try simp only [Act.put, List.setIfInBounds_toArray, List.set_cons_zero, List.set_cons_succ])
          refine wpAnyH_take (i := 2) (oi := _) (v := ?_) (by simp only [List.getElem?_toArray, List.getElem?_cons_succ, List.getElem?_cons_zero]; rfl) (by kernel_rfl) (by kernel_rfl) (by kernel_rfl) (by exact fun _ _ _ h => h) (Or.inl ⟨by rfl, ?hy⟩) (by assumption) ?_
          case hy => (intro w hSw; (try dsimp only at hSw); go_simp; (try with_reducible rfl))
          (try simp only [Act.put, List.setIfInBounds_toArray, List.set_cons_zero, List.set_cons_succ])
          refine wpAnyH_take (i := 3) (oi := _) (v := ?_) (by simp only [List.getElem?_toArray, List.getElem?_cons_succ, List.getElem?_cons_zero]; rfl) (by kernel_rfl) (by kernel_rfl) (by kernel_rfl) (by exact fun _ _ _ h => h) (Or.inl ⟨by rfl, ?hy⟩) (by assumption) ?_
          case hy => (intro w hSw; (try dsimp only at hSw); go_simp; (try with_reducible rfl))
          (try simp only [Act.put, List.setIfInBounds_toArray, List.set_cons_zero, List.set_cons_succ])
          refine wpAnyH_take (i := 4) (oi := _) (v := ?_) (by simp only [List.getElem?_toArray, List.getElem?_cons_succ, List.getElem?_cons_zero]; rfl) (by kernel_rfl) (by kernel_rfl) (by kernel_rfl) (by exact fun _ _ _ h => h) (Or.inl ⟨by rfl, ?hy⟩) (by assumption) ?_
          case hy => (intro w hSw; (try dsimp only at hSw); go_simp; (try with_reducible rfl))
          (try simp only [Act.put, List.setIfInBounds_toArray, List.set_cons_zero, List.set_cons_succ])
          refine wpAnyH_take (i := 5) (oi := _) (v := ?_) (by simp only [List.getElem?_toArray, List.getElem?_cons_succ, List.getElem?_cons_zero]; rfl) (by kernel_rfl) (by kernel_rfl) (by kernel_rfl) (by exact fun _ _ _ h => h) (Or.inl ⟨by rfl, ?hy⟩) (by assumption) ?_
          case hy => (intro w hSw; (try dsimp only at hSw); go_simp; (try with_reducible rfl))
          (try simp only [Act.put, List.setIfInBounds_toArray, List.set_cons_zero, List.set_cons_succ])
          refine wpAnyH_take (i := 6) (oi := _) (v := ?_) (by simp only [List.getElem?_toArray, List.getElem?_cons_succ, List.getElem?_cons_zero]; rfl) (by kernel_rfl) (by kernel_rfl) (by kernel_rfl) (by exact fun _ _ _ h => h) (Or.inl ⟨by rfl, ?hy⟩) (by assumption) ?_
          case hy => (intro w hSw; (try dsimp only at hSw); go_simp; (try with_reducible rfl))
          (try simp only [Act.put, List.setIfInBounds_toArray, List.set_cons_zero, List.set_cons_succ])
          refine wpAnyH_take (i := 7) (oi := _) (v := ?_) (by simp only [List.getElem?_toArray, List.getElem?_cons_succ, List.getElem?_cons_zero]; rfl) (by kernel_rfl) (by kernel_rfl) (by kernel_rfl) (by exact fun _ _ _ h => h) (Or.inl ⟨by rfl, ?hy⟩) (by assumption) ?_
          case hy => (intro w hSw; (try dsimp only at hSw); go_simp; (try with_reducible rfl))
          (try simp only [Act.put, List.setIfInBounds_toArray, List.set_cons_zero, List.set_cons_succ])
          refine wpAnyH_ready (rs := [1, 8]) (by kernel_rfl) (by simp) ?_
          refine AllReadyH.cons (o := _) (by simp only [List.getElem?_toArray, List.getElem?_cons_succ, List.getElem?_cons_zero]; rfl) (fun KK hK => ?_) (AllReadyH.cons (o := _) (by simp only [List.getElem?_toArray, List.getElem?_cons_succ, List.getElem?_cons_zero]; rfl) (fun KK hK => ?_) AllReadyH.nil)
          · go_simp
            refine hK.out _ _ ?hs (fun hHeld => ?_)
            case hs => ((try dsimp only); exact ⟨Fb.old (by repeat (first | with_reducible exact hF | with_reducible apply Fb.drew | with_reducible apply Fb.other)) E6.out.1, Fb.old (by repeat (first | with_reducible exact hF | with_reducible apply Fb.drew | with_reducible apply Fb.other)) E6.out.2.1, Fb.old (by repeat (first | with_reducible exact hF | with_reducible apply Fb.drew | with_reducible apply Fb.other)) E6.out.2.2.1, Fb.old (by repeat (first | with_reducible exact hF | with_reducible apply Fb.drew | with_reducible apply Fb.other)) E6.out.2.2.2.1, Fb.old (by repeat (first | with_reducible exact hF | with_reducible apply Fb.drew | with_reducible apply Fb.other)) E6.out.2.2.2.2.1, Fb.old (by repeat (first | with_reducible exact hF | with_reducible apply Fb.drew | with_reducible apply Fb.other)) E6.out.2.2.2.2.2, Fb.get (by repeat (first | with_reducible exact hF | with_reducible apply Fb.drew | with_reducible apply Fb.other)) (List.mem_cons_of_mem _ (List.mem_cons_of_mem _ (List.mem_cons_self ..))) rfl⟩)
            clear hK KK
            (try simp only [Act.put, List.setIfInBounds_toArray, List.set_cons_zero, List.set_cons_succ])
            refine wpAnyH_ready (rs := [8]) (by kernel_rfl) (by simp) ?_
            refine AllReadyH.cons (o := _) (by simp only [List.getElem?_toArray, List.getElem?_cons_succ, List.getElem?_cons_zero]; rfl) (fun KK hK => ?_) AllReadyH.nil
            go_simp
            (go_at_call 40; go_must (refine (l4Copy_any f b lk _ _ P M _ (It.below HI.out.1 (Fb.kp (W := w) (by repeat (first | with_reducible exact hF | with_reducible apply Fb.drew | with_reducible apply Fb.other)))) (It.below HI.out.2 (Fb.kp (W := w) (by repeat (first | with_reducible exact hF | with_reducible apply Fb.drew | with_reducible apply Fb.other)))) (by have := HSS.out.1; dsimp only at this; omega) (by have := HSS.out.2; dsimp only at this; omega)).mono ?_); rintro e wy ⟨pv9, mv9, rfl, y1, y2, hby⟩; obtain ⟨oy1, cy1, rfl, -⟩ := y1.1.1.ex; obtain ⟨oy2, cy2, rfl, -⟩ := y2.1.1.ex; have hlo := hO.lt; have hsy := hby.size; simp only [World.size_drew] at hsy y1 y2; replace hF := Fb.below (by repeat (first | with_reducible exact hF | with_reducible apply Fb.drew | with_reducible apply Fb.other)) hby; replace hO := GO2.below (by repeat (first | with_reducible exact hO | with_reducible apply GO2.drew | with_reducible apply GO2.alloc)) hby; clear hby o; have o := hF.own; simp only [World.size_alloc, World.size_drew, World.size_setCell, List.mem_cons, List.not_mem_nil, or_false, forall_eq_or_imp, forall_eq, At, and_true, Nat.zero_add, Nat.reduceAdd, List.set_cons_zero, List.set_cons_succ] at o)
            (try go_wp2_with fail)
            refine hK.out _ _ ?hs (fun hHeld => ?_)
            case hs => ((try dsimp only); exact ⟨Fb.old (by repeat (first | with_reducible exact hF | with_reducible apply Fb.drew | with_reducible apply Fb.other)) E6.out.1, Fb.old (by repeat (first | with_reducible exact hF | with_reducible apply Fb.drew | with_reducible apply Fb.other)) E6.out.2.1, Fb.old (by repeat (first | with_reducible exact hF | with_reducible apply Fb.drew | with_reducible apply Fb.other)) E6.out.2.2.1, Fb.old (by repeat (first | with_reducible exact hF | with_reducible apply Fb.drew | with_reducible apply Fb.other)) E6.out.2.2.2.1, Fb.old (by repeat (first | with_reducible exact hF | with_reducible apply Fb.drew | with_reducible apply Fb.other)) E6.out.2.2.2.2.1, Fb.old (by repeat (first | with_reducible exact hF | with_reducible apply Fb.drew | with_reducible apply Fb.other)) E6.out.2.2.2.2.2, Fb.get (by repeat (first | with_reducible exact hF | with_reducible apply Fb.drew | with_reducible apply Fb.other)) (List.mem_cons_of_mem _ (List.mem_cons_of_mem _ (List.mem_cons_self ..))) rfl⟩)
            clear hK KK
            (try simp only [Act.put, List.setIfInBounds_toArray, List.set_cons_zero, List.set_cons_succ])
            refine wpAnyH_take (i := 9) (oi := _) (v := ?_) (by simp only [List.getElem?_toArray, List.getElem?_cons_succ, List.getElem?_cons_zero]; rfl) (by kernel_rfl) (by kernel_rfl) (by kernel_rfl) (by exact fun _ _ _ h => h) (Or.inl ⟨by rfl, ?hy⟩) (by assumption) ?_
            case hy => (intro w hSw; (try dsimp only at hSw); go_simp; (try with_reducible rfl))
            (try simp only [Act.put, List.setIfInBounds_toArray, List.set_cons_zero, List.set_cons_succ])
            refine wpAnyH_ready (rs := [10]) (by kernel_rfl) (by simp) ?_
            refine AllReadyH.cons (o := _) (by simp only [List.getElem?_toArray, List.getElem?_cons_succ, List.getElem?_cons_zero]; rfl) (fun KK hK => ?_) AllReadyH.nil
            go_simp
            refine hK.out _ _ ?hs (fun hHeld => ?_)
            case hs => ((try dsimp only); exact ⟨Fb.old (by repeat (first | with_reducible exact hF | with_reducible apply Fb.drew | with_reducible apply Fb.other)) E6.out.1, Fb.old (by repeat (first | with_reducible exact hF | with_reducible apply Fb.drew | with_reducible apply Fb.other)) E6.out.2.1, Fb.old (by repeat (first | with_reducible exact hF | with_reducible apply Fb.drew | with_reducible apply Fb.other)) E6.out.2.2.1, Fb.old (by repeat (first | with_reducible exact hF | with_reducible apply Fb.drew | with_reducible apply Fb.other)) E6.out.2.2.2.1, Fb.old (by repeat (first | with_reducible exact hF | with_reducible apply Fb.drew | with_reducible apply Fb.other)) E6.out.2.2.2.2.1, Fb.old (by repeat (first | with_reducible exact hF | with_reducible apply Fb.drew | with_reducible apply Fb.other)) E6.out.2.2.2.2.2, Fb.get (by repeat (first | with_reducible exact hF | with_reducible apply Fb.drew | with_reducible apply Fb.other)) (List.mem_cons_of_mem _ (List.mem_cons_of_mem _ (List.mem_cons_self ..))) rfl⟩)
            clear hK KK
            (try simp only [Act.put, List.setIfInBounds_toArray, List.set_cons_zero, List.set_cons_succ])
            refine wpAnyH_ready (rs := [11]) (by kernel_rfl) (by simp) ?_
            refine AllReadyH.cons (o := _) (by simp only [List.getElem?_toArray, List.getElem?_cons_succ, List.getElem?_cons_zero]; rfl) (fun KK hK => ?_) AllReadyH.nil
            (obtain ⟨ds, hOw, hG⟩ := hO; have hlG := hG.1; refine step_app (by rfl) _ _ 42 (by rfl) 48 (.agg #[.int .i64 0, .int .i64 0, .slice none 0 0, .int .i64 0, .slice none 0 0, .bool false]) 6 80 Tryd.underlying42 infoGt rfl (by decide) (by decide) (nb) encGt _ ds rfl (hOw.alloc _) (⟨f, b, lk, .slice oy1 P.length cy1, .slice oy2 M.length cy2, false⟩ : GtD) ⟨_, 0, none⟩ 1 rfl rfl (cells_new _ _ _) (by simp [encGt, Value.oneCell']) (by have := hnk.out; omega) (by simp only [World.size_alloc]; omega) ?_)
            intro v9 wz hO9 hg9 hb9 hf9
            have hO2 := g2_snoc (s := ((f, b, lk, P, M), false)) hG ((Below.refl _ _).alloc (Nat.le_refl _) _) hO9 hg9 hf9 (Sh.below (S := shGt) ⟨⟨rfl, rfl, rfl, rfl⟩, y1.1, y2.1⟩ ((Below.refl _ _).alloc (Nat.le_refl _) _)) (sub2 (fun g h => ⟨by have := y1.2 g h; omega, by have := y1.2 g h; simp only [World.size_alloc]; omega, fun e => by have := y1.2 g h; have := hlo g e; omega⟩) (fun g h => ⟨by have := y2.2 g h; omega, by have := y2.2 g h; simp only [World.size_alloc]; omega, fun e => by have := y2.2 g h; have := hlo g e; omega⟩))
            have hsz9 := hb9.size
            simp only [World.size_alloc] at hsz9
            skip
            replace hF := (hF.other (.cells #[.int .i64 f, .int .i64 b, .slice oy1 P.length cy1, .int .i64 lk, .slice oy2 M.length cy2, .bool false] 48)).grownQ hg9 (fun g hg => by have := hOw.ge g hg; omega) (fun p hp e => by have := hOw.ge _ e; simp only [List.mem_cons, List.not_mem_nil, or_false] at hp; rcases hp with rfl | rfl | rfl; exact hne e; simp at this <;> omega; simp at this <;> omega)
            have hne2 := frsh_off hf9 hne (by simp only [World.size_alloc]; omega)
            obtain ⟨a9, c9, rfl⟩ := hO2.sl
            obtain ⟨n9, hn9⟩ : ∃ n9, Hid ((K ++ [((f, b, lk, P, M), false)]).length = n9) := ⟨_, rfl⟩
            rw [hn9.out] at hO2 hne2 ⊢
            clear hg9 hb9 hf9 hO9 hOw hG o hlG
            have o := hF.own; simp only [World.size_alloc, World.size_drew, World.size_setCell, List.mem_cons, List.not_mem_nil, or_false, forall_eq_or_imp, forall_eq, At, and_true, Nat.zero_add, Nat.reduceAdd, List.set_cons_zero, List.set_cons_succ] at o
            refine hK.out _ _ ?hs (fun hHeld => ?_)
            case hs => ((try dsimp only); exact ⟨Fb.old (by repeat (first | with_reducible exact hF | with_reducible apply Fb.drew | with_reducible apply Fb.other)) E6.out.1, Fb.old (by repeat (first | with_reducible exact hF | with_reducible apply Fb.drew | with_reducible apply Fb.other)) E6.out.2.1, Fb.old (by repeat (first | with_reducible exact hF | with_reducible apply Fb.drew | with_reducible apply Fb.other)) E6.out.2.2.1, Fb.old (by repeat (first | with_reducible exact hF | with_reducible apply Fb.drew | with_reducible apply Fb.other)) E6.out.2.2.2.1, Fb.old (by repeat (first | with_reducible exact hF | with_reducible apply Fb.drew | with_reducible apply Fb.other)) E6.out.2.2.2.2.1, Fb.old (by repeat (first | with_reducible exact hF | with_reducible apply Fb.drew | with_reducible apply Fb.other)) E6.out.2.2.2.2.2, Fb.get (by repeat (first | with_reducible exact hF | with_reducible apply Fb.drew | with_reducible apply Fb.other)) (List.mem_cons_of_mem _ (List.mem_cons_of_mem _ (List.mem_cons_self ..))) rfl⟩)
            clear hK KK
            (try simp only [Act.put, List.setIfInBounds_toArray, List.set_cons_zero, List.set_cons_succ])
            refine wpAnyH_take (i := 12) (oi := _) (v := ?_) (by simp only [List.getElem?_toArray, List.getElem?_cons_succ, List.getElem?_cons_zero]; rfl) (by kernel_rfl) (by kernel_rfl) (by kernel_rfl) (by exact fun _ _ _ h => h) (Or.inl ⟨by rfl, ?hy⟩) (by assumption) ?_
            case hy => (intro w hSw; (try dsimp only at hSw); go_simp; (try with_reducible rfl))
            (try simp only [Act.put, List.setIfInBounds_toArray, List.set_cons_zero, List.set_cons_succ])
            refine wpAnyH_ready (rs := [13]) (by kernel_rfl) (by simp) ?_
            refine AllReadyH.cons (o := _) (by simp only [List.getElem?_toArray, List.getElem?_cons_succ, List.getElem?_cons_zero]; rfl) (fun KK hK => ?_) AllReadyH.nil
            go_simp
            replace hF := hF.set 2 (.slice a9 n9 c9) (by simp) (by simp <;> omega)
            have hO := hO2.put (p := ⟨nb + 1, 2, none⟩) hne2 (by dsimp only; omega) (.slice a9 n9 c9)
            refine hK.out _ _ ?hs (fun hHeld => ?_)
            case hs => ((try dsimp only); exact ⟨Fb.old (by repeat (first | with_reducible exact hF | with_reducible apply Fb.drew | with_reducible apply Fb.other)) E6.out.1, Fb.old (by repeat (first | with_reducible exact hF | with_reducible apply Fb.drew | with_reducible apply Fb.other)) E6.out.2.1, Fb.old (by repeat (first | with_reducible exact hF | with_reducible apply Fb.drew | with_reducible apply Fb.other)) E6.out.2.2.1, Fb.old (by repeat (first | with_reducible exact hF | with_reducible apply Fb.drew | with_reducible apply Fb.other)) E6.out.2.2.2.1, Fb.old (by repeat (first | with_reducible exact hF | with_reducible apply Fb.drew | with_reducible apply Fb.other)) E6.out.2.2.2.2.1, Fb.old (by repeat (first | with_reducible exact hF | with_reducible apply Fb.drew | with_reducible apply Fb.other)) E6.out.2.2.2.2.2, Fb.get (by repeat (first | with_reducible exact hF | with_reducible apply Fb.drew | with_reducible apply Fb.other)) (List.mem_cons_of_mem _ (List.mem_cons_of_mem _ (List.mem_cons_self ..))) rfl⟩)
            clear hK KK
            (try simp only [Act.put, List.setIfInBounds_toArray, List.set_cons_zero, List.set_cons_succ])
            refine wpAnyH_done (by kernel_rfl) ?_ _
            clear hO2 o
            have o := hF.own; simp only [World.size_alloc, World.size_drew, World.size_setCell, List.mem_cons, List.not_mem_nil, or_false, forall_eq_or_imp, forall_eq, At, and_true, Nat.zero_add, Nat.reduceAdd, List.set_cons_zero, List.set_cons_succ] at o
            go_wp2_with fail
            go_roundw
            case rel => exact ⟨k + 1, _, _, by omega, by go_num, by simp; omega, hKs2, hne2, by simp only [World.size_setCell]; omega, hO, hF⟩
            case measure => simp [intOf]; omega
          ·
            go_simp
            (go_at_call 40; go_must (refine (l4Copy_any f b lk _ _ P M _ (It.below HI.out.1 (Fb.kp (W := w) (by repeat (first | with_reducible exact hF | with_reducible apply Fb.drew | with_reducible apply Fb.other)))) (It.below HI.out.2 (Fb.kp (W := w) (by repeat (first | with_reducible exact hF | with_reducible apply Fb.drew | with_reducible apply Fb.other)))) (by have := HSS.out.1; dsimp only at this; omega) (by have := HSS.out.2; dsimp only at this; omega)).mono ?_); rintro e wy ⟨pv9, mv9, rfl, y1, y2, hby⟩; obtain ⟨oy1, cy1, rfl, -⟩ := y1.1.1.ex; obtain ⟨oy2, cy2, rfl, -⟩ := y2.1.1.ex; have hlo := hO.lt; have hsy := hby.size; simp only [World.size_drew] at hsy y1 y2; replace hF := Fb.below (by repeat (first | with_reducible exact hF | with_reducible apply Fb.drew | with_reducible apply Fb.other)) hby; replace hO := GO2.below (by repeat (first | with_reducible exact hO | with_reducible apply GO2.drew | with_reducible apply GO2.alloc)) hby; clear hby o; have o := hF.own; simp only [World.size_alloc, World.size_drew, World.size_setCell, List.mem_cons, List.not_mem_nil, or_false, forall_eq_or_imp, forall_eq, At, and_true, Nat.zero_add, Nat.reduceAdd, List.set_cons_zero, List.set_cons_succ] at o)
            (try go_wp2_with fail)
            refine hK.out _ _ ?hs (fun hHeld => ?_)
            case hs => ((try dsimp only); exact ⟨Fb.old (by repeat (first | with_reducible exact hF | with_reducible apply Fb.drew | with_reducible apply Fb.other)) E6.out.1, Fb.old (by repeat (first | with_reducible exact hF | with_reducible apply Fb.drew | with_reducible apply Fb.other)) E6.out.2.1, Fb.old (by repeat (first | with_reducible exact hF | with_reducible apply Fb.drew | with_reducible apply Fb.other)) E6.out.2.2.1, Fb.old (by repeat (first | with_reducible exact hF | with_reducible apply Fb.drew | with_reducible apply Fb.other)) E6.out.2.2.2.1, Fb.old (by repeat (first | with_reducible exact hF | with_reducible apply Fb.drew | with_reducible apply Fb.other)) E6.out.2.2.2.2.1, Fb.old (by repeat (first | with_reducible exact hF | with_reducible apply Fb.drew | with_reducible apply Fb.other)) E6.out.2.2.2.2.2, Fb.get (by repeat (first | with_reducible exact hF | with_reducible apply Fb.drew | with_reducible apply Fb.other)) (List.mem_cons_of_mem _ (List.mem_cons_of_mem _ (List.mem_cons_self ..))) rfl⟩)
            clear hK KK
            (try simp only [Act.put, List.setIfInBounds_toArray, List.set_cons_zero, List.set_cons_succ])
            refine wpAnyH_take (i := 9) (oi := _) (v := ?_) (by simp only [List.getElem?_toArray, List.getElem?_cons_succ, List.getElem?_cons_zero]; rfl) (by kernel_rfl) (by kernel_rfl) (by kernel_rfl) (by exact fun _ _ _ h => h) (Or.inl ⟨by rfl, ?hy⟩) (by assumption) ?_
            case hy => (intro w hSw; (try dsimp only at hSw); go_simp; (try with_reducible rfl))
            (try simp only [Act.put, List.setIfInBounds_toArray, List.set_cons_zero, List.set_cons_succ])
            refine wpAnyH_ready (rs := [1, 10]) (by kernel_rfl) (by simp) ?_
            refine AllReadyH.cons (o := _) (by simp only [List.getElem?_toArray, List.getElem?_cons_succ, List.getElem?_cons_zero]; rfl) (fun KK hK => ?_) (AllReadyH.cons (o := _) (by simp only [List.getElem?_toArray, List.getElem?_cons_succ, List.getElem?_cons_zero]; rfl) (fun KK hK => ?_) AllReadyH.nil)
            · go_simp
              refine hK.out _ _ ?hs (fun hHeld => ?_)
              case hs => ((try dsimp only); exact ⟨Fb.old (by repeat (first | with_reducible exact hF | with_reducible apply Fb.drew | with_reducible apply Fb.other)) E6.out.1, Fb.old (by repeat (first | with_reducible exact hF | with_reducible apply Fb.drew | with_reducible apply Fb.other)) E6.out.2.1, Fb.old (by repeat (first | with_reducible exact hF | with_reducible apply Fb.drew | with_reducible apply Fb.other)) E6.out.2.2.1, Fb.old (by repeat (first | with_reducible exact hF | with_reducible apply Fb.drew | with_reducible apply Fb.other)) E6.out.2.2.2.1, Fb.old (by repeat (first | with_reducible exact hF | with_reducible apply Fb.drew | with_reducible apply Fb.other)) E6.out.2.2.2.2.1, Fb.old (by repeat (first | with_reducible exact hF | with_reducible apply Fb.drew | with_reducible apply Fb.other)) E6.out.2.2.2.2.2, Fb.get (by repeat (first | with_reducible exact hF | with_reducible apply Fb.drew | with_reducible apply Fb.other)) (List.mem_cons_of_mem _ (List.mem_cons_of_mem _ (List.mem_cons_self ..))) rfl⟩)
              clear hK KK
              (try simp only [Act.put, List.setIfInBounds_toArray, List.set_cons_zero, List.set_cons_succ])
              refine wpAnyH_ready (rs := [10]) (by kernel_rfl) (by simp) ?_
              refine AllReadyH.cons (o := _) (by simp only [List.getElem?_toArray, List.getElem?_cons_succ, List.getElem?_cons_zero]; rfl) (fun KK hK => ?_) AllReadyH.nil
              go_simp
              refine hK.out _ _ ?hs (fun hHeld => ?_)
              case hs => ((try dsimp only); exact ⟨Fb.old (by repeat (first | with_reducible exact hF | with_reducible apply Fb.drew | with_reducible apply Fb.other)) E6.out.1, Fb.old (by repeat (first | with_reducible exact hF | with_reducible apply Fb.drew | with_reducible apply Fb.other)) E6.out.2.1, Fb.old (by repeat (first | with_reducible exact hF | with_reducible apply Fb.drew | with_reducible apply Fb.other)) E6.out.2.2.1, Fb.old (by repeat (first | with_reducible exact hF | with_reducible apply Fb.drew | with_reducible apply Fb.other)) E6.out.2.2.2.1, Fb.old (by repeat (first | with_reducible exact hF | with_reducible apply Fb.drew | with_reducible apply Fb.other)) E6.out.2.2.2.2.1, Fb.old (by repeat (first | with_reducible exact hF | with_reducible apply Fb.drew | with_reducible apply Fb.other)) E6.out.2.2.2.2.2, Fb.get (by repeat (first | with_reducible exact hF | with_reducible apply Fb.drew | with_reducible apply Fb.other)) (List.mem_cons_of_mem _ (List.mem_cons_of_mem _ (List.mem_cons_self ..))) rfl⟩)
              clear hK KK
              (try simp only [Act.put, List.setIfInBounds_toArray, List.set_cons_zero, List.set_cons_succ])
              refine wpAnyH_ready (rs := [11]) (by kernel_rfl) (by simp) ?_
              refine AllReadyH.cons (o := _) (by simp only [List.getElem?_toArray, List.getElem?_cons_succ, List.getElem?_cons_zero]; rfl) (fun KK hK => ?_) AllReadyH.nil
              (obtain ⟨ds, hOw, hG⟩ := hO; have hlG := hG.1; refine step_app (by rfl) _ _ 42 (by rfl) 48 (.agg #[.int .i64 0, .int .i64 0, .slice none 0 0, .int .i64 0, .slice none 0 0, .bool false]) 6 80 Tryd.underlying42 infoGt rfl (by decide) (by decide) (nb) encGt _ ds rfl (hOw.alloc _) (⟨f, b, lk, .slice oy1 P.length cy1, .slice oy2 M.length cy2, false⟩ : GtD) ⟨_, 0, none⟩ 1 rfl rfl (cells_new _ _ _) (by simp [encGt, Value.oneCell']) (by have := hnk.out; omega) (by simp only [World.size_alloc]; omega) ?_)
              intro v9 wz hO9 hg9 hb9 hf9
              have hO2 := g2_snoc (s := ((f, b, lk, P, M), false)) hG ((Below.refl _ _).alloc (Nat.le_refl _) _) hO9 hg9 hf9 (Sh.below (S := shGt) ⟨⟨rfl, rfl, rfl, rfl⟩, y1.1, y2.1⟩ ((Below.refl _ _).alloc (Nat.le_refl _) _)) (sub2 (fun g h => ⟨by have := y1.2 g h; omega, by have := y1.2 g h; simp only [World.size_alloc]; omega, fun e => by have := y1.2 g h; have := hlo g e; omega⟩) (fun g h => ⟨by have := y2.2 g h; omega, by have := y2.2 g h; simp only [World.size_alloc]; omega, fun e => by have := y2.2 g h; have := hlo g e; omega⟩))
              have hsz9 := hb9.size
              simp only [World.size_alloc] at hsz9
              skip
              replace hF := (hF.other (.cells #[.int .i64 f, .int .i64 b, .slice oy1 P.length cy1, .int .i64 lk, .slice oy2 M.length cy2, .bool false] 48)).grownQ hg9 (fun g hg => by have := hOw.ge g hg; omega) (fun p hp e => by have := hOw.ge _ e; simp only [List.mem_cons, List.not_mem_nil, or_false] at hp; rcases hp with rfl | rfl | rfl; exact hne e; simp at this <;> omega; simp at this <;> omega)
              have hne2 := frsh_off hf9 hne (by simp only [World.size_alloc]; omega)
              obtain ⟨a9, c9, rfl⟩ := hO2.sl
              obtain ⟨n9, hn9⟩ : ∃ n9, Hid ((K ++ [((f, b, lk, P, M), false)]).length = n9) := ⟨_, rfl⟩
              rw [hn9.out] at hO2 hne2 ⊢
              clear hg9 hb9 hf9 hO9 hOw hG o hlG
              have o := hF.own; simp only [World.size_alloc, World.size_drew, World.size_setCell, List.mem_cons, List.not_mem_nil, or_false, forall_eq_or_imp, forall_eq, At, and_true, Nat.zero_add, Nat.reduceAdd, List.set_cons_zero, List.set_cons_succ] at o
              refine hK.out _ _ ?hs (fun hHeld => ?_)
              case hs => ((try dsimp only); exact ⟨Fb.old (by repeat (first | with_reducible exact hF | with_reducible apply Fb.drew | with_reducible apply Fb.other)) E6.out.1, Fb.old (by repeat (first | with_reducible exact hF | with_reducible apply Fb.drew | with_reducible apply Fb.other)) E6.out.2.1, Fb.old (by repeat (first | with_reducible exact hF | with_reducible apply Fb.drew | with_reducible apply Fb.other)) E6.out.2.2.1, Fb.old (by repeat (first | with_reducible exact hF | with_reducible apply Fb.drew | with_reducible apply Fb.other)) E6.out.2.2.2.1, Fb.old (by repeat (first | with_reducible exact hF | with_reducible apply Fb.drew | with_reducible apply Fb.other)) E6.out.2.2.2.2.1, Fb.old (by repeat (first | with_reducible exact hF | with_reducible apply Fb.drew | with_reducible apply Fb.other)) E6.out.2.2.2.2.2, Fb.get (by repeat (first | with_reducible exact hF | with_reducible apply Fb.drew | with_reducible apply Fb.other)) (List.mem_cons_of_mem _ (List.mem_cons_of_mem _ (List.mem_cons_self ..))) rfl⟩)
              clear hK KK
              (try simp only [Act.put, List.setIfInBounds_toArray, List.set_cons_zero, List.set_cons_succ])
              refine wpAnyH_take (i := 12) (oi := _) (v := ?_) (by simp only [List.getElem?_toArray, List.getElem?_cons_succ, List.getElem?_cons_zero]; rfl) (by kernel_rfl) (by kernel_rfl) (by kernel_rfl) (by exact fun _ _ _ h => h) (Or.inl ⟨by rfl, ?hy⟩) (by assumption) ?_
              case hy => (intro w hSw; (try dsimp only at hSw); go_simp; (try with_reducible rfl))
              (try simp only [Act.put, List.setIfInBounds_toArray, List.set_cons_zero, List.set_cons_succ])
              refine wpAnyH_ready (rs := [13]) (by kernel_rfl) (by simp) ?_
              refine AllReadyH.cons (o := _) (by simp only [List.getElem?_toArray, List.getElem?_cons_succ, List.getElem?_cons_zero]; rfl) (fun KK hK => ?_) AllReadyH.nil
              go_simp
              replace hF := hF.set 2 (.slice a9 n9 c9) (by simp) (by simp <;> omega)
              have hO := hO2.put (p := ⟨nb + 1, 2, none⟩) hne2 (by dsimp only; omega) (.slice a9 n9 c9)
              refine hK.out _ _ ?hs (fun hHeld => ?_)
              case hs => ((try dsimp only); exact ⟨Fb.old (by repeat (first | with_reducible exact hF | with_reducible apply Fb.drew | with_reducible apply Fb.other)) E6.out.1, Fb.old (by repeat (first | with_reducible exact hF | with_reducible apply Fb.drew | with_reducible apply Fb.other)) E6.out.2.1, Fb.old (by repeat (first | with_reducible exact hF | with_reducible apply Fb.drew | with_reducible apply Fb.other)) E6.out.2.2.1, Fb.old (by repeat (first | with_reducible exact hF | with_reducible apply Fb.drew | with_reducible apply Fb.other)) E6.out.2.2.2.1, Fb.old (by repeat (first | with_reducible exact hF | with_reducible apply Fb.drew | with_reducible apply Fb.other)) E6.out.2.2.2.2.1, Fb.old (by repeat (first | with_reducible exact hF | with_reducible apply Fb.drew | with_reducible apply Fb.other)) E6.out.2.2.2.2.2, Fb.get (by repeat (first | with_reducible exact hF | with_reducible apply Fb.drew | with_reducible apply Fb.other)) (List.mem_cons_of_mem _ (List.mem_cons_of_mem _ (List.mem_cons_self ..))) rfl⟩)
              clear hK KK
              (try simp only [Act.put, List.setIfInBounds_toArray, List.set_cons_zero, List.set_cons_succ])
              refine wpAnyH_done (by kernel_rfl) ?_ _
              clear hO2 o
              have o := hF.own; simp only [World.size_alloc, World.size_drew, World.size_setCell, List.mem_cons, List.not_mem_nil, or_false, forall_eq_or_imp, forall_eq, At, and_true, Nat.zero_add, Nat.reduceAdd, List.set_cons_zero, List.set_cons_succ] at o
              go_wp2_with fail
              go_roundw
              case rel => exact ⟨k + 1, _, _, by omega, by go_num, by simp; omega, hKs2, hne2, by simp only [World.size_setCell]; omega, hO, hF⟩
              case measure => simp [intOf]; omega
            · go_simp
              refine hK.out _ _ ?hs (fun hHeld => ?_)
              case hs => ((try dsimp only); exact ⟨Fb.old (by repeat (first | with_reducible exact hF | with_reducible apply Fb.drew | with_reducible apply Fb.other)) E6.out.1, Fb.old (by repeat (first | with_reducible exact hF | with_reducible apply Fb.drew | with_reducible apply Fb.other)) E6.out.2.1, Fb.old (by repeat (first | with_reducible exact hF | with_reducible apply Fb.drew | with_reducible apply Fb.other)) E6.out.2.2.1, Fb.old (by repeat (first | with_reducible exact hF | with_reducible apply Fb.drew | with_reducible apply Fb.other)) E6.out.2.2.2.1, Fb.old (by repeat (first | with_reducible exact hF | with_reducible apply Fb.drew | with_reducible apply Fb.other)) E6.out.2.2.2.2.1, Fb.old (by repeat (first | with_reducible exact hF | with_reducible apply Fb.drew | with_reducible apply Fb.other)) E6.out.2.2.2.2.2, Fb.get (by repeat (first | with_reducible exact hF | with_reducible apply Fb.drew | with_reducible apply Fb.other)) (List.mem_cons_of_mem _ (List.mem_cons_of_mem _ (List.mem_cons_self ..))) rfl⟩)
              clear hK KK
              (try simp only [Act.put, List.setIfInBounds_toArray, List.set_cons_zero, List.set_cons_succ])
              refine wpAnyH_ready (rs := [1]) (by kernel_rfl) (by simp) ?_
              refine AllReadyH.cons (o := _) (by simp only [List.getElem?_toArray, List.getElem?_cons_succ, List.getElem?_cons_zero]; rfl) (fun KK hK => ?_) AllReadyH.nil
              go_simp
              refine hK.out _ _ ?hs (fun hHeld => ?_)
              case hs => ((try dsimp only); exact ⟨Fb.old (by repeat (first | with_reducible exact hF | with_reducible apply Fb.drew | with_reducible apply Fb.other)) E6.out.1, Fb.old (by repeat (first | with_reducible exact hF | with_reducible apply Fb.drew | with_reducible apply Fb.other)) E6.out.2.1, Fb.old (by repeat (first | with_reducible exact hF | with_reducible apply Fb.drew | with_reducible apply Fb.other)) E6.out.2.2.1, Fb.old (by repeat (first | with_reducible exact hF | with_reducible apply Fb.drew | with_reducible apply Fb.other)) E6.out.2.2.2.1, Fb.old (by repeat (first | with_reducible exact hF | with_reducible apply Fb.drew | with_reducible apply Fb.other)) E6.out.2.2.2.2.1, Fb.old (by repeat (first | with_reducible exact hF | with_reducible apply Fb.drew | with_reducible apply Fb.other)) E6.out.2.2.2.2.2, Fb.get (by repeat (first | with_reducible exact hF | with_reducible apply Fb.drew | with_reducible apply Fb.other)) (List.mem_cons_of_mem _ (List.mem_cons_of_mem _ (List.mem_cons_self ..))) rfl⟩)
              clear hK KK
              (try simp only [Act.put, List.setIfInBounds_toArray, List.set_cons_zero, List.set_cons_succ])
              refine wpAnyH_ready (rs := [11]) (by kernel_rfl) (by simp) ?_
              refine AllReadyH.cons (o := _) (by simp only [List.getElem?_toArray, List.getElem?_cons_succ, List.getElem?_cons_zero]; rfl) (fun KK hK => ?_) AllReadyH.nil
              (obtain ⟨ds, hOw, hG⟩ := hO; have hlG := hG.1; refine step_app (by rfl) _ _ 42 (by rfl) 48 (.agg #[.int .i64 0, .int .i64 0, .slice none 0 0, .int .i64 0, .slice none 0 0, .bool false]) 6 80 Tryd.underlying42 infoGt rfl (by decide) (by decide) (nb) encGt _ ds rfl (hOw.alloc _) (⟨f, b, lk, .slice oy1 P.length cy1, .slice oy2 M.length cy2, false⟩ : GtD) ⟨_, 0, none⟩ 1 rfl rfl (cells_new _ _ _) (by simp [encGt, Value.oneCell']) (by have := hnk.out; omega) (by simp only [World.size_alloc]; omega) ?_)
              intro v9 wz hO9 hg9 hb9 hf9
              have hO2 := g2_snoc (s := ((f, b, lk, P, M), false)) hG ((Below.refl _ _).alloc (Nat.le_refl _) _) hO9 hg9 hf9 (Sh.below (S := shGt) ⟨⟨rfl, rfl, rfl, rfl⟩, y1.1, y2.1⟩ ((Below.refl _ _).alloc (Nat.le_refl _) _)) (sub2 (fun g h => ⟨by have := y1.2 g h; omega, by have := y1.2 g h; simp only [World.size_alloc]; omega, fun e => by have := y1.2 g h; have := hlo g e; omega⟩) (fun g h => ⟨by have := y2.2 g h; omega, by have := y2.2 g h; simp only [World.size_alloc]; omega, fun e => by have := y2.2 g h; have := hlo g e; omega⟩))
              have hsz9 := hb9.size
              simp only [World.size_alloc] at hsz9
              skip
              replace hF := (hF.other (.cells #[.int .i64 f, .int .i64 b, .slice oy1 P.length cy1, .int .i64 lk, .slice oy2 M.length cy2, .bool false] 48)).grownQ hg9 (fun g hg => by have := hOw.ge g hg; omega) (fun p hp e => by have := hOw.ge _ e; simp only [List.mem_cons, List.not_mem_nil, or_false] at hp; rcases hp with rfl | rfl | rfl; exact hne e; simp at this <;> omega; simp at this <;> omega)
              have hne2 := frsh_off hf9 hne (by simp only [World.size_alloc]; omega)
              obtain ⟨a9, c9, rfl⟩ := hO2.sl
              obtain ⟨n9, hn9⟩ : ∃ n9, Hid ((K ++ [((f, b, lk, P, M), false)]).length = n9) := ⟨_, rfl⟩
              rw [hn9.out] at hO2 hne2 ⊢
              clear hg9 hb9 hf9 hO9 hOw hG o hlG
              have o := hF.own; simp only [World.size_alloc, World.size_drew, World.size_setCell, List.mem_cons, List.not_mem_nil, or_false, forall_eq_or_imp, forall_eq, At, and_true, Nat.zero_add, Nat.reduceAdd, List.set_cons_zero, List.set_cons_succ] at o
              refine hK.out _ _ ?hs (fun hHeld => ?_)
              case hs => ((try dsimp only); exact ⟨Fb.old (by repeat (first | with_reducible exact hF | with_reducible apply Fb.drew | with_reducible apply Fb.other)) E6.out.1, Fb.old (by repeat (first | with_reducible exact hF | with_reducible apply Fb.drew | with_reducible apply Fb.other)) E6.out.2.1, Fb.old (by repeat (first | with_reducible exact hF | with_reducible apply Fb.drew | with_reducible apply Fb.other)) E6.out.2.2.1, Fb.old (by repeat (first | with_reducible exact hF | with_reducible apply Fb.drew | with_reducible apply Fb.other)) E6.out.2.2.2.1, Fb.old (by repeat (first | with_reducible exact hF | with_reducible apply Fb.drew | with_reducible apply Fb.other)) E6.out.2.2.2.2.1, Fb.old (by repeat (first | with_reducible exact hF | with_reducible apply Fb.drew | with_reducible apply Fb.other)) E6.out.2.2.2.2.2, Fb.get (by repeat (first | with_reducible exact hF | with_reducible apply Fb.drew | with_reducible apply Fb.other)) (List.mem_cons_of_mem _ (List.mem_cons_of_mem _ (List.mem_cons_self ..))) rfl⟩)
              clear hK KK
              (try simp only [Act.put, List.setIfInBounds_toArray, List.set_cons_zero, List.set_cons_succ])
              refine wpAnyH_take (i := 12) (oi := _) (v := ?_) (by simp only [List.getElem?_toArray, List.getElem?_cons_succ, List.getElem?_cons_zero]; rfl) (by kernel_rfl) (by kernel_rfl) (by kernel_rfl) (by exact fun _ _ _ h => h) (Or.inl ⟨by rfl, ?hy⟩) (by assumption) ?_
              case hy => (intro w hSw; (try dsimp only at hSw); go_simp; (try with_reducible rfl))
              (try simp only [Act.put, List.setIfInBounds_toArray, List.set_cons_zero, List.set_cons_succ])
              refine wpAnyH_ready (rs := [13]) (by kernel_rfl) (by simp) ?_
              refine AllReadyH.cons (o := _) (by simp only [List.getElem?_toArray, List.getElem?_cons_succ, List.getElem?_cons_zero]; rfl) (fun KK hK => ?_) AllReadyH.nil
              go_simp
              replace hF := hF.set 2 (.slice a9 n9 c9) (by simp) (by simp <;> omega)
              have hO := hO2.put (p := ⟨nb + 1, 2, none⟩) hne2 (by dsimp only; omega) (.slice a9 n9 c9)
              refine hK.out _ _ ?hs (fun hHeld => ?_)
              case hs => ((try dsimp only); exact ⟨Fb.old (by repeat (first | with_reducible exact hF | with_reducible apply Fb.drew | with_reducible apply Fb.other)) E6.out.1, Fb.old (by repeat (first | with_reducible exact hF | with_reducible apply Fb.drew | with_reducible apply Fb.other)) E6.out.2.1, Fb.old (by repeat (first | with_reducible exact hF | with_reducible apply Fb.drew | with_reducible apply Fb.other)) E6.out.2.2.1, Fb.old (by repeat (first | with_reducible exact hF | with_reducible apply Fb.drew | with_reducible apply Fb.other)) E6.out.2.2.2.1, Fb.old (by repeat (first | with_reducible exact hF | with_reducible apply Fb.drew | with_reducible apply Fb.other)) E6.out.2.2.2.2.1, Fb.old (by repeat (first | with_reducible exact hF | with_reducible apply Fb.drew | with_reducible apply Fb.other)) E6.out.2.2.2.2.2, Fb.get (by repeat (first | with_reducible exact hF | with_reducible apply Fb.drew | with_reducible apply Fb.other)) (List.mem_cons_of_mem _ (List.mem_cons_of_mem _ (List.mem_cons_self ..))) rfl⟩)
              clear hK KK
              (try simp only [Act.put, List.setIfInBounds_toArray, List.set_cons_zero, List.set_cons_succ])
              refine wpAnyH_done (by kernel_rfl) ?_ _
              clear hO2 o
              have o := hF.own; simp only [World.size_alloc, World.size_drew, World.size_setCell, List.mem_cons, List.not_mem_nil, or_false, forall_eq_or_imp, forall_eq, At, and_true, Nat.zero_add, Nat.reduceAdd, List.set_cons_zero, List.set_cons_succ] at o
              go_wp2_with fail
              go_roundw
              case rel => exact ⟨k + 1, _, _, by omega, by go_num, by simp; omega, hKs2, hne2, by simp only [World.size_setCell]; omega, hO, hF⟩
              case measure => simp [intOf]; omega
      · have hF2 := hF.turnB
        clear hF o
        have hF := hF2
        clear hF2
        have o := hF.own; simp only [World.size_alloc, World.size_drew, World.size_setCell, List.mem_cons, List.not_mem_nil, or_false, forall_eq_or_imp, forall_eq, At, and_true, Nat.zero_add, Nat.reduceAdd, List.set_cons_zero, List.set_cons_succ] at o
        go_wp2_with fail
        obtain ⟨wz, hwz, hG, hOz⟩ := put3 hF (by simp; omega) hO (by omega) (by omega) (.int .i64 H) (.bool up) (.slice au nk cu)
        rw [← hwz]
        clear hwz o hF
        have hF := hG
        have o := hF.own; simp only [World.size_alloc, World.size_drew, World.size_setCell, List.mem_cons, List.not_mem_nil, or_false, forall_eq_or_imp, forall_eq, At, and_true, Nat.zero_add, Nat.reduceAdd, List.set_cons_zero, List.set_cons_succ] at o
        refine bodyPost_ret (v := .agg #[.int .i64 H, .bool up, .slice au nk cu]) ?_ rfl ?_
        · simp [results, Tryd.results97, go_sem, o]
        · exact ⟨_, _, _, K, rfl, ⟨_, hOz.choose_spec.1.base (by have := HN.out; omega), hOz.choose_spec.2.mono (by have := HN.out; omega) (Nat.le_refl _)⟩, by have := hnk.out; omega, hKs.out, hG.kp⟩
  · have dq : decide (RbOk H up L) = false := by simp [hq]
    replace hF := hF.below hb2
    clear hq hb2 o
    have o := hF.own; simp only [World.size_alloc, World.size_drew, World.size_setCell, List.mem_cons, List.not_mem_nil, or_false, forall_eq_or_imp, forall_eq, At, and_true, Nat.zero_add, Nat.reduceAdd, List.set_cons_zero, List.set_cons_succ] at o
    go_wp2_with fail
    obtain ⟨wz, hwz, hG, -, -⟩ := put3f hF (by simp) (.int .i64 0) (.bool false) (.slice none 0 0)
    rw [← hwz]
    clear hwz o hF
    have hF := hG
    have o := hF.own; simp only [World.size_alloc, World.size_drew, World.size_setCell, List.mem_cons, List.not_mem_nil, or_false, forall_eq_or_imp, forall_eq, At, and_true, Nat.zero_add, Nat.reduceAdd, List.set_cons_zero, List.set_cons_succ] at o
    refine bodyPost_ret (v := .agg #[.int .i64 0, .bool false, .slice none 0 0]) ?_ rfl ?_
    · simp [results, Tryd.results97, go_sem, o]
    · exact ⟨_, _, _, [], rfl, ribR_nil _ _ hG.kp⟩
end Go.Proofs.YtonojegnbcgnaaaDoor
