/- append of any slice, nil or not, onto an owned row. A range of a number. FnSealMore: the walk. -/
import Derived.Test.YtiocomefkckbfaaDoorZ5
import Derived.Test.YtiocomefkckbfaaDoorZ8
import Derived.Test.YtiocomefkckbfaaDoorZ24
set_option linter.unusedSimpArgs false
set_option linter.unusedVariables false
namespace Go.Proofs.YtiocomefkckbfaaDoor
open Go Go.RowKit

theorem run_app_none {P : Program} (w : World) (t ty E : TypeId) (i : TypeInfo) (ht : P.underlying t = some (.slice E)) (hi : P.info? E = some i) (base size n c : Nat) (v : Value) (xs : List Value) (h : w.ownsRow base E size v n xs) :
    (Builtin.append_ #[t, t] ty #[v, .slice none 0 c]).run P w = .ok v w := by
  obtain ⟨h1, ⟨rfl, h2⟩ | ⟨g, cap, cur, rfl, _, _, h4, _⟩⟩ := h
  · simp [Builtin.append_, run_underlying ht, sizeOf, typeInfo, hi, Builtin.lenOf, Builtin.firstCells]
  · simp [Builtin.append_, run_underlying ht, sizeOf, typeInfo, hi, Builtin.lenOf, Builtin.firstCells, storeCells, h4]
theorem run_appsZ {α : Type} {P : Program} {w : World} (t ty E : TypeId) (z : Value) (sz bytes : Nat) (ht : P.underlying t = some (.slice E)) (hI : (P.info? E).map (fun i => (i.zero, i.size, i.bytes)) = some (some z, sz, bytes)) (hzs : z.cells.size = sz) (hsz : 0 < sz) (hby : bytes ≤ 1000)
    (B : Nat) (enc : α → List Value) (hen : ∀ x, (enc x).length = sz) (v : Value) (L : List α) (hown : Own E w B v sz enc L)
    (xv : Value) (K : List α) (hone : ∀ x ∈ K, ∀ u ∈ enc x, u.oneCell' = true) (hK : Rows w xv sz enc K) (hlen : L.length + K.length ≤ 1000000) (hB : B ≤ w.heap.size) :
    ∃ v' w', (Builtin.append_ #[t, t] ty #[v, xv]).run P w = .ok v' w' ∧ Own E w' B v' sz enc (L ++ K) ∧ w.grownBy w' v.ownBlock ∧ Below B w w' ∧ Frsh w v v' := by
  obtain ⟨i, hi, hz, hsize, hbytes⟩ := info_parts hI
  obtain ⟨ao, cap, rfl, h1, h2, h3⟩ := hK.ex
  have hm : L.length + K.length ≤ maxLen := by unfold maxLen; omega
  have hb : (L.length + K.length) * bytes ≤ 140737488355328 := Nat.le_trans (Nat.mul_le_mul (show L.length + K.length ≤ 1000001 by omega) hby) (by omega)
  cases ao with
  | none =>
    have hk : K = [] := by
      cases K with
      | nil => rfl
      | cons y K => obtain ⟨b, off, e, _⟩ := h3 0 y rfl; cases e
    subst hk
    refine ⟨v, w, run_app_none w t ty E i ht hi B sz L.length cap v _ hown, by simpa using hown, ⟨rfl, rfl, rfl, Nat.le_refl _, fun _ _ _ => rfl⟩, Below.refl _ _, Or.inl rfl⟩
  | some ad =>
    have hfl : (K.flatMap enc).length = K.length * sz := flat_len hen K
    have hone' : ∀ u ∈ K.flatMap enc, u.oneCell' = true := fun u hu => by
      obtain ⟨y, hy1, hy⟩ := List.mem_flatMap.1 hu
      exact hone y hy1 u hy
    have hnews : ∀ j u, (K.flatMap enc)[j]? = some u → w.cell? (ad.add j) = some u := fun j u hj => by
      obtain ⟨k, x, q, hk, hq, e⟩ := flat_at hen K j u hj
      obtain ⟨b, off, e1, hc⟩ := h3 k x hk
      injection e1 with e1
      subst e1
      rw [addr_add', e, ← Nat.add_assoc]
      exact hc q u hq
    obtain ⟨v', w', hr, k2, k3, k4⟩ := run_append_own (P := P) w B t ty E i z sz bytes ht hi hz hsize hbytes hzs hsz v L.length (L.flatMap enc) hown ad K.length cap (K.flatMap enc) hfl hnews hone' hm hb hB
    have hf := append_block0 (P := P) (w := w) B t ty E i z sz bytes ht hi hz hsize hbytes v L.length (L.flatMap enc) hown ad K.length cap (K.flatMap enc) hfl hnews hone' hm hb hr
    exact ⟨v', w', hr, by unfold Own; rw [List.length_append, List.flatMap_append]; exact k2, k3, own_grown hown k3 hB, hf⟩
theorem step_appsZ {α : Type} {P : Program} {ops : Array Oper} {o : Oper} {a : Act} {w : World} {K : Act → World → Prop} {Q : Exit → Act → World → Prop} {F : Prop} (hw : Region.wanted o (yielded ops a.tmps) = true) (s x : Operand) (t : TypeId)
    (ho : o.op = .call { callee := .builtin .append, args := #[s, x], argTypes := #[t, t] })
    (E : TypeId) (z : Value) (sz bytes : Nat) (ht : P.underlying t = some (.slice E)) (hI : (P.info? E).map (fun i => (i.zero, i.size, i.bytes)) = some (some z, sz, bytes)) (hzs : z.cells.size = sz) (hsz : 0 < sz) (hby : bytes ≤ 1000)
    (B : Nat) (enc : α → List Value) (hen : ∀ x, (enc x).length = sz) (v : Value) (L : List α) (hs : a.eval s = v) (hown : Own E w B v sz enc L)
    (xv : Value) (K2 : List α) (hone : ∀ x ∈ K2, ∀ u ∈ enc x, u.oneCell' = true) (hx : a.eval x = xv) (hK : Rows w xv sz enc K2)
    (hlen : L.length + K2.length ≤ 1000000) (hB : B ≤ w.heap.size)
    (h : ∀ v' w', Own E w' B v' sz enc (L ++ K2) → w.grownBy w' v.ownBlock → Below B w w' → Frsh w v v' → K (a.put o.dst v') w') : if Region.wanted o (yielded ops a.tmps) = true then Oper.wp P o a w K Q else F := by
  rw [if_pos hw]
  obtain ⟨v', w', hr, h1, h2, h3, h4⟩ := run_appsZ (P := P) t o.type E z sz bytes ht hI hzs hsz hby B enc hen v L hown xv K2 hone hK hlen hB
  unfold Oper.wp execOp
  simp only [ho, resolve, invoke, builtin, Sem.run_bind, Sem.run_pure, Result.andThen_ok, List.map_toArray, List.map_cons, List.map_nil, hs, hx, hr]
  exact h v' w' h1 h2 h3 h4
theorem wpList_appsZ {α : Type} {P : Program} {ops : Array Oper} {rest : List Oper} {o : Oper} {a : Act} {w : World} {Q : Exit → Act → World → Prop} (hgd : o.guard = none) (s x : Operand) (t : TypeId)
    (ho : o.op = .call { callee := .builtin .append, args := #[s, x], argTypes := #[t, t] })
    (E : TypeId) (z : Value) (sz bytes : Nat) (ht : P.underlying t = some (.slice E)) (hI : (P.info? E).map (fun i => (i.zero, i.size, i.bytes)) = some (some z, sz, bytes)) (hzs : z.cells.size = sz) (hsz : 0 < sz) (hby : bytes ≤ 1000)
    (B : Nat) (enc : α → List Value) (hen : ∀ x, (enc x).length = sz) (v : Value) (L : List α) (hs : a.eval s = v) (hown : Own E w B v sz enc L)
    (xv : Value) (K2 : List α) (hone : ∀ x ∈ K2, ∀ u ∈ enc x, u.oneCell' = true) (hx : a.eval x = xv) (hK : Rows w xv sz enc K2)
    (hlen : L.length + K2.length ≤ 1000000) (hB : B ≤ w.heap.size)
    (h : ∀ v' w', Own E w' B v' sz enc (L ++ K2) → w.grownBy w' v.ownBlock → Below B w w' → Frsh w v v' → wpList P ops Q rest (a.put o.dst v') w') : wpList P ops Q (o :: rest) a w := by
  obtain ⟨v', w', hr, h1, h2, h3, h4⟩ := run_appsZ (P := P) t o.type E z sz bytes ht hI hzs hsz hby B enc hen v L hown xv K2 hone hK hlen hB
  refine wpList_plain hgd fun K hK => ?_
  unfold Oper.wp execOp
  simp only [ho, resolve, invoke, builtin, Sem.run_bind, Sem.run_pure, Result.andThen_ok, List.map_toArray, List.map_cons, List.map_nil, hs, hx, hr]
  exact hK _ _ (h v' w' h1 h2 h3 h4)
end Go.Proofs.YtiocomefkckbfaaDoor
set_option linter.unusedSimpArgs false
set_option linter.unusedVariables false
namespace Go.Proofs.YtiocomefkckbfaaDoor
open Go.RowKit

/-- The range of a number. -/
def lyF (n : Int) : Int := n * 37 % 256 / sz (n % 9) * sz (n % 9)
theorem lyRange_any (n : Nat) (hn : n ≤ 2000000) (w : World) :
    Calls Tryd.prog 29 #[.int .i64 n] w fun e w' => e = .returned (.agg #[.int .i64 (lyF n), .int .i64 ((n : Int) % 9)]) ∧ Below w.heap.size w w' := by
  have q0 : 0 ≤ (n : Int) % 9 := by omega
  have q1 : (n : Int) % 9 < 9 := by omega
  have q2 : 0 ≤ (n : Int) * 37 % 256 := by omega
  have q3 : (n : Int) * 37 % 256 < 256 := by omega
  obtain ⟨m, hm⟩ := Int.eq_ofNat_of_zero_le q0
  have hm1 : (n : Int) % 9 ≤ m := by omega
  have hm2 : (m : Int) ≤ (n : Int) % 9 := by omega
  have hm8 : m < 9 := by omega
  have HM := Lib.hid hm
  have s1 := sz_pos m
  have s2 := sz_le m (by omega)
  have z1 : 0 ≤ (n : Int) * 37 % 256 / sz m := Int.ediv_nonneg q2 (by omega)
  have z2 : (n : Int) * 37 % 256 / sz m * sz m ≤ (n : Int) * 37 % 256 := Int.ediv_mul_le _ (by omega)
  have z3 : 0 ≤ (n : Int) * 37 % 256 / sz m * sz m := Int.mul_nonneg z1 (by omega)
  have z4 : (n : Int) * 37 % 256 / sz m ≤ (n : Int) * 37 % 256 := Int.ediv_le_self _ q2
  have hly : lyF n = (n : Int) * 37 % 256 / sz m * sz m := by unfold lyF; rw [hm]
  have HL := Lib.hid hly
  clear hm hly
  go_enter Tryd.func29, Tryd.ntmps29
  go_wp2
  go_loop [4, 5] (fun s i => ∃ k : Nat, k ≤ m ∧ i = .int .i64 k ∧ s = .int .i64 (sz k)) (fun _ i => m - (intOf i).toNat)
  case atStart => exact ⟨0, Nat.zero_le _, rfl, rfl⟩
  case round =>
    obtain ⟨k, hk, rfl, rfl⟩ := hrel
    have h1 := sz_pos k
    have h2 := sz_le k (by omega)
    by_cases hlt : k < m
    · have hlt' : (k : Int) < (n : Int) % 9 := by omega
      go_wp2
      go_round
      case rel => exact ⟨k + 1, by omega, by go_num, by rw [← sz_step k (by omega)]; skip⟩
      case measure => simp [intOf]; omega
    · obtain rfl : k = m := by omega
      have hge : ¬ (k : Int) < (n : Int) % 9 := by omega
      go_wp2
      exact bodyPost_ret (v := .agg #[.int .i64 (lyF n), .int .i64 ((n : Int) % 9)]) (by simp [results, Tryd.results29, go_sem, HL.out]) rfl ⟨rfl, (by repeat (first | exact Below.refl _ _ | assumption | (refine Below.setCell ?_ (by dsimp only; omega) _) | (refine Below.alloc ?_ (by first | (simp only [World.size_alloc, World.size_setCell, World.size_drew]; omega) | omega) _) | apply Below.drew | (refine Below.trans ?_ (Below.mono (by assumption) (by first | (simp only [World.size_alloc, World.size_setCell, World.size_drew]; omega) | omega)))))⟩
end Go.Proofs.YtiocomefkckbfaaDoor
set_option linter.unusedSimpArgs false
set_option linter.unusedVariables false
namespace Go.Proofs.YtiocomefkckbfaaDoor
open Go.RowKit Go.Maps Go.WideMaps

theorem lacks_more {H H' : List HoldD} {L L' : List Sl} {ti g c lk : Int} {P M : List Int} (h : (lacks H L ti g c lk P M == 0) = true) (hH : ∀ x ∈ H, x ∈ H') (hL : ∀ s ∈ L, s ∈ L') : (lacks H' L' ti g c lk P M == 0) = true := by
  obtain ⟨h1, h2, h3⟩ := lacks_ok.1 h
  refine lacks_ok.2 ⟨h1, ?_, fun k hk => hL _ (h3 k hk)⟩
  obtain ⟨x, hx, hx2⟩ := List.any_eq_true.1 h2
  exact List.any_eq_true.2 ⟨x, hH x hx, hx2⟩
theorem mok_nil : MOk [] := fun i hi => by simp at hi
theorem lacks_like {H : List HoldD} {L : List Sl} {ti g c lk lk2 : Int} {P M : List Int} (h : (lacks H L ti g c lk P M == 0) = true) (hl : Bts lk2 0 9) : (lacks H L ti g c lk2 P [] == 0) = true := by
  obtain ⟨⟨⟨h1, h2, h3, h4, h5⟩, h6, h7⟩, h8, h9⟩ := lacks_ok.1 h
  exact lacks_ok.2 ⟨⟨⟨h1, h2, h3, hl, mok_nil⟩, h6, h7⟩, h8, h9⟩
theorem lyF_bd (n : Nat) : 0 ≤ lyF n ∧ lyF n ≤ 255 := by
  unfold lyF
  have s1 := sz_pos ((n : Int) % 9)
  have q2 : 0 ≤ (n : Int) * 37 % 256 := by omega
  have q3 : (n : Int) * 37 % 256 < 256 := by omega
  have z1 : 0 ≤ (n : Int) * 37 % 256 / sz ((n : Int) % 9) := Int.ediv_nonneg q2 (by omega)
  have z2 : (n : Int) * 37 % 256 / sz ((n : Int) % 9) * sz ((n : Int) % 9) ≤ (n : Int) * 37 % 256 := Int.ediv_mul_le _ (by omega)
  have z3 : 0 ≤ (n : Int) * 37 % 256 / sz ((n : Int) % 9) * sz ((n : Int) % 9) := Int.mul_nonneg z1 (by omega)
  omega
/-- A seal ahead of others. -/
theorem Sls.cons {w : World} {v u : Value} {ds : List SlV} {L : List Sl} {x t f n : Int} {p : List Int} (hr : Rows w v 5 encS ((x, t, f, n, u) :: ds)) (hu : Ints w u p) (hl : ds.length = L.length) (hp : ∀ (k : Nat) (s : Sl), L[k]? = some s → ∃ u : Value, ds[k]? = some (s.1, s.2.1, s.2.2.1, s.2.2.2.1, u) ∧ Ints w u s.2.2.2.2) : Sls w v ((x, t, f, n, p) :: L) :=
  ⟨_, hr, by simp [hl], fun k s hk => by
    cases k with
    | zero => simp at hk; subst hk; exact ⟨u, rfl, hu⟩
    | succ k => exact hp k s (by simpa using hk)⟩
theorem sls_one {w : World} {ds : List SlV} {L : List Sl} (hl : ds.length = L.length) (hp : ∀ (k : Nat) (s : Sl), L[k]? = some s → ∃ u : Value, ds[k]? = some (s.1, s.2.1, s.2.2.1, s.2.2.2.1, u) ∧ Ints w u s.2.2.2.2) : ∀ d ∈ ds, ∀ u ∈ encS d, u.oneCell' = true := fun d hd => by
  obtain ⟨k, hk, e⟩ := List.mem_iff_getElem.1 hd
  obtain ⟨s, hs⟩ := get_lt (L := L) (k := k) (by rw [← hl]; exact hk)
  obtain ⟨u, a, b⟩ := hp k s hs
  rw [List.getElem?_eq_getElem hk, e] at a
  injection a with a
  refine one_encS d ?_
  rw [a]
  obtain ⟨ao, c, e2, -⟩ := b.ex
  show u.oneCell' = true
  rw [e2]; rfl
set_option maxRecDepth 100000 in
set_option maxHeartbeats 8000000 in
theorem FnSealMore_walk (a0 a1 : Option Addr) (n0 c0 n1 d1 : Nat) (a : Addr) (w : World) (h0 : Given w (.slice a0 n0 c0)) (h1 : Given w (.slice a1 n1 d1)) (hE : EPath w a) (htab : Tab w) :
    Calls Tryd.prog 10 #[.slice a0 n0 c0, .slice a1 n1 d1] w fun e w' => e = .returned (.bool true) ∧ Below w.heap.size w w' := by
  by_cases hn0 : 1048576 < n0
  · have e0 : decide (1048576 < (n0 : Int)) = true := by simp; omega
    go_enter Tryd.func10, Tryd.ntmps10
    go_wp2
    go_ret
    exact ⟨rfl, Below.refl _ _⟩
  have e0 : decide (1048576 < (n0 : Int)) = false := by simp; omega
  by_cases hn1 : 1048576 < n1
  · have e1 : decide (1048576 < (n1 : Int)) = true := by simp; omega
    go_enter Tryd.func10, Tryd.ntmps10
    go_wp2
    go_ret
    exact ⟨rfl, Below.refl _ _⟩
  have e1 : decide (1048576 < (n1 : Int)) = false := by simp; omega
  have hF := Fb.start w
  go_enter Tryd.func10, Tryd.ntmps10
  go_wp2_with fail
  refine (drawSealOk_any _ _ h0).mono ?_; rintro e w1 ⟨hv, lv, pv, mv, H, L, g, c, lk, ti, P, M, rfl, hH, hS, hp, hm, hP4, hM9, hH5, hL8, hLs, ht0, ht6, hb1⟩
  clear h0
  obtain ⟨o1, c1, rfl, hnc, hcc, -⟩ := hp.ex
  obtain ⟨o2, c2, rfl, -⟩ := hm.ex
  replace hF := (hF.below hb1).alloc [.int .i64 g, .int .i64 c, .slice o1 P.length c1, .int .i64 lk, .slice o2 M.length c2] 35
  have hb2 := (Below.refl w1.heap.size w1).alloc (Nat.le_refl _) (.cells #[.int .i64 g, .int .i64 c, .slice o1 P.length c1, .int .i64 lk, .slice o2 M.length c2] 35)
  replace hp := Rows.below hp hb2
  replace hm := Rows.below hm hb2
  replace hH := hH.below hb2
  replace hS := hS.below hb2
  replace hE := (hE.below hb1).below hb2
  replace htab := tab_below (tab_below htab hb1) hb2
  obtain ⟨n5, hn5⟩ : ∃ n, w1.heap.size = n := ⟨_, rfl⟩
  rw [hn5] at hF
  clear hb1 hb2
  have HLs := Lib.hid hLs
  clear hLs
  have o := hF.own; simp only [World.size_alloc, World.size_drew, World.size_setCell, List.mem_cons, List.not_mem_nil, or_false, forall_eq_or_imp, forall_eq, At, and_true, Nat.zero_add, Nat.reduceAdd, List.set_cons_zero, List.set_cons_succ] at o
  have HP4 := Lib.hid hP4
  have hPl := hP4.1
  clear hP4
  go_wp2_with fail
  go_fit (iSealOk_any hv lv H L g c lk _ _ P M ti a _ hH hS hp hm hE htab (by omega) (by omega) HLs.out); rintro e w2 ⟨rfl, hb2⟩
  replace hF := hF.below hb2
  replace hp := Rows.below hp hb2
  replace hm := Rows.below hm hb2
  replace hE := hE.below hb2
  replace htab := tab_below htab hb2
  replace hH := hH.below hb2
  replace hS := hS.below hb2
  clear o hb2
  have o := hF.own; simp only [World.size_alloc, World.size_drew, World.size_setCell, List.mem_cons, List.not_mem_nil, or_false, forall_eq_or_imp, forall_eq, At, and_true, Nat.zero_add, Nat.reduceAdd, List.set_cons_zero, List.set_cons_succ] at o
  go_wp2_with fail
  go_fit (sSealOk_any hv lv H L g c lk _ _ P M ti _ hH hS hp hm (by omega)); rintro e w3 ⟨rfl, hb3⟩
  replace hF := hF.below hb3
  replace hp := Rows.below hp hb3
  replace hm := Rows.below hm hb3
  replace hE := hE.below hb3
  replace htab := tab_below htab hb3
  replace hH := hH.below hb3
  replace hS := hS.below hb3
  clear o hb3
  have o := hF.own; simp only [World.size_alloc, World.size_drew, World.size_setCell, List.mem_cons, List.not_mem_nil, or_false, forall_eq_or_imp, forall_eq, At, and_true, Nat.zero_add, Nat.reduceAdd, List.set_cons_zero, List.set_cons_succ] at o
  obtain ⟨B, hB⟩ : ∃ B, (lacks H L ti g c lk P M == 0) = B := ⟨_, rfl⟩
  rw [hB]
  cases B with
  | false =>
    go_wp2_with fail
    have cS := sSealOk_any hv lv H L g c lk _ _ P M ti _ hH hS hp hm (by omega)
    rw [hB] at cS
    clear hB
    go_fit cS; rintro e w4 ⟨rfl, hb4⟩
    replace hF := hF.below hb4
    clear hb4 cS
    go_wp2
    go_ret
    exact ⟨rfl, hF.kp⟩
  | true =>
    have HB := Lib.hid hB
    clear hB
    have hly := lyF_bd n1
    obtain ⟨ds, hr, hdl, hdp⟩ := hS.ex
    have HD := Lib.hid hdp
    have HDL := Lib.hid hdl
    have HR := Lib.hid hr
    clear hdl hdp hr
    have m0 : (0 : Int) ≤ (n1 : Int) := by omega
    go_wp2_with fail
    have hb4 := (Below.refl w3.heap.size w3).alloc (Nat.le_refl _) (.cells #[.int .i64 g, .int .i64 c, .slice o1 P.length c1, .int .i64 ((n1 : Int) % 10), .slice none 0 0] 35)
    replace hF := hF.alloc [.int .i64 g, .int .i64 c, .slice o1 P.length c1, .int .i64 ((n1 : Int) % 10), .slice none 0 0] 35
    go_fit (lyRange_any n1 (by omega) _); rintro e w5 ⟨rfl, hb5⟩
    have hb35 := hb4.trans (hb5.mono hb4.size)
    replace hF := hF.below hb5
    have HK5 := Lib.hid hb35
    replace hp := Rows.below hp hb35
    replace hm := Rows.below hm hb35
    replace hE := hE.below hb35
    replace htab := tab_below htab hb35
    replace hH := hH.below hb35
    replace hS := hS.below hb35
    clear o hb4 hb5 hb35
    have o := hF.own; simp only [World.size_alloc, World.size_drew, World.size_setCell, List.mem_cons, List.not_mem_nil, or_false, forall_eq_or_imp, forall_eq, At, and_true, Nat.zero_add, Nat.reduceAdd, List.set_cons_zero, List.set_cons_succ] at o
    obtain ⟨y1, hy1⟩ : ∃ z, lyF n1 = z := ⟨_, rfl⟩
    obtain ⟨y2, hy2⟩ : ∃ z, (n1 : Int) % 9 = z := ⟨_, rfl⟩
    have hy2b : 0 ≤ y2 ∧ y2 ≤ 8 := by omega
    rw [hy1] at hly
    have HY := Lib.hid (show Calls Tryd.prog 29 = Calls Tryd.prog 29 from rfl)
    have hLy := Lib.hid (fun w => (show Calls Tryd.prog 29 #[.int .i64 n1] w fun e w' => e = .returned (.agg #[.int .i64 y1, .int .i64 y2]) ∧ Below w.heap.size w w' from by have := lyRange_any n1 (by omega) w; rwa [hy1, hy2] at this))
    rw [hy1, hy2]
    clear hy1 hy2 HY
    have hOwn : Own 28 ((w5.alloc (.cells #[.int .i64 1] 3)).alloc (.cells #[.int .i64 1, .int .i64 2, .int .i64 y1, .int .i64 y2, .slice (some ⟨w5.heap.size, 0, none⟩) 1 1] 28)) (w5.heap.size + 1) (.slice (some ⟨w5.heap.size + 1, 0, none⟩) 1 1) 5 encS [((1, 2, y1, y2, .slice (some ⟨w5.heap.size, 0, none⟩) 1 1) : SlV)] := by
      have := Own.lit 28 (w5.alloc (.cells #[.int .i64 1] 3)) (w5.heap.size + 1) 5 encS [((1, 2, y1, y2, .slice (some ⟨w5.heap.size, 0, none⟩) 1 1) : SlV)] (fun _ => rfl) (by simp) (by simp)
      simpa [encS] using this
    have hpath : Ints (w5.alloc (.cells #[.int .i64 1] 3)) (.slice (some ⟨w5.heap.size, 0, none⟩) 1 1) [1] := by
      have := (Own.lit 3 w5 0 1 encI [1] (fun _ => rfl) (Nat.zero_le _) (by simp)).rows (fun _ => rfl)
      simpa [encI] using this
    have HO := Lib.hid hOwn
    have HPA := Lib.hid hpath
    have HON := Lib.hid (sls_one HDL.out HD.out)
    have hKw := ((Below.refl w5.heap.size w5).alloc (Nat.le_refl _) (.cells #[.int .i64 1] 3)).alloc (by simp) (.cells #[.int .i64 1, .int .i64 2, .int .i64 y1, .int .i64 y2, .slice (some ⟨w5.heap.size, 0, none⟩) 1 1] 28)
    have HKW := Lib.hid hKw
    clear hOwn hpath hKw
    go_wp2_with (at_builtin; refine wpList_appsZ rfl _ _ 23 rfl 28 (.agg #[.int .i64 0, .int .i64 0, .int .i64 0, .int .i64 0, .slice none 0 0]) 5 56 Tryd.underlying23 infoSl rfl (by decide) (by decide) (w5.heap.size + 1) encS (fun _ => rfl) _ _ rfl HO.out _ ds HON.out rfl ((HR.out.below HK5.out).below HKW.out) (by have := HDL.out; simp only [List.length_cons, List.length_nil]; omega) (by simp) ?_; intro v6 w6 hO6 hg6 hb6 hf6)
    have hQ6 : Below w5.heap.size w5 w6 := HKW.out.trans (hb6.mono (by omega))
    have hb6p : Below (w5.alloc (.cells #[.int .i64 1] 3)).heap.size (w5.alloc (.cells #[.int .i64 1] 3)) w6 := by
      simp only [World.size_alloc]
      exact Below.trans ((Below.refl _ _).alloc (by simp) _) hb6
    have hM6 : Sls w6 v6 ((1, 2, y1, y2, [1]) :: L) := Sls.cons (hO6.rows (fun _ => rfl)) (Rows.below HPA.out hb6p) HDL.out (fun k s hk => by obtain ⟨u, e, i⟩ := HD.out k s hk; exact ⟨u, e, Rows.below (Rows.below i HK5.out) hQ6⟩)
    replace hF := hF.below hQ6
    replace hp := Rows.below hp hQ6
    replace hm := Rows.below hm hQ6
    replace hE := hE.below hQ6
    replace htab := tab_below htab hQ6
    replace hH := hH.below hQ6
    replace hS := hS.below hQ6
    clear hO6 hg6 hb6 hf6 hb6p hQ6 o
    go_fit (hLy.out _); rintro e w7 ⟨rfl, hb7⟩
    replace hM6 := hM6.below hb7
    replace hF := hF.below hb7
    replace hp := Rows.below hp hb7
    replace hm := Rows.below hm hb7
    replace hE := hE.below hb7
    replace htab := tab_below htab hb7
    replace hH := hH.below hb7
    replace hS := hS.below hb7
    clear hb7
    have o := hF.own; simp only [World.size_alloc, World.size_drew, World.size_setCell, List.mem_cons, List.not_mem_nil, or_false, forall_eq_or_imp, forall_eq, At, and_true, Nat.zero_add, Nat.reduceAdd, List.set_cons_zero, List.set_cons_succ] at o
    have hOw2 : Own 41 (w7.alloc (.cells #[.int .i64 3, .int .i64 y1, .int .i64 y2] 41)) w7.heap.size (.slice (some ⟨w7.heap.size, 0, none⟩) 1 1) 3 HoldD.enc [⟨3, y1, y2⟩] := by
      have := Own.lit 41 w7 w7.heap.size 3 HoldD.enc [⟨3, y1, y2⟩] (fun _ => rfl) (Nat.le_refl _) (by simp)
      simpa [HoldD.enc] using this
    have HO2 := Lib.hid hOw2
    have HHr := Lib.hid hH
    have hKw := (Below.refl w7.heap.size w7).alloc (Nat.le_refl _) (.cells #[.int .i64 3, .int .i64 y1, .int .i64 y2] 41)
    have HKW2 := Lib.hid hKw
    clear hOw2 hKw
    go_wp2_with (at_builtin; refine wpList_appsZ rfl _ _ 42 rfl 41 (.agg #[.int .i64 0, .int .i64 0, .int .i64 0]) 3 24 Tryd.underlying42 infoHold rfl (by decide) (by decide) w7.heap.size HoldD.enc (fun _ => rfl) _ _ rfl HO2.out _ H (fun x _ u hu => by simp [HoldD.enc] at hu; rcases hu with rfl | rfl | rfl <;> rfl) rfl (HHr.out.below HKW2.out) (by simp only [List.length_cons, List.length_nil]; omega) (by simp) ?_; intro v8 w8 hO8 hg8 hb8 hf8; have hQ8 : Below w7.heap.size w7 w8 := HKW2.out.trans hb8; have hH8 := hO8.rows (fun _ => rfl); clear hO8 hg8 hb8 hf8; replace hF := hF.below hQ8; clear o; have o := hF.own; simp only [World.size_alloc, World.size_drew, World.size_setCell, List.mem_cons, List.not_mem_nil, or_false, forall_eq_or_imp, forall_eq, At, and_true, Nat.zero_add, Nat.reduceAdd, List.set_cons_zero, List.set_cons_succ] at o)
    replace hp := Rows.below hp hQ8
    replace hm := Rows.below hm hQ8
    replace hE := hE.below hQ8
    replace htab := tab_below htab hQ8
    replace hH := hH.below hQ8
    replace hS := hS.below hQ8
    replace hM6 := hM6.below hQ8
    clear hQ8
    have HSm : ∀ s ∈ (((1, 2, y1, y2, [1]) : Sl) :: L), SmS s := fun s hs => by
      rcases List.mem_cons.1 hs with rfl | hs
      · exact ⟨⟨by show (-1000000 : Int) ≤ 1; omega, by show (1 : Int) ≤ 1000000; omega⟩, ⟨by show (-1000000 : Int) ≤ 2; omega, by show (2 : Int) ≤ 1000000; omega⟩, ⟨by show (-1000000 : Int) ≤ y1; omega, by show y1 ≤ 1000000; omega⟩, ⟨by show (-1000000 : Int) ≤ y2; omega, by show y2 ≤ 1000000; omega⟩, by simp, fun x hx => by simp at hx; omega⟩
      · exact HLs.out s hs
    have cA := iSealOk_any v8 v6 ([⟨3, y1, y2⟩] ++ H) ((1, 2, y1, y2, [1]) :: L) g c lk _ _ P M ti a _ hH8 hM6 hp hm hE htab (by omega) (by simp only [List.length_cons]; omega) HSm
    rw [lacks_more HB.out (fun x hx => List.mem_append_right _ hx) (fun s hs => List.mem_cons_of_mem _ hs)] at cA
    have CA := Lib.hid cA
    clear cA HSm
    go_fit CA.out; rintro e w9 ⟨rfl, hb9⟩
    replace hF := hF.below hb9
    replace hp := Rows.below hp hb9
    replace hm := Rows.below hm hb9
    replace hE := hE.below hb9
    replace htab := tab_below htab hb9
    replace hH := hH.below hb9
    replace hS := hS.below hb9
    clear o hb9
    have o := hF.own; simp only [World.size_alloc, World.size_drew, World.size_setCell, List.mem_cons, List.not_mem_nil, or_false, forall_eq_or_imp, forall_eq, At, and_true, Nat.zero_add, Nat.reduceAdd, List.set_cons_zero, List.set_cons_succ] at o
    have cB := iSealOk_any hv lv H L g c ((n1 : Int) % 10) _ (.slice none 0 0) P [] ti a _ hH hS hp (ints_nil w9 none 0 (by omega)) hE htab (by omega) (by omega) HLs.out
    rw [lacks_like HB.out (by unfold Bts; omega)] at cB
    have CB := Lib.hid cB
    clear cB hM6 hH8
    go_wp2_with fail
    go_fit CB.out; rintro e w10 ⟨rfl, hb10⟩
    replace hF := hF.below hb10
    clear hb10
    go_wp2
    go_ret
    exact ⟨rfl, hF.kp⟩
end Go.Proofs.YtiocomefkckbfaaDoor
