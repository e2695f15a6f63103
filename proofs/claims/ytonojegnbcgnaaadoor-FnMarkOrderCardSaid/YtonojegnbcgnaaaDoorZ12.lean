/- Two rows of numbers are the same. Marks put in, by the model. Rows of numbers: a number put in at a place (the library's Insert). -/
import Derived.Test.YtonojegnbcgnaaaDoorZ5
import Derived.Test.YtonojegnbcgnaaaDoorZ8
import Derived.Test.YtonojegnbcgnaaaDoorZ11
import Derived.Shelf.Spec.SlicesInsert
import Derived.Lib.AppendZerosOnto
import Derived.Laws.NewBlocks
import Derived.Laws.CopyOwn
set_option linter.unusedSimpArgs false
set_option linter.unusedVariables false
namespace Go.Proofs.YtonojegnbcgnaaaDoor
open Go.RowKit

theorem Ints.sl {w : World} {v : Value} {L : List Int} (h : Ints w v L) : ∃ ao n cap, v = .slice ao n cap ∧ Hid (L.length = n) ∧ n ≤ cap ∧ cap ≤ 9223372036854775807 := by
  obtain ⟨ao, cap, e, h1, h2, _⟩ := h.ex
  exact ⟨ao, _, cap, e, rfl, h1, h2⟩
theorem ints_nil (w : World) (ao : Option Addr) (cap : Nat) (hc : cap ≤ 9223372036854775807) : Ints w (.slice ao 0 cap) [] := Rows.nil w ao cap hc _ _
theorem take_ne {L K : List Int} {k : Nat} {p q : Int} (h1 : L[k]? = some p) (h2 : K[k]? = some q) (h : p ≠ q) : decide (L = K) = false := by
  rw [decide_eq_false_iff_not]; rintro rfl; rw [h1] at h2; injection h2 with h2; exact h h2
theorem take_eq {L K : List Int} {k : Nat} {p q : Int} (h0 : L.take k = K.take k) (h1 : L[k]? = some p) (h2 : K[k]? = some q) (h : p = q) : L.take (k + 1) = K.take (k + 1) := by
  rw [take_succ' h1, take_succ' h2, h0, h]
set_option maxHeartbeats 1000000 in
theorem lyInts_any (v1 v2 : Value) (L K : List Int) (w : World) (h1 : Ints w v1 L) (h2 : Ints w v2 K) :
    Calls Tryd.prog 32 #[v1, v2] w fun e w' => e = .returned (.bool (decide (L = K))) ∧ Below w.heap.size w w' := by
  have hF := Fb.start w
  obtain ⟨ao, n, cap, rfl, hn, hnc, hcap⟩ := h1.sl
  obtain ⟨bo, m, cap2, rfl, hm, hmc, hcap2⟩ := h2.sl
  by_cases hnm : n = m
  · subst hnm
    have d1 : ((n : Int) != (n : Int)) = false := by simp
    have HL := Lib.hid h1
    have HK := Lib.hid h2
    clear h1 h2
    go_enter Tryd.func32, Tryd.ntmps32
    go_wp2
    go_loopw [5] (fun i wr => ∃ k : Nat, k ≤ n ∧ i = .int .i64 k ∧ Hid (L.take k = K.take k) ∧ Fb w wr []) (fun i _ => n - (intOf i).toNat)
    case atStart => exact ⟨0, Nat.zero_le _, rfl, by show _ = _; simp, hF⟩
    case round =>
      clear hF
      obtain ⟨k, hk, rfl, ht, hF⟩ := hrel
      by_cases hlt : k < n
      · obtain ⟨b1, o1, rfl⟩ := HL.out.some (by omega)
        obtain ⟨b2, o2, rfl⟩ := HK.out.some (by omega)
        obtain ⟨p, hp⟩ := get_of hn.out hlt
        obtain ⟨q, hq⟩ := get_of hm.out hlt
        have HP := Lib.hid hp
        have HQ := Lib.hid hq
        clear hp hq
        have f1 := fun z : Cl wr.heap.size wr => Cl.old hF z (HL.out.get HP.out)
        have f2 := fun z : Cl wr.heap.size wr => Cl.old hF z (HK.out.get HQ.out)
        by_cases hpq : p = q
        · have d2 : (p != q) = false := by simp [hpq]
          have ht2 := Lib.hid (take_eq ht.out HP.out HQ.out hpq)
          clear hpq
          go_wp2
          first | refine wp_region_new (by kernel_rfl) (by kernel_rfl) ?_ | refine wp_region_lex ?_
          repeat (any_goals (first | go_big_quiet_step ((fail)) | (refine wpQuiet_step (fun K hK => ?_); go_simp; split <;> (rename_i hg; refine hK _ ?_; clear hK K; simp only [hg, decide_true, decide_false]))))
          all_goals (refine wpQuiet_nil ?_; intro x)
          go_wp2
          go_roundw
          case rel => exact ⟨k + 1, by omega, by go_num, ht2, hF.cl x⟩
          case measure => simp [intOf]; omega
        · have d2 : (p != q) = true := by simp [hpq]
          have ht2 := Lib.hid (take_ne HP.out HQ.out hpq)
          clear hpq
          go_wp2
          first | refine wp_region_new (by kernel_rfl) (by kernel_rfl) ?_ | refine wp_region_lex ?_
          repeat (any_goals (first | go_big_quiet_step ((fail)) | (refine wpQuiet_step (fun K hK => ?_); go_simp; split <;> (rename_i hg; refine hK _ ?_; clear hK K; simp only [hg, decide_true, decide_false]))))
          all_goals (refine wpQuiet_nil ?_; intro x)
          go_wp2
          go_ret
          exact ⟨by rw [ht2.out]; rfl, (hF.cl x).kp⟩
      · have hd : Hid (decide (L = K) = true) := by
          have := ht.out
          rw [List.take_of_length_le (by rw [hn.out]; omega), List.take_of_length_le (by rw [hm.out]; omega)] at this
          exact decide_eq_true this
        go_wp2
        go_ret
        exact ⟨by rw [hd.out]; rfl, hF.kp⟩
  · have d1 : ((n : Int) != (m : Int)) = true := by simp; omega
    have hd : Hid (decide (L = K) = false) := decide_eq_false (fun e => hnm (by rw [← hn.out, ← hm.out, e]))
    clear h1 h2 hnm
    go_enter Tryd.func32, Tryd.ntmps32
    go_wp2
    go_ret
    exact ⟨by rw [hd.out]; rfl, hF.kp⟩
end Go.Proofs.YtonojegnbcgnaaaDoor
set_option linter.unusedSimpArgs false
set_option linter.unusedVariables false
namespace Go.Proofs.YtonojegnbcgnaaaDoor
open Go.RowKit

theorem mki_snoc {m x : Int} {l : List Int} (h : (l ++ [x]).Pairwise (· < ·)) (hx : m < x) : mki m (l ++ [x]) = mki m l ++ [x] := by
  have hl := (List.pairwise_append.1 h)
  refine asc_ext (pair_mki h) ?_ (fun y => ?_)
  · rw [List.pairwise_append]
    exact ⟨pair_mki hl.1, by simp, fun a ha b hb => by
      rw [List.mem_singleton.1 hb]
      exact (mem_mki.1 ha).elim (fun e => by omega) (fun e => hl.2.2 a e x (by simp))⟩
  · rw [mem_mki, List.mem_append, List.mem_append, mem_mki, or_assoc]
theorem mki_end {m : Int} {l : List Int} (h : l.Pairwise (· < ·)) (hx : ∀ x ∈ l, x < m) : mki m l = l ++ [m] := by
  have := mki_at (m := m) (i := l.length) h (by rwa [List.take_length]) (by simp)
  simpa using this
theorem mki_new {m x : Int} {l : List Int} (h : (l ++ [x]).Pairwise (· < ·)) (hx : ∀ y ∈ l, y < m) (hm : m < x) : mki m (l ++ [x]) = l ++ [m] ++ [x] := by
  rw [mki_snoc h hm, mki_end (List.pairwise_append.1 h).1 hx]
set_option maxHeartbeats 2000000 in
theorem l4Mark_any (v : Value) (l : List Int) (m : Int) (w : World) (hv : Ints w v l) (hs : l.Pairwise (· < ·)) (hl : l.length ≤ 1000) :
    Calls Tryd.prog 41 #[v, .int .i64 m] w fun e w' => ∃ u, e = .returned u ∧ Own 3 w' w.heap.size u 1 encI (mki m l) ∧ Below w.heap.size w w' := by
  have hF := (Fb.start w).other (.cells #[] 3)
  have hO : Own 3 (w.alloc (.cells #[] 3)) w.heap.size (.slice (some ⟨w.heap.size, 0, none⟩) 0 0) 1 encI [] := Own.made _ _ _ _ _ (Nat.le_refl _)
  obtain ⟨ao, n, cap, rfl, hn, hnc, hcap⟩ := Ints.sl hv
  have HV := Lib.hid hv
  have HS := Lib.hid hs
  have hn1 : n ≤ 1000 := by have := hn.out; omega
  clear hv hs hl
  go_enter Tryd.func41, Tryd.ntmps41
  go_wp2
  go_loopw [5, 6, 7] (fun s5 s6 s7 wr => ∃ (k : Nat) (p : Bool) (L : List Int), k ≤ n ∧ s7 = .int .i64 k ∧ s6 = .bool p ∧ Hid ((p = false ∧ L = l.take k ∧ ∀ x ∈ l.take k, x < m) ∨ (p = true ∧ L = mki m (l.take k) ∧ ∃ y ∈ l.take k, m ≤ y)) ∧ Hid (L.length ≤ k + 1) ∧ Own 3 wr w.heap.size s5 1 encI L ∧ Fb w wr [] ∧ w.heap.size ≤ wr.heap.size) (fun _ _ s7 _ => n - (intOf s7).toNat)
  case atStart => exact ⟨0, false, [], Nat.zero_le _, rfl, rfl, Or.inl ⟨rfl, rfl, by simp⟩, by show _ ≤ _; simp, hO, hF, by simp⟩
  case round =>
    clear hO hF
    obtain ⟨k, p, L, hk, rfl, rfl, hp, hL, hO, hF, hsz⟩ := hrel
    have hLl := hL.out
    by_cases hlt : k < n
    · obtain ⟨b1, p1, rfl⟩ := Ints.some HV.out (by omega)
      obtain ⟨x, hx⟩ := get_of hn.out hlt
      have e1 := Ints.get HV.out hx
      have x1 := hF.old e1
      have htk := Lib.hid (take_succ' hx)
      have hpw : Hid ((l.take k ++ [x]).Pairwise (· < ·)) := by show List.Pairwise _ _; rw [← htk.out]; exact HS.out.sublist (List.take_sublist ..)
      clear hx
      rcases hp.out with ⟨rfl, rfl, hall⟩ | ⟨rfl, rfl, y, hy, hmy⟩
      · by_cases hxm : m ≤ x
        · have d1 : decide (m ≤ x) = true := decide_eq_true hxm
          by_cases hxe : x = m
          · subst hxe
            have d2 : (x != x) = false := by simp
            have hR : Hid (mki x (l.take (k + 1)) = l.take k ++ [x]) := by show _ = _; rw [htk.out]; exact mki_has hpw.out (by simp)
            go_wp2_with ((at_builtin; refine wpList_app rfl _ _ 25 rfl 3 (.int .i64 0) 1 8 Tryd.underlying25 infoInt rfl (by decide) (by decide) w.heap.size encI _ _ rfl (hO.alloc _) (_) ⟨_, 0, none⟩ 1 rfl rfl (cells_new _ _ _) (by simp [encI, Value.oneCell']) (by omega) (by simp only [World.size_alloc]; omega) ?_; intro v' wx hO1 hg1 hb1 hf1; (replace hO := hO1; replace hF := (hF.other _).belowB hb1 (Nat.le_refl _) (by simp); have hsz9 := hb1.size; simp only [World.size_alloc] at hsz9; replace x1 := hF.old e1; clear hO1 hg1 hb1 hf1)))
            go_roundw
            case rel => exact ⟨k + 1, true, l.take k ++ [x], by omega, by go_num, rfl, Or.inr ⟨rfl, hR.out.symm, x, by rw [htk.out]; simp, Int.le_refl _⟩, by show _ ≤ _; simp; omega, hO, hF, by omega⟩
            case measure => simp [intOf]; omega
          · have d2 : (x != m) = true := by simp [hxe]
            have hR : Hid (mki m (l.take (k + 1)) = l.take k ++ [m] ++ [x]) := by show _ = _; rw [htk.out]; exact mki_new hpw.out hall (by omega)
            have hL9 : (l.take k ++ [m]).length ≤ 1002 := by simp; omega
            go_wp2_with ((at_builtin; refine wpList_app rfl _ _ 25 rfl 3 (.int .i64 0) 1 8 Tryd.underlying25 infoInt rfl (by decide) (by decide) w.heap.size encI _ _ rfl (hO.alloc _) (_) ⟨_, 0, none⟩ 1 rfl rfl (cells_new _ _ _) (by simp [encI, Value.oneCell']) (by omega) (by simp only [World.size_alloc]; omega) ?_; intro v' wx hO1 hg1 hb1 hf1; (replace hO := hO1; replace hF := (hF.other _).belowB hb1 (Nat.le_refl _) (by simp); have hsz9 := hb1.size; simp only [World.size_alloc] at hsz9; replace x1 := hF.old e1; clear hO1 hg1 hb1 hf1)))
            go_roundw
            case rel => exact ⟨k + 1, true, l.take k ++ [m] ++ [x], by omega, by go_num, rfl, Or.inr ⟨rfl, hR.out.symm, x, by rw [htk.out]; simp, hxm⟩, by show _ ≤ _; simp; omega, hO, hF, by omega⟩
            case measure => simp [intOf]; omega
        · have d1 : decide (m ≤ x) = false := decide_eq_false hxm
          have d2 : (x != m) = true := by simp; omega
          go_wp2_with ((at_builtin; refine wpList_app rfl _ _ 25 rfl 3 (.int .i64 0) 1 8 Tryd.underlying25 infoInt rfl (by decide) (by decide) w.heap.size encI _ _ rfl (hO.alloc _) (_) ⟨_, 0, none⟩ 1 rfl rfl (cells_new _ _ _) (by simp [encI, Value.oneCell']) (by omega) (by simp only [World.size_alloc]; omega) ?_; intro v' wx hO1 hg1 hb1 hf1; (replace hO := hO1; replace hF := (hF.other _).belowB hb1 (Nat.le_refl _) (by simp); have hsz9 := hb1.size; simp only [World.size_alloc] at hsz9; replace x1 := hF.old e1; clear hO1 hg1 hb1 hf1)))
          go_roundw
          case rel => exact ⟨k + 1, false, l.take k ++ [x], by omega, by go_num, rfl, Or.inl ⟨rfl, htk.out.symm, fun z hz => by
            rw [htk.out] at hz
            rcases List.mem_append.1 hz with hz | hz
            · exact hall z hz
            · rw [List.mem_singleton.1 hz]; omega⟩, by show _ ≤ _; simp; omega, hO, hF, by omega⟩
          case measure => simp [intOf]; omega
      · have hyx : y < x := (List.pairwise_append.1 hpw.out).2.2 y hy x (by simp)
        have d2 : (x != m) = true := by simp; omega
        have hR : Hid (mki m (l.take (k + 1)) = mki m (l.take k) ++ [x]) := by show _ = _; rw [htk.out]; exact mki_snoc hpw.out (by omega)
        go_wp2_with ((at_builtin; refine wpList_app rfl _ _ 25 rfl 3 (.int .i64 0) 1 8 Tryd.underlying25 infoInt rfl (by decide) (by decide) w.heap.size encI _ _ rfl (hO.alloc _) (_) ⟨_, 0, none⟩ 1 rfl rfl (cells_new _ _ _) (by simp [encI, Value.oneCell']) (by omega) (by simp only [World.size_alloc]; omega) ?_; intro v' wx hO1 hg1 hb1 hf1; (replace hO := hO1; replace hF := (hF.other _).belowB hb1 (Nat.le_refl _) (by simp); have hsz9 := hb1.size; simp only [World.size_alloc] at hsz9; replace x1 := hF.old e1; clear hO1 hg1 hb1 hf1)))
        go_roundw
        case rel => exact ⟨k + 1, true, mki m (l.take k) ++ [x], by omega, by go_num, rfl, Or.inr ⟨rfl, hR.out.symm, y, by rw [htk.out]; exact List.mem_append_left _ hy, hmy⟩, by show _ ≤ _; simp; omega, hO, hF, by omega⟩
        case measure => simp [intOf]; omega
    · have hkn : k = n := by omega
      subst hkn
      have htl : l.take k = l := List.take_of_length_le (by have := hn.out; omega)
      rw [htl] at hp
      rcases hp.out with ⟨rfl, rfl, hall⟩ | ⟨rfl, rfl, -⟩
      · have hR : Hid (mki m L = L ++ [m]) := mki_end HS.out hall
        go_wp2_with ((at_builtin; refine wpList_app rfl _ _ 25 rfl 3 (.int .i64 0) 1 8 Tryd.underlying25 infoInt rfl (by decide) (by decide) w.heap.size encI _ _ rfl (hO.alloc _) (_) ⟨_, 0, none⟩ 1 rfl rfl (cells_new _ _ _) (by simp [encI, Value.oneCell']) (by omega) (by simp only [World.size_alloc]; omega) ?_; intro v' wx hO1 hg1 hb1 hf1; (replace hO := hO1; replace hF := (hF.other _).belowB hb1 (Nat.le_refl _) (by simp); have hsz9 := hb1.size; simp only [World.size_alloc] at hsz9; clear hO1 hg1 hb1 hf1)))
        go_ret
        exact ⟨_, rfl, by rw [hR.out]; exact hO, hF.kp⟩
      · go_wp2
        go_ret
        exact ⟨_, rfl, hO, hF.kp⟩
end Go.Proofs.YtonojegnbcgnaaaDoor
set_option linter.unusedSimpArgs false
set_option linter.unusedVariables false
namespace Go.Proofs.YtonojegnbcgnaaaDoor
open Go.RowKit Go.Lib

theorem run_copy_rowN {P : Program} (w : World) (dT sT ty elem : TypeId) (g o dLen dCap : Nat) (a : Addr) (sLen sCap sz : Nat) (cur : Array Value) (t : TypeId) (cs : List Value)
    (hu : P.underlying dT = some (.slice elem)) (hs : (P.info? elem).map (·.size) = some sz)
    (hg : w.heap[g]? = some (.cells cur t (0, 0))) (hn : cs.length = Nat.min sLen dLen * sz)
    (hsrc : ∀ j v, cs[j]? = some v → w.cell? (a.add j) = some v) (hfit : o + cs.length ≤ cur.size) (h1 : ∀ v ∈ cs, v.oneCell' = true) :
    (Builtin.copy_ #[dT, sT] ty #[.slice (some ⟨g, o, none⟩) dLen dCap, .slice (some a) sLen sCap]).run P w =
      .ok (goInt (Nat.min sLen dLen)) (w.setRow g (cur.toList.take o ++ cs ++ cur.toList.drop (o + cs.length)).toArray) := by
  have hl := run_loadCells_list (P := P) w a cs hsrc
  have hst := run_storeCells_at P g o t cs 0 cur w hg (by simpa using hfit) h1
  cases hq : P.info? elem with
  | none => simp [hq] at hs
  | some i =>
    have hi : i.size = sz := by simpa [hq] using hs
    simp [Builtin.copy_, run_underlying hu, Builtin.lenOf, Builtin.firstCells, sizeOf, typeInfo, hq, hi, ← hn, hl, hst]
theorem int_one : ∀ (L : List Int), ∀ u ∈ L.flatMap encI, u.oneCell' = true := fun L u hu => by
  obtain ⟨x, _, hx⟩ := List.mem_flatMap.1 hu
  simp [encI] at hx; subst hx; rfl
theorem flat1 (L : List Int) : (L.flatMap encI).length = L.length := by rw [flat_len (enc := encI) (sz := 1) (fun _ => rfl) L, Nat.mul_one]
/-- The cells, written in this order or in that. -/
theorem lay_g {R : List Value} {E D : List Value} {o : Nat} (hR : o + E.length + D.length ≤ R.length) (ho : o ≤ R.length) :
    ((((R.take o ++ E ++ R.drop (o + E.length)).take (o + E.length)) ++ D ++ (R.take o ++ E ++ R.drop (o + E.length)).drop (o + E.length + D.length))).take (o + E.length + D.length) = R.take o ++ E ++ D := by
  have h1 : (R.take o ++ E).length = o + E.length := by simp; omega
  rw [show (R.take o ++ E ++ R.drop (o + E.length)).take (o + E.length) = R.take o ++ E by rw [← h1]; exact List.take_left]
  rw [show o + E.length + D.length = (R.take o ++ E ++ D).length by rw [List.length_append, h1]]
  exact List.take_left
theorem lay_s {R : List Value} {E D : List Value} {o : Nat} (hR : o + E.length + D.length ≤ R.length) (R1 : List Value) (h1 : R1 = R.take (o + E.length) ++ D ++ R.drop (o + E.length + D.length)) :
    (R1.take o ++ E ++ R1.drop (o + E.length)).take (o + E.length + D.length) = R.take o ++ E ++ D := by
  have hl : (R.take (o + E.length)).length = o + E.length := by simp; omega
  have e1 : R1.take o = R.take o := by
    rw [h1, List.append_assoc, List.take_append_of_le_length (by rw [hl]; omega), List.take_take, Nat.min_eq_left (by omega)]
  have e2 : R1.drop (o + E.length) = D ++ R.drop (o + E.length + D.length) := by
    rw [h1, List.append_assoc]
    exact List.drop_left' hl
  rw [e1, e2, ← List.append_assoc]
  have h3 : (R.take o ++ E ++ D).length = o + E.length + D.length := by simp; omega
  rw [← h3]; exact List.take_left
theorem grown_setRow (w : World) (g : Nat) (cs : Array Value) : w.grownBy (w.setRow g cs) (some g) := ⟨rfl, rfl, rfl, by simp, fun k _ hne => setRow_other w g k cs (fun e => hne (by rw [e]))⟩
theorem grown_trans {w w1 w2 : World} {row : Option Nat} (h : w.grownBy w1 row) (k : w1.grownBy w2 row) : w.grownBy w2 row :=
  ⟨k.os.trans h.os, k.tape.trans h.tape, k.output.trans h.output, Nat.le_trans h.size k.size, fun i hi hne => (k.block i (Nat.lt_of_lt_of_le hi h.size) hne).trans (h.block i hi hne)⟩
theorem grown_drew (w : World) (row : Option Nat) : w.grownBy w.drew row := ⟨rfl, rfl, rfl, Nat.le_refl _, fun _ _ _ => rfl⟩
theorem grown_any {w w' : World} (h : Below w.heap.size w w') (row : Option Nat) : w.grownBy w' row := ⟨h.os, h.tape, h.output, h.size, fun k hk _ => h.block k hk⟩
set_option maxHeartbeats 1000000 in
/-- At the end. -/
theorem InsEndI_any (v : Value) (T : List Int) (x : Int) (B be : Nat) (w : World) (hO : Own 3 w B v 1 encI T) (hT : T.length ≤ 100) (hB : B ≤ w.heap.size) (hbe : w.heap[be]? = some (.cells #[.int .i64 x] 3 (0, 0))) :
    Calls Tryd.prog 45 #[v, .int .i64 T.length, .slice (some ⟨be, 0, none⟩) 1 1] w fun e w' => ∃ u, e = .returned u ∧ Own 3 w' B u 1 encI (T ++ [x]) ∧ Below B w w' ∧ w.grownBy w' v.ownBlock ∧ Frsh w v u := by
  have hK : Hid (Rows w (.slice (some ⟨be, 0, none⟩) 1 1) 1 encI [x]) := by
    refine ⟨⟨some ⟨be, 0, none⟩, 1, rfl, by simp, by omega, fun k x hk => ⟨be, 0, rfl, fun j u hj => ?_⟩⟩⟩
    have hk0 : k = 0 := by
      have := (List.getElem?_eq_some_iff.1 hk).1
      simp at this; exact this
    subst hk0
    simp at hk; subst hk
    unfold World.cell?
    simp only [hbe]
    simpa [encI] using hj
  obtain ⟨ao, c, hsl⟩ := hO.sl
  subst hsl
  obtain ⟨n, hn⟩ : ∃ n, Hid (T.length = n) := ⟨_, rfl⟩
  rw [hn.out] at hO hT ⊢
  obtain ⟨_, hcases⟩ := id hO
  have hnc : n ≤ c ∧ c ≤ 9223372036854775807 ∧ (ao = none → n = 0 ∧ c = 0) := by
    rcases hcases with ⟨e1, e2⟩ | ⟨g', cap, cur, e1, _, _, h4, h5, _⟩
    · injection e1 with e1 e3 e4; subst e3; subst e4; exact ⟨by omega, by omega, fun _ => ⟨rfl, rfl⟩⟩
    · injection e1 with e1 e3 e4; subst e3; subst e4; exact ⟨h4, by unfold maxLen at h5; omega, fun e => by rw [e1] at e; cases e⟩
  obtain ⟨h1, h2, h3⟩ := hnc
  have HO := Lib.hid hO
  clear hO hcases
  cases ao with
  | none =>
    obtain ⟨rfl, rfl⟩ := h3 rfl
    clear h3
    go_enter Tryd.func45, Tryd.ntmps45
    go_wp2_with (at_builtin; refine wpList_apps rfl _ _ 25 rfl 3 (.int .i64 0) 1 8 Tryd.underlying25 infoInt rfl (by decide) (by decide) B encI (fun _ => rfl) (fun _ u hu => by simp [encI] at hu; subst hu; rfl) _ T rfl HO.out be 0 1 1 [x] rfl hK.out (by rw [hn.out]; omega) hB ?_; intro v' wx hO1 hg1 hb1 hf1 hz1)
    go_ret
    exact ⟨_, rfl, hO1, hb1, hg1, hf1⟩
  | some aa =>
    clear h3
    go_enter Tryd.func45, Tryd.ntmps45
    go_wp2_with (at_builtin; refine wpList_apps rfl _ _ 25 rfl 3 (.int .i64 0) 1 8 Tryd.underlying25 infoInt rfl (by decide) (by decide) B encI (fun _ => rfl) (fun _ u hu => by simp [encI] at hu; subst hu; rfl) _ T rfl HO.out be 0 1 1 [x] rfl hK.out (by rw [hn.out]; omega) hB ?_; intro v' wx hO1 hg1 hb1 hf1 hz1)
    all_goals go_ret
    all_goals exact ⟨_, rfl, hO1, hb1, hg1, hf1⟩
theorem rowI {E : TypeId} {w : World} {B n c : Nat} {aa : Addr} {T : List Int} (h : Own E w B (.slice (some aa) n c) 1 encI T) : ∃ g cur, aa = ⟨g, 0, none⟩ ∧ B ≤ g ∧ g < w.heap.size ∧ w.heap[g]? = some (.cells cur E (0, 0)) ∧ T.length = n ∧ n ≤ c ∧ c ≤ maxLen ∧ cur.size = c ∧ cur.toList.take n = T.flatMap encI := by
  obtain ⟨_, ⟨e1, _⟩ | ⟨g, cap, cur, e1, h2, h3, h4, h5, h6, h7⟩⟩ := h
  · cases e1
  · injection e1 with e1 e2 e3
    injection e1 with e1
    subst e3
    refine ⟨g, cur, e1, h2, (Array.getElem?_eq_some_iff.1 h3).1, h3, e2.symm, by omega, h5, by rw [h6, Nat.mul_one], by rw [e2, ← h7, Nat.mul_one]⟩
theorem ownI {E : TypeId} {w : World} {B n c g : Nat} {cur : Array Value} {T : List Int} (hB : B ≤ g) (h1 : w.heap[g]? = some (.cells cur E (0, 0))) (h2 : T.length = n) (h3 : n ≤ c) (h4 : c ≤ maxLen) (h5 : cur.size = c) (h6 : cur.toList.take n = T.flatMap encI) : Own E w B (.slice (some ⟨g, 0, none⟩) n c) 1 encI T :=
  ⟨by rw [flat1, Nat.mul_one], Or.inr ⟨g, c, cur, by rw [h2], hB, h1, by omega, h4, by rw [h5, Nat.mul_one], by rw [h2, Nat.mul_one]; exact h6⟩⟩
theorem take1 (T : List Int) (k : Nat) : (T.flatMap encI).take k = (T.take k).flatMap encI := by
  induction T generalizing k with
  | nil => simp
  | cons x T ih =>
    cases k with
    | zero => simp
    | succ k => rw [List.flatMap_cons, List.take_succ_cons, List.flatMap_cons, ← ih k]; rfl
theorem drop1 (T : List Int) (k : Nat) : (T.flatMap encI).drop k = (T.drop k).flatMap encI := by
  induction T generalizing k with
  | nil => simp
  | cons x T ih =>
    cases k with
    | zero => simp
    | succ k => rw [List.flatMap_cons, List.drop_succ_cons, ← ih k]; rfl
theorem cell_row {E : TypeId} {w : World} {g : Nat} {cur : Array Value} (h : w.heap[g]? = some (.cells cur E (0, 0))) (j : Nat) : w.cell? ⟨g, j, none⟩ = cur[j]? := by
  unfold World.cell?; simp [h]
set_option maxRecDepth 100000 in
set_option maxHeartbeats 4000000 in
/-- Within, where there is room. -/
theorem InsRoomI_any (T : List Int) (k : Nat) (x : Int) (n c B be : Nat) (aa : Addr) (w : World) (hO : Own 3 w B (.slice (some aa) n c) 1 encI T) (hk : k < n) (hT : n ≤ 100) (hroom : n + 1 ≤ c) (hB : B ≤ w.heap.size) (hbe : w.heap[be]? = some (.cells #[.int .i64 x] 3 (0, 0))) (hne : be ≠ aa.block) :
    Calls Tryd.prog 45 #[.slice (some aa) n c, .int .i64 k, .slice (some ⟨be, 0, none⟩) 1 1] w fun e w' => ∃ u, e = .returned u ∧ Own 3 w' B u 1 encI (T.take k ++ x :: T.drop k) ∧ Below B w w' ∧ w.grownBy w' (some aa.block) ∧ Frsh w (.slice (some aa) n c) u := by
  obtain ⟨g, cur, rfl, hBg, hgl, hg, hn, hnc, hcm, hcs, htk⟩ := rowI hO
  have hc63 : c ≤ 9223372036854775807 := by unfold maxLen at hcm; omega
  have hz1 : ¬ ((1 : Int) = 0) := by omega
  have hz2 : ¬ ((k : Int) = (n : Int)) := by omega
  have hz3 : ¬ ((c : Int) < (n : Int) + 1) := by omega
  have hsz : (Tryd.prog.info? 3).map (·.size) = some 1 := by kernel_rfl
  have hb2 : ¬ (c = k + 1) := by omega
  have hb3 : (k : Int) ≤ (n : Int) + 1 := by omega
  have hb4 : ¬ (c = k) := by omega
  have hw1 : IntKind.i64.wrap ((k : Int) + 1) = (k : Int) + 1 := by rw [IntKind.wrap_i64]; omega
  have hb1 : (0 : Int) ≤ (k : Int) + 1 := by omega
  have hin : k ≤ n := by omega
  have htn : ((k : Int) + 1).toNat = k + 1 := by omega
  have hkn : k + 1 ≤ n + 1 := by omega
  have hD : ((T.drop k).flatMap encI).length = (n - k) := by rw [flat1, List.length_drop, hn]
  have hcl : cur.toList.length = c := by simpa using hcs
  obtain ⟨cur1, hc1⟩ : ∃ cur1 : Array Value, cur1 = (cur.toList.take ((k + 1)) ++ (T.drop k).flatMap encI ++ cur.toList.drop ((k + 1) + ((T.drop k).flatMap encI).length)).toArray := ⟨_, rfl⟩
  have hc1l : cur1.toList.length = c := by
    rw [hc1]; simp only [List.length_append, List.length_take, List.length_drop, hcl, hD]; omega
  obtain ⟨cur2, hc2⟩ : ∃ cur2 : Array Value, cur2 = (cur1.toList.take (k) ++ encI x ++ cur1.toList.drop (k + (encI x).length)).toArray := ⟨_, rfl⟩
  have hc2l : cur2.toList.length = c := by
    rw [hc2]; simp only [List.length_append, List.length_take, List.length_drop, hc1l, encI, List.length_cons, List.length_nil]; omega
  have hfin : cur2.toList.take ((n + 1)) = (T.take k ++ x :: T.drop k).flatMap encI := by
    have hE : (encI x).length = 1 := rfl
    have := lay_s (R := cur.toList) (E := encI x) (D := (T.drop k).flatMap encI) (o := k) (by rw [hE, hD, hcl]; omega) cur1.toList (by rw [hc1, hE, show k + 1 = (k + 1) by omega])
    rw [hE, hD, show k + 1 + (n - k) = (n + 1) by omega] at this
    rw [hc2]
    show List.take _ (_ ++ _ ++ _) = _
    rw [show (encI x).length = 1 from rfl, this, List.flatMap_append, List.flatMap_cons, ← take1, ← htk, List.take_take, Nat.min_eq_left (by omega), List.append_assoc]
  have hgd : w.drew.heap[g]? = some (.cells cur 3 (0, 0)) := hg
  have hcp1 : ∀ ty dc sc, (Builtin.copy_ #[25, 25] ty #[.slice (some ⟨g, (k + 1), none⟩) (n - k) dc, .slice (some ⟨g, k, none⟩) (n + 1 - k) sc]).run Tryd.prog w.drew = .ok (goInt (Nat.min (n + 1 - k) (n - k))) (w.drew.setRow g cur1) := fun ty dc sc => by
    have := run_copy_rowN (P := Tryd.prog) w.drew 25 25 ty 3 g ((k + 1)) (n - k) dc ⟨g, k, none⟩ (n + 1 - k) sc 1 cur 3 ((T.drop k).flatMap encI) Tryd.underlying25 hsz hgd (by rw [hD]; show _ = min (n + 1 - k) (n - k) * 1; rw [Nat.mul_one, Nat.min_eq_right (by omega)]) (fun j v hj => by
      rw [addr_add', cell_row hgd, ← Array.getElem?_toList]
      rw [← drop1, List.getElem?_drop, ← htk, List.getElem?_take] at hj
      split at hj
      · exact hj
      · cases hj) (by rw [hD, hcs]; omega) (int_one _)
    rw [this, hc1]
  have hcp2 : ∀ (W : World), W.heap[g]? = some (.cells cur1 3 (0, 0)) → W.heap[be]? = some (.cells #[.int .i64 x] 3 (0, 0)) → ∀ ty dc, (Builtin.copy_ #[25, 25] ty #[.slice (some ⟨g, k, none⟩) (n + 1 - k) dc, .slice (some ⟨be, 0, none⟩) 1 1]).run Tryd.prog W = .ok (goInt (Nat.min 1 (n + 1 - k))) (W.setRow g cur2) := fun W hW hWb ty dc => by
    have := run_copy_rowN (P := Tryd.prog) W 25 25 ty 3 g (k) (n + 1 - k) dc ⟨be, 0, none⟩ 1 1 1 cur1 3 (encI x) Tryd.underlying25 hsz hW (by show _ = min 1 (n + 1 - k) * 1; rw [Nat.min_eq_left (by omega)]; rfl) (fun j v hj => by
      rw [addr_add', cell_row hWb, Nat.zero_add]
      simpa [encI] using hj) (by rw [← Array.length_toList, hc1l]; simp [encI]; omega) (fun u hu => by simp [encI] at hu; subst hu; rfl)
    rw [this, hc2]
  have hov : ∀ lb cb, (callFunc 83 #[.slice (some ⟨be, 0, none⟩) 1 1, .slice (some ⟨g, (k + 1), none⟩) lb cb]).run Tryd.prog w = .ok (.value (.bool false)) w := fun lb cb => by
    have hsa : w.shape? be = some (3, 1) := by unfold World.shape?; simp [hbe]
    have hsb : w.shape? g = some (3, cur.size) := by unfold World.shape?; simp [hg]
    have hfa : w.frozen? ⟨be, 0, none⟩ = false := by unfold World.frozen?; simp [hbe]
    have hfe : w.frozen? ⟨be, 1, none⟩ = false := by unfold World.frozen?; simp [hbe]
    rw [run_callFunc_extern Tryd.func83 (by kernel_rfl) (by kernel_rfl) (by kernel_rfl) (e := Extern.SlicesOverlaps.overlaps #[25, 25] #[4]) (by kernel_rfl),
      Lib.run_overlaps_apart w 25 4 3 Tryd.underlying25 1 (fun w => by kernel_rfl) ⟨be, 0, none⟩ ⟨g, (k + 1), none⟩ 1 1 lb cb hne 3 3 1 cur.size hsa hsb (by omega) hfa hfe]
    rfl
  have hA1 : (w.drew.setRow g cur1).heap[g]? = some (.cells cur1 3 (0, 0)) := setRow_heap w.drew g cur _ 3 _ hgd
  have hA2 : (w.drew.setRow g cur1).heap[be]? = some (.cells #[.int .i64 x] 3 (0, 0)) := by
    rw [setRow_other w.drew g be _ (fun e => hne e)]; exact hbe
  have hFin : Hid (Own 3 ((w.drew.setRow g cur1).setRow g cur2) B (.slice (some ⟨g, 0, none⟩) (n + 1) c) 1 encI (T.take k ++ x :: T.drop k) ∧ Below B w ((w.drew.setRow g cur1).setRow g cur2) ∧ w.grownBy ((w.drew.setRow g cur1).setRow g cur2) (some g) ∧ Frsh w (.slice (some ⟨g, 0, none⟩) n c) (.slice (some ⟨g, 0, none⟩) (n + 1) c)) :=
    ⟨ownI hBg (setRow_heap _ g cur1 _ 3 _ hA1) (by simp; omega) hroom hcm (by simpa using hc2l) hfin, below_setRow (below_setRow (Below.refl _ _).drew hBg _) hBg _, grown_trans (grown_trans (grown_drew _ _) (grown_setRow _ _ _)) (grown_setRow _ _ _), Or.inl rfl⟩
  have mixed : Tryd.prog.follows .mixedOrders = true := by kernel_rfl
  clear hO hc1 hc2 hfin hc1l hc2l hD hcl htk hg hgd hbe
  go_enter Tryd.func45, Tryd.ntmps45
  go_wp2_with (simp only [hov])
  go_region_law_o (refine step_copy_runI rfl _ _ 25 25 rfl (.slice (some ⟨g, (k + 1), none⟩) (n - k) (c - (k + 1))) (.slice (some ⟨g, k, none⟩) (n + 1 - k) (c - k)) (by simp [Act.eval, Act.put]) (by simp [Act.eval, Act.put]) (hcp1 _ _ _) ?_)
  have h2 := hcp2 _ hA1 hA2 3 (c - k)
  clear hcp2 hA1 hA2
  go_wp2
  go_ret
  exact ⟨_, rfl, hFin.out⟩
set_option maxRecDepth 100000 in
set_option maxHeartbeats 4000000 in
/-- Within, where there is no room. -/
theorem InsGrowI_any (T : List Int) (k : Nat) (x : Int) (n c B be : Nat) (aa : Addr) (w : World) (hO : Own 3 w B (.slice (some aa) n c) 1 encI T) (hk : k < n) (hT : n ≤ 100) (hroom : c < n + 1) (hB : B ≤ w.heap.size) (hbe : w.heap[be]? = some (.cells #[.int .i64 x] 3 (0, 0))) :
    Calls Tryd.prog 45 #[.slice (some aa) n c, .int .i64 k, .slice (some ⟨be, 0, none⟩) 1 1] w fun e w' => ∃ u, e = .returned u ∧ Own 3 w' B u 1 encI (T.take k ++ x :: T.drop k) ∧ Below B w w' ∧ w.grownBy w' (some aa.block) ∧ Frsh w (.slice (some aa) n c) u := by
  obtain ⟨g, cur, rfl, hBg, hgl, hg, hn, hnc, hcm, hcs, htk⟩ := rowI hO
  obtain ⟨i0, hi0, hz0, hzs, hzb⟩ := info_parts infoInt
  have hc63 : c ≤ 9223372036854775807 := by unfold maxLen at hcm; omega
  have hz1 : ¬ ((1 : Int) = 0) := by omega
  have hz2 : ¬ ((k : Int) = (n : Int)) := by omega
  have hz3 : (c : Int) < (n : Int) + 1 := by omega
  have hsz : (Tryd.prog.info? 3).map (·.size) = some 1 := by kernel_rfl
  have hkk : (n : Int) + 1 - (k : Int) = ((n + 1 - k : Nat) : Int) := by omega
  have hik : k + (n + 1 - k) = n + 1 := by omega
  have hgd : w.drew.heap[g]? = some (.cells cur 3 (0, 0)) := hg
  have hA : ((T.take k).flatMap encI).length = k := by rw [flat1, List.length_take, hn, Nat.min_eq_left (by omega)]
  have hD : ((T.drop k).flatMap encI).length = (n - k) := by rw [flat1, List.length_drop, hn]
  have hold : (Builtin.firstCells i0.size k (.slice (some ⟨g, 0, none⟩) k c)).run Tryd.prog w.drew = .ok ((T.take k).flatMap encI).toArray w.drew := by
    rw [hzs]
    exact run_firstCells_some w.drew 1 k ⟨g, 0, none⟩ k c ((T.take k).flatMap encI) (by rw [Nat.mul_one]; exact hA) (fun j v hj => by
      rw [addr_add', cell_row hgd, Nat.zero_add, ← Array.getElem?_toList]
      rw [← take1, ← htk, List.getElem?_take, List.getElem?_take] at hj
      split at hj
      · split at hj
        · exact hj
        · cases hj
      · cases hj)
  obtain ⟨G, hG⟩ : ∃ G, G = grownCap w (n + 1) c 3 := ⟨_, rfl⟩
  have hGn : n + 1 ≤ G := by rw [hG]; exact grownCap_ge w _ _ _
  have hGm : G ≤ maxLen := by rw [hG]; exact grownCap_le_maxLen w (n + 1) c 3 (by unfold maxLen; omega)
  have hG63 : G ≤ 9223372036854775807 := by unfold maxLen at hGm; omega
  obtain ⟨cur0, hc0⟩ : ∃ cur0 : Array Value, cur0 = ((T.take k).flatMap encI).toArray ++ Builtin.zeroCells (Value.int .i64 0).cells (n + 1 - k) ++ Builtin.zeroCells (Value.int .i64 0).cells (G - (n + 1)) := ⟨_, rfl⟩
  have hc0l : cur0.toList.length = G := by
    rw [hc0, Array.length_toList]
    simp only [Array.size_append, size_zeroCells, List.size_toArray, hA, Value.cells]
    show k + (n + 1 - k) * 1 + (G - (n + 1)) * 1 = G
    omega
  have hc0t : cur0.toList.take (k) = (T.take k).flatMap encI := by
    rw [hc0, Array.toList_append, Array.toList_append, List.append_assoc]
    show List.take (k) ((T.take k).flatMap encI ++ _) = _
    exact List.take_left' hA
  obtain ⟨W1, hW1⟩ : ∃ W1, W1 = w.drew.alloc (.cells cur0 3) := ⟨_, rfl⟩
  have hrz : ∀ ty, (Builtin.append_ #[25, 3] ty #[.slice (some ⟨g, 0, none⟩) k c, .int .i64 ((n : Int) + 1 - (k : Int))]).run Tryd.prog w = .ok (.slice (some ⟨w.heap.size, 0, none⟩) (n + 1) G) W1 := fun ty => by
    have h := Lib.run_append_grow_zeros w 25 3 ty 3 i0 _ .i64 .i64 Tryd.underlying25 Tryd.underlying3 hi0 hz0 (some ⟨g, 0, none⟩) k c _ hold (n + 1 - k) (by omega) (by omega) (by omega) (by omega) (by rw [hzb]; omega) (by rw [hzb, hik]; exact growslice_fits hroom (by omega))
    rw [hik, ← hG, ← hc0, ← hW1] at h
    rw [hkk]
    exact h
  obtain ⟨cur1, hc1⟩ : ∃ cur1 : Array Value, cur1 = (cur0.toList.take (k) ++ encI x ++ cur0.toList.drop (k + (encI x).length)).toArray := ⟨_, rfl⟩
  have hc1l : cur1.toList.length = G := by
    rw [hc1]; simp only [List.length_append, List.length_take, List.length_drop, hc0l, encI, List.length_cons, List.length_nil]; omega
  obtain ⟨cur2, hc2⟩ : ∃ cur2 : Array Value, cur2 = (cur1.toList.take ((k + 1)) ++ (T.drop k).flatMap encI ++ cur1.toList.drop ((k + 1) + ((T.drop k).flatMap encI).length)).toArray := ⟨_, rfl⟩
  have hc2l : cur2.toList.length = G := by
    rw [hc2]; simp only [List.length_append, List.length_take, List.length_drop, hc1l, hD]; omega
  have hfin : cur2.toList.take ((n + 1)) = (T.take k ++ x :: T.drop k).flatMap encI := by
    have hE : (encI x).length = 1 := rfl
    have := lay_g (R := cur0.toList) (E := encI x) (D := (T.drop k).flatMap encI) (o := k) (by rw [hE, hD, hc0l]; omega) (by rw [hc0l]; omega)
    rw [hE, hD, show k + 1 + (n - k) = (n + 1) by omega, show k + 1 = (k + 1) by omega] at this
    rw [hc2, hc1]
    show List.take _ ((List.take _ (_ ++ _ ++ _)) ++ _ ++ List.drop _ (_ ++ _ ++ _)) = _
    rw [hD, show (encI x).length = 1 from rfl, show k + 1 = (k + 1) by omega, show (k + 1) + (n - k) = (n + 1) by omega, this, hc0t, List.flatMap_append, List.flatMap_cons, List.append_assoc]
  have hcp1 : ∀ (W : World), W.heap[w.heap.size]? = some (.cells cur0 3 (0, 0)) → W.heap[be]? = some (.cells #[.int .i64 x] 3 (0, 0)) → ∀ ty dc, (Builtin.copy_ #[25, 25] ty #[.slice (some ⟨w.heap.size, k, none⟩) (n + 1 - k) dc, .slice (some ⟨be, 0, none⟩) 1 1]).run Tryd.prog W = .ok (goInt (Nat.min 1 (n + 1 - k))) (W.setRow w.heap.size cur1) := fun W hW hWb ty dc => by
    have := run_copy_rowN (P := Tryd.prog) W 25 25 ty 3 w.heap.size (k) (n + 1 - k) dc ⟨be, 0, none⟩ 1 1 1 cur0 3 (encI x) Tryd.underlying25 hsz hW (by show _ = min 1 (n + 1 - k) * 1; rw [Nat.min_eq_left (by omega)]; rfl) (fun j v hj => by
      rw [addr_add', cell_row hWb, Nat.zero_add]
      simpa [encI] using hj) (by rw [← Array.length_toList, hc0l]; simp [encI]; omega) (fun u hu => by simp [encI] at hu; subst hu; rfl)
    rw [this, hc1]
  have hcp2 : ∀ (W : World), W.heap[w.heap.size]? = some (.cells cur1 3 (0, 0)) → W.heap[g]? = some (.cells cur 3 (0, 0)) → ∀ ty dc sc, (Builtin.copy_ #[25, 25] ty #[.slice (some ⟨w.heap.size, (k + 1), none⟩) (n - k) dc, .slice (some ⟨g, k, none⟩) (n - k) sc]).run Tryd.prog W = .ok (goInt (Nat.min (n - k) (n - k))) (W.setRow w.heap.size cur2) := fun W hW hWg ty dc sc => by
    have := run_copy_rowN (P := Tryd.prog) W 25 25 ty 3 w.heap.size ((k + 1)) (n - k) dc ⟨g, k, none⟩ (n - k) sc 1 cur1 3 ((T.drop k).flatMap encI) Tryd.underlying25 hsz hW (by rw [hD]; show _ = min (n - k) (n - k) * 1; rw [Nat.mul_one, Nat.min_self]) (fun j v hj => by
      rw [addr_add', cell_row hWg, ← Array.getElem?_toList]
      rw [← drop1, List.getElem?_drop, ← htk, List.getElem?_take] at hj
      split at hj
      · exact hj
      · cases hj) (by rw [hD, ← Array.length_toList, hc1l]; omega) (int_one _)
    rw [this, hc2]
  have hbl := (Array.getElem?_eq_some_iff.1 hbe).1
  have hA0 : W1.heap[w.heap.size]? = some (.cells cur0 3 (0, 0)) := by rw [hW1]; exact heap_alloc_new w.drew _
  have hAb : W1.heap[be]? = some (.cells #[.int .i64 x] 3 (0, 0)) := by rw [hW1]; exact (Below.heap_alloc w.drew _ be hbl).trans hbe
  have hAg : W1.heap[g]? = some (.cells cur 3 (0, 0)) := by rw [hW1]; exact (Below.heap_alloc w.drew _ g hgl).trans hg
  have hA1 : (W1.setRow w.heap.size cur1).drew.heap[w.heap.size]? = some (.cells cur1 3 (0, 0)) := setRow_heap W1 w.heap.size cur0 _ 3 _ hA0
  have hA2 : (W1.setRow w.heap.size cur1).drew.heap[g]? = some (.cells cur 3 (0, 0)) := by
    show (W1.setRow w.heap.size cur1).heap[g]? = _
    rw [setRow_other W1 w.heap.size g _ (by omega)]; exact hAg
  have hBW0 : Below w.heap.size w W1 := by rw [hW1]; exact (Below.refl _ _).drew.alloc (Nat.le_refl _) _
  have hBW : Below B w W1 := by rw [hW1]; exact (Below.refl _ _).drew.alloc hB _
  have hFin : Hid (Own 3 (((W1.setRow w.heap.size cur1).drew).setRow w.heap.size cur2) B (.slice (some ⟨w.heap.size, 0, none⟩) (n + 1) G) 1 encI (T.take k ++ x :: T.drop k) ∧ Below B w (((W1.setRow w.heap.size cur1).drew).setRow w.heap.size cur2) ∧ w.grownBy (((W1.setRow w.heap.size cur1).drew).setRow w.heap.size cur2) (some g) ∧ Frsh w (.slice (some ⟨g, 0, none⟩) n c) (.slice (some ⟨w.heap.size, 0, none⟩) (n + 1) G)) :=
    ⟨ownI hB (setRow_heap _ w.heap.size cur1 _ 3 _ hA1) (by simp; omega) hGn hGm (by simpa using hc2l) hfin, below_setRow (below_setRow hBW hB _).drew hB _, grown_any (below_setRow (below_setRow hBW0 (Nat.le_refl _) _).drew (Nat.le_refl _) _) _, Or.inr ⟨_, rfl, Nat.le_refl _⟩⟩
  have hGi : ¬ (G = k) := by omega
  have hGim : ¬ (G = k + 1) := by omega
  have hci : ¬ (c = k) := by omega
  have hw1 : IntKind.i64.wrap ((k : Int) + 1) = (k : Int) + 1 := by rw [IntKind.wrap_i64]; omega
  have hb1 : (0 : Int) ≤ (k : Int) + 1 := by omega
  have hin : k ≤ n := by omega
  have hb3 : (k : Int) ≤ (n : Int) := by omega
  have htn : ((k : Int) + 1).toNat = k + 1 := by omega
  have hkn : k + 1 ≤ n + 1 := by omega
  have mixed : Tryd.prog.follows .mixedOrders = true := by kernel_rfl
  have h1 := hcp1 _ hA0 hAb 3 (G - k)
  have h2 := Lib.hid (hcp2 _ hA1 hA2)
  clear hBW0 hO hc0 hc1 hc2 hfin hc0l hc1l hc2l hc0t hD hA htk hg hgd hbe hcp1 hcp2 hA0 hA1 hA2 hAb hAg hBW hW1 hG hold hkk hik hi0 hz0 hzs hzb hbl
  go_enter Tryd.func45, Tryd.ntmps45
  go_wp2_with (at_builtin; refine Lib.wpList_append_run _ rfl _ _ _ _ rfl _ _ rfl rfl _ _ (hrz _) ?_)
  go_region_law_o (refine step_copy_runI rfl _ _ 25 25 rfl (.slice (some ⟨w.heap.size, (k + 1), none⟩) (n - k) (G - (k + 1))) (.slice (some ⟨g, k, none⟩) (n - k) (c - k)) (by simp [Act.eval, Act.put]) (by simp [Act.eval, Act.put]) (h2.out _ _ _) ?_)
  go_wp2
  go_ret
  exact ⟨_, rfl, hFin.out⟩
/-- Anywhere. -/
theorem InsI_any (v : Value) (T : List Int) (k : Nat) (x : Int) (B be : Nat) (w : World) (hO : Own 3 w B v 1 encI T) (hk : k ≤ T.length) (hT : T.length ≤ 100) (hB : B ≤ w.heap.size) (hbe : w.heap[be]? = some (.cells #[.int .i64 x] 3 (0, 0))) (hne : v.ownBlock ≠ some be) :
    Calls Tryd.prog 45 #[v, .int .i64 k, .slice (some ⟨be, 0, none⟩) 1 1] w fun e w' => ∃ u, e = .returned u ∧ Own 3 w' B u 1 encI (T.take k ++ x :: T.drop k) ∧ Below B w w' ∧ w.grownBy w' v.ownBlock ∧ Frsh w v u := by
  by_cases hkn : k = T.length
  · subst hkn
    rw [List.take_length, List.drop_length]
    exact InsEndI_any v T x B be w hO hT hB hbe
  · obtain ⟨ao, c, rfl⟩ := hO.sl
    have hkl : k < T.length := by omega
    cases ao with
    | none =>
      have : T.length = 0 := by
        rcases hO.2 with ⟨e, h⟩ | ⟨g, cap, cur, e, _⟩
        · exact h
        · cases e
      omega
    | some aa =>
      by_cases hr : T.length + 1 ≤ c
      · exact InsRoomI_any T k x T.length c B be aa w hO hkl hT hr hB hbe (fun e => hne (by rw [e]; rfl))
      · exact InsGrowI_any T k x T.length c B be aa w hO hkl hT (by omega) hB hbe
end Go.Proofs.YtonojegnbcgnaaaDoor
