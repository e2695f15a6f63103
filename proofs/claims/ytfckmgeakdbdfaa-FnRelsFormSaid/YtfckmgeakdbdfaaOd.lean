/- The order of the program: the loop. -/
import Derived.Test.YtfckmgeakdbdfaaOc
import Derived.Test.YtfckmgeakdbdfaaMs
set_option linter.unusedSimpArgs false
set_option linter.unusedVariables false
namespace Go.Proofs.Ytfckmgeakdbdfaa
open Go.RowKit Go.Maps Go.WideMaps

def slen : Option Value → Nat
  | some (.slice _ n _) => n
  | _ => 0
@[simp] theorem slen_s (a : Option Addr) (n c : Nat) : slen (some (.slice a n c)) = n := rfl
theorem own_sl {w : World} {base e size n : Nat} {v : Value} {xs : List Value} (h : w.ownsRow base e size v n xs) : ∃ ao cap, v = .slice ao n cap := by
  obtain ⟨h1, ⟨rfl, h2⟩ | ⟨g, cap, cur, rfl, h2, h3⟩⟩ := h
  · subst h2; exact ⟨none, 0, rfl⟩
  · exact ⟨_, _, rfl⟩
theorem ints_own {w : World} {base e n : Nat} {v : Value} {L : List Int} (h : w.ownsRow base e 1 v n (L.map (Value.int .i64))) (hn : L.length = n) : Ints w v L :=
  Rows.of_own h (fun _ => rfl) hn (by clear h hn; induction L with | nil => rfl | cons x L ih => rw [List.flatMap_cons, ← ih]; rfl)
/-- What order hands back. -/
def OrdR (M : List (List Int)) (n : Nat) (e : Ending) (w' : World) : Prop := (∃ u, e = .returned (.tuple #[u, .bool true]) ∧ (ord M).length = n ∧ Ints w' u (ord M)) ∨ (e = .returned (.tuple #[.slice none 0 0, .bool false]) ∧ (ord M).length ≠ n)
set_option maxHeartbeats 2000000 in
theorem order_any (M : List (List Int)) (n b : Nat) (w : World) (hp : RelsP M) (hn : M.length = n) (hK : Kn w M b) :
    Calls Try.prog 56 #[.agg #[.int .i64 n, .map (some b)]] w fun e w' => OrdR M n e w' ∧ Below w.heap.size w w' := by
  obtain ⟨j0, hj, hy0, hy1, hy2⟩ := info_parts infoInt
  have hF := ((Fb.start w).alloc [.int .i64 n, .map (some b)] 50).alloc [.slice none 0 0] 26
  have HN := Lib.hid hn
  have hn5 : n ≤ 5 := by have := hp.2.2; omega
  have HP := Lib.hid hp
  have HK := Lib.hid hK
  clear hp hn hK
  have o := hF.own; simp only [World.size_alloc, World.size_drew, World.size_setCell, List.mem_cons, List.not_mem_nil, or_false, forall_eq_or_imp, forall_eq, At, and_true, Nat.zero_add, Nat.reduceAdd, List.set_cons_zero, List.set_cons_succ] at o
  simp only [World.size_alloc] at hF
  go_enter Try.func56, Try.ntmps56
  go_wp2
  go_loopw [] (fun wr => ∃ (j : Nat) (v : Value), j ≤ n ∧ Hid ((grow M j).length = j) ∧ Fb w wr [(w.heap.size + 1, [v]), (w.heap.size, [.int .i64 n, .map (some b)])] ∧ wr.ownsRow (w.heap.size + 2) 3 1 v j ((grow M j).map (Value.int .i64)) ∧ w.heap.size + 2 ≤ wr.heap.size) (fun wr => n - slen (wr.cell? ⟨w.heap.size + 1, 0, none⟩))
  case atStart => exact ⟨0, .slice none 0 0, Nat.zero_le _, rfl, hF, World.ownsRow_nil _ _ _ _, by simp⟩
  case round =>
    clear hF o
    obtain ⟨j, v, hjn, hlen, hF, hO, hsz⟩ := hrel
    obtain ⟨ao, cap, rfl⟩ := own_sl hO
    have HL : Hid (Ints wr (.slice ao j cap) (grow M j)) := ints_own hO hlen.out
    have o := hF.own; simp only [World.size_alloc, World.size_drew, World.size_setCell, List.mem_cons, List.not_mem_nil, or_false, forall_eq_or_imp, forall_eq, At, and_true, Nat.zero_add, Nat.reduceAdd, List.set_cons_zero, List.set_cons_succ] at o
    have hwo := Lib.hid o.1.1.1
    by_cases hlt : j < n
    · go_wp2
      clear o
      obtain ⟨wo, rfl⟩ : ∃ wo : World, wo = wr := ⟨_, rfl⟩
      go_loopw [6] (fun i wr => ∃ k : Nat, k ≤ n ∧ i = .int .i64 ((k : Int) + 1) ∧ Hid (None' M (grow M j) k) ∧ Fb w wr [(w.heap.size + 1, [.slice ao j cap]), (w.heap.size, [.int .i64 n, .map (some b)])] ∧ wr.ownsRow (w.heap.size + 2) 3 1 (.slice ao j cap) j ((grow M j).map (Value.int .i64)) ∧ w.heap.size + 2 ≤ wr.heap.size) (fun i wr => n + 1 - (intOf i).toNat)
      case atStart => exact ⟨0, Nat.zero_le _, rfl, (by intro c hc; omega), hF, hO, hsz⟩
      case round =>
        clear hF hO hsz HL
        obtain ⟨k, hk, rfl, hno, hF, hO, hsz⟩ := hrel
        have o := hF.own; simp only [World.size_alloc, World.size_drew, World.size_setCell, List.mem_cons, List.not_mem_nil, or_false, forall_eq_or_imp, forall_eq, At, and_true, Nat.zero_add, Nat.reduceAdd, List.set_cons_zero, List.set_cons_succ] at o
        by_cases hlk : k < n
        · have hle : (k : Int) + 1 ≤ n := by omega
          have HC := Lib.hid (ready_any M n b _ _ _ (grow M j) ((k : Int) + 1) wr HP.out HN.out (HK.out.below hF.kp) (ints_own hO hlen.out) o.1.1.1 o.2.1.1 o.2.1.2.2.1 (by omega) (by omega) rfl)
          by_cases hr : Rdy M (grow M j) ((k : Int) + 1)
          · have d1 : decide (Rdy M (grow M j) ((k : Int) + 1)) = true := by simp [hr]
            have hg := Lib.hid (grow_some (nxt_some (by rw [HN.out]; exact hlk) hr hno.out))
            have hl2 : Hid ((grow M (j + 1)).length = j + 1) := by
              show _ = _; rw [hg.out]; simp; exact hlen.out
            clear hr
            go_wp2_with (first | (go_at_call 59; go_must (refine HC.out.mono ?_); rintro e wx ⟨rfl, hbx⟩; replace hF := hF.below hbx; replace hO := own_below hO hbx; have hsx := hbx.size; clear hbx o; have o := hF.own; simp only [World.size_alloc, World.size_drew, World.size_setCell, List.mem_cons, List.not_mem_nil, or_false, forall_eq_or_imp, forall_eq, At, and_true, Nat.zero_add, Nat.reduceAdd, List.set_cons_zero, List.set_cons_succ] at o) | (at_builtin; refine wpList_append_own _ rfl _ _ 26 rfl (w.heap.size + 2) 3 j0 (.int .i64 0) 1 8 Try.underlying26 hj hy0 hy1 hy2 rfl (by decide) _ _ _ rfl (hO.alloc _) ⟨_, 0, none⟩ 1 1 [.int .i64 ((k : Int) + 1)] rfl rfl (cells_new _ _ _) (by simp [Value.oneCell']) (le_maxLen (by omega)) (by omega) (by simp only [World.size_alloc]; omega) ?_; intro v' wa hO1 hg1 hz9; clear hz9; obtain ⟨ao', cap', rfl⟩ := own_sl hO1; have hb1 := own_grown (hO.alloc _) hg1 (by simp only [World.size_alloc]; omega); replace hF := (hF.other _).belowB hb1 (by omega) (by simp); replace hO := hO1; have hsa := hb1.size; simp only [World.size_alloc] at hsa; clear hO1 hg1 hb1 o; have o := hF.own; simp only [World.size_alloc, World.size_drew, World.size_setCell, List.mem_cons, List.not_mem_nil, or_false, forall_eq_or_imp, forall_eq, At, and_true, Nat.zero_add, Nat.reduceAdd, List.set_cons_zero, List.set_cons_succ] at o))
            have hF' := hF.set 0 (.slice ao' (j + 1) cap') (by simp) (by simp)
            go_roundw
            case rel => exact ⟨j + 1, .slice ao' (j + 1) cap', by omega, hl2, hF', (by rw [hg.out]; simpa using own_set hO (a := ⟨w.heap.size + 1, 0, none⟩) (by simp) _), by simp; omega⟩
            case measure => simp [o, World.cell?_setCell_same', hwo.out]; omega
          · have d1 : decide (Rdy M (grow M j) ((k : Int) + 1)) = false := by simp [hr]
            have hno' : Hid (None' M (grow M j) (k + 1)) := none_step hno.out hr
            clear hr
            go_wp2_with (go_at_call 59; go_must (refine HC.out.mono ?_); rintro e wx ⟨rfl, hbx⟩; replace hF := hF.below hbx; replace hO := own_below hO hbx; have hsx := hbx.size; clear hbx o; have o := hF.own; simp only [World.size_alloc, World.size_drew, World.size_setCell, List.mem_cons, List.not_mem_nil, or_false, forall_eq_or_imp, forall_eq, At, and_true, Nat.zero_add, Nat.reduceAdd, List.set_cons_zero, List.set_cons_succ] at o)
            go_roundw
            case rel => exact ⟨k + 1, by omega, by go_num, hno', hF, hO, by omega⟩
            case measure => simp [intOf]; omega
        · have hr : Hid ((ord M).length ≠ n) := by
            have hnn := nxt_none (M := M) (L := grow M j) (by rw [HN.out]; rw [show n = k by omega]; exact hno.out)
            have := grow_stop hnn (n - j)
            rw [show j + (n - j) = n by omega] at this
            show (grow M M.length).length ≠ n
            rw [HN.out, this, hlen.out]; omega
          go_wp2
          go_ret2
          exact ⟨Or.inr ⟨rfl, hr.out⟩, hF.kp⟩
    · have hjn' : j = n := by omega
      subst hjn'
      go_wp2
      go_ret2
      refine ⟨Or.inl ⟨_, rfl, by show (grow M _).length = _; rw [HN.out]; exact hlen.out, ?_⟩, hF.kp⟩
      show Ints wr _ (grow M _)
      rw [HN.out]; exact HL.out
end Go.Proofs.Ytfckmgeakdbdfaa
