/- Houses. Paths: plain; trail.has, spec.PathOk. Paths: spec.PathOk, readTrail, impl.PathOk. -/
import Derived.Test.YtonojegnbcgnaaaDoorZ5
set_option linter.unusedSimpArgs false
set_option linter.unusedVariables false
namespace Go.Proofs.YtonojegnbcgnaaaDoor
open Go.RowKit

theorem isHouse_any (n : Int) (w : World) :
    Calls Tryd.prog 63 #[.int .i64 n] w fun e w' => e = .returned (.bool (decide (Bts n 1 5))) ∧ Below w.heap.size w w' := by
  go_enter Tryd.func63, Tryd.ntmps63
  go_wp2
  all_goals (go_ret; refine ⟨ret_bool ?_, Below.refl _ _⟩; refine Bool.eq_iff_iff.2 ?_; (try simp); try (unfold Bts; first | (simp [*]; done) | (simp [*]; intros; omega) | omega))
theorem l3House_any (n : Int) (w : World) :
    Calls Tryd.prog 64 #[.int .i64 n] w fun e w' => e = .returned (.bool (decide (Bts n 1 5))) ∧ Below w.heap.size w w' := by
  go_enter Tryd.func64, Tryd.ntmps64
  go_wp2_with (go_at_call 39; refine (l6In_any _ _ _ _).mono ?_; rintro e w1 ⟨rfl, hb1⟩)
  go_ret
  exact ⟨rfl, hb1⟩
theorem isMark_any (n : Int) (w : World) :
    Calls Tryd.prog 42 #[.int .i64 n] w fun e w' => e = .returned (.bool (decide (Bts n 1 9))) ∧ Below w.heap.size w w' := by
  go_enter Tryd.func42, Tryd.ntmps42
  go_wp2
  all_goals (go_ret; refine ⟨ret_bool ?_, Below.refl _ _⟩; refine Bool.eq_iff_iff.2 ?_; (try simp); try (unfold Bts; first | (simp [*]; done) | (simp [*]; intros; omega) | omega))
end Go.Proofs.YtonojegnbcgnaaaDoor
set_option linter.unusedSimpArgs false
set_option linter.unusedVariables false
namespace Go.Proofs.YtonojegnbcgnaaaDoor
open Go.RowKit

/-- A path: houses, each once. -/
def POk (L : List Int) : Prop := (∀ x ∈ L, Bts x 1 5) ∧ L.Nodup
instance (L : List Int) : Decidable (POk L) := by unfold POk; infer_instance
theorem pok_nil : POk [] := ⟨fun x h => absurd h (List.not_mem_nil), List.nodup_nil⟩
theorem pok_snoc {K : List Int} {x : Int} : POk (K ++ [x]) ↔ POk K ∧ Bts x 1 5 ∧ x ∉ K := by
  unfold POk
  rw [List.nodup_append]
  constructor
  · rintro ⟨h1, h2, _, h3⟩
    exact ⟨⟨fun y hy => h1 y (List.mem_append_left _ hy), h2⟩, h1 x (by simp), fun hx => h3 x hx x (by simp) rfl⟩
  · rintro ⟨⟨h1, h2⟩, h3, h4⟩
    refine ⟨fun y hy => ?_, h2, by simp, fun a ha b hb e => ?_⟩
    · rcases List.mem_append.1 hy with h | h
      · exact h1 y h
      · rw [List.mem_singleton.1 h]; exact h3
    · rw [List.mem_singleton.1 hb] at e; subst e; exact h4 ha
theorem take_snoc {α : Type} {L : List α} {k : Nat} {x : α} (h : L[k]? = some x) : L.take (k + 1) = L.take k ++ [x] := by
  rw [List.take_add_one, h]; rfl
theorem pok_sub {L K : List Int} (h : POk L) (hs : K.Sublist L) : POk K := ⟨fun x hx => h.1 x (hs.subset hx), h.2.sublist hs⟩
theorem pok_take {L : List Int} (h : POk L) (k : Nat) : POk (L.take k) := pok_sub h (List.take_sublist k L)
theorem pok_drop {L : List Int} (h : POk L) (k : Nat) : POk (L.drop k) := pok_sub h (List.drop_sublist k L)
theorem pok_len {L : List Int} (h : POk L) : L.length ≤ 5 := by
  refine nodup_len L [1, 2, 3, 4, 5] h.2 fun x hx => ?_
  have := h.1 x hx
  unfold Bts at this
  have : x = 1 ∨ x = 2 ∨ x = 3 ∨ x = 4 ∨ x = 5 := by omega
  simpa using this
theorem pok_step {L : List Int} {k : Nat} {x : Int} (hx : L[k]? = some x) : POk (L.take (k + 1)) ↔ POk (L.take k) ∧ Bts x 1 5 ∧ x ∉ L.take k := by
  rw [take_snoc hx, pok_snoc]
theorem pok_bad {L : List Int} {k : Nat} {x : Int} (hx : L[k]? = some x) (h : ¬ (Bts x 1 5 ∧ x ∉ L.take k)) : decide (POk L) = false :=
  decide_eq_false fun g => h ((pok_step hx).1 (pok_take g (k + 1))).2
/-- The bits of a path. -/
def encB (a b c d e : Bool) : Int := (if a then 2 else 0) + (if b then 4 else 0) + (if c then 8 else 0) + (if d then 16 else 0) + (if e then 32 else 0)
def msk (K : List Int) : Int := encB (decide (1 ∈ K)) (decide (2 ∈ K)) (decide (3 ∈ K)) (decide (4 ∈ K)) (decide (5 ∈ K))
def hasM (m h : Int) : Bool := bits .and .u64 (m / 2 ^ h.toNat) 1 == 1
theorem hasM_enc (a b c d e : Bool) : hasM (encB a b c d e) 1 = a ∧ hasM (encB a b c d e) 2 = b ∧ hasM (encB a b c d e) 3 = c ∧ hasM (encB a b c d e) 4 = d ∧ hasM (encB a b c d e) 5 = e := by
  cases a <;> cases b <;> cases c <;> cases d <;> cases e <;> (refine ⟨?_, ?_, ?_, ?_, ?_⟩ <;> kernel_rfl)
theorem hasM_msk {K : List Int} {h : Int} (hh : Bts h 1 5) : hasM (msk K) h = decide (h ∈ K) := by
  obtain ⟨e1, e2, e3, e4, e5⟩ := hasM_enc (decide (1 ∈ K)) (decide (2 ∈ K)) (decide (3 ∈ K)) (decide (4 ∈ K)) (decide (5 ∈ K))
  unfold Bts at hh
  have : h = 1 ∨ h = 2 ∨ h = 3 ∨ h = 4 ∨ h = 5 := by omega
  rcases this with rfl | rfl | rfl | rfl | rfl
  · exact e1
  · exact e2
  · exact e3
  · exact e4
  · exact e5
theorem cell_new2a (w : World) (u v : Value) (T : TypeId) : (w.alloc (.cells #[u, v] T)).cell? ⟨w.heap.size, 0, none⟩ = some u := by simp
theorem cell_new2b (w : World) (u v : Value) (T : TypeId) : (w.alloc (.cells #[u, v] T)).cell? ⟨w.heap.size, 1, none⟩ = some v := by simp
theorem has_any (K : List Int) (h : Int) (v : Value) (w : World) :
    Calls Tryd.prog 109 #[.agg #[.int .u64 (msk K), v], .int .i64 h] w fun e w' => e = .returned (.bool (decide (Bts h 1 5 ∧ h ∈ K))) ∧ Below w.heap.size w w' := by
  by_cases hh : Bts h 1 5
  · have d1 : decide (Bts h 1 5) = true := by simp [hh]
    have e1 : hasM (msk K) h = decide (h ∈ K) := hasM_msk hh
    unfold hasM at e1
    have h0 : 0 ≤ h := by unfold Bts at hh; omega
    have h5 : h ≤ 5 := by unfold Bts at hh; omega
    have hB : Below w.heap.size w (w.alloc (.cells #[.int .u64 (msk K), v] 114)) := (Below.refl _ _).alloc (Nat.le_refl _) _
    have hr : decide (Bts h 1 5 ∧ h ∈ K) = decide (h ∈ K) := by simp [hh]
    rw [hr]
    clear hh hr
    go_enter Tryd.func109, Tryd.ntmps109
    go_wp2_with (go_at_call 63; refine (isHouse_any _ _).mono ?_; rintro e w1 ⟨rfl, hb1⟩; replace hB := hB.trans (hb1.mono hB.size); obtain ⟨c0, c1⟩ : w1.cell? ⟨w.heap.size, 0, none⟩ = some (.int .u64 (msk K)) ∧ w1.cell? ⟨w.heap.size, 1, none⟩ = some v := ⟨(hb1.cell (by simp)).trans (cell_new2a _ _ _ _), (hb1.cell (by simp)).trans (cell_new2b _ _ _ _)⟩)
    go_ret
    exact ⟨rfl, hB⟩
  · have d1 : decide (Bts h 1 5) = false := by simp [hh]
    have hr : decide (Bts h 1 5 ∧ h ∈ K) = false := by simp [hh]
    have hB : Below w.heap.size w (w.alloc (.cells #[.int .u64 (msk K), v] 114)) := (Below.refl _ _).alloc (Nat.le_refl _) _
    rw [hr]
    clear hh hr
    go_enter Tryd.func109, Tryd.ntmps109
    go_wp2_with (go_at_call 63; refine (isHouse_any _ _).mono ?_; rintro e w1 ⟨rfl, hb1⟩; replace hB := hB.trans (hb1.mono hB.size))
    go_ret
    exact ⟨rfl, hB⟩
end Go.Proofs.YtonojegnbcgnaaaDoor
set_option linter.unusedSimpArgs false
set_option linter.unusedVariables false
namespace Go.Proofs.YtonojegnbcgnaaaDoor
open Go.RowKit

theorem ints_take {w : World} {b off n c : Nat} {L : List Int} (h : Ints w (.slice (some ⟨b, off, none⟩) n c) L) {k : Nat} (hk : k ≤ n) (hc : n ≤ c) (hcc : c ≤ 9223372036854775807) : Ints w (.slice (some ⟨b, off, none⟩) k c) (L.take k) := by
  have := Rows.sub h (i := 0) (j := k) (c' := c) (by omega) hk (by omega) hcc
  simpa using this
theorem sPathOk_any (v : Value) (L : List Int) (w : World) (hv : Ints w v L) :
    Calls Tryd.prog 78 #[v] w fun e w' => e = .returned (.bool (decide (POk L))) ∧ Below w.heap.size w w' := by
  have hF := Fb.start w
  obtain ⟨n, cap, hn, hnc, hcap, ⟨hn0, ao, rfl⟩ | ⟨hn0, b0, off, rfl, hc⟩⟩ := hv.cases
  all_goals
    have HV := Lib.hid hv
    clear hv
    go_enter Tryd.func78, Tryd.ntmps78
    go_wp2
    go_loopw [3] (fun i wr => ∃ k : Nat, k ≤ n ∧ i = .int .i64 k ∧ Hid (POk (L.take k)) ∧ Fb w wr []) (fun i _ => n - (intOf i).toNat)
    case atStart => exact ⟨0, Nat.zero_le _, rfl, pok_nil, hF⟩
    case round =>
      clear hF
      obtain ⟨k, hk, rfl, hok, hF⟩ := hrel
      by_cases hlt : k < n
      · try (exfalso; omega)
        all_goals
          obtain ⟨x, hx⟩ := get_of hn.out hlt
          have HX := Lib.hid hx
          have c0 := fun z : Cl wr.heap.size wr => Cl.old hF z (hc.out k x hx)
          have hsub := Lib.hid (fun z : Cl wr.heap.size wr => (show Ints z.W (.slice (some ⟨b0, off, none⟩) k cap) (L.take k) from Rows.below (ints_take (Rows.below HV.out hF.kp) hk hnc hcap) z.below))
          clear hx
          by_cases d1 : Bts x 1 5
          · have e1 : decide (Bts x 1 5) = true := by simp [d1]
            by_cases d2 : x ∈ L.take k
            · have e2 : decide (x ∈ L.take k) = true := by simp [d2]
              have hp := Lib.hid (pok_bad HX.out (fun g => g.2 d2))
              clear d1 d2
              go_wp2
              first | refine wp_region_new (by kernel_rfl) (by kernel_rfl) ?_ | refine wp_region_lex ?_
              repeat (any_goals (first | go_big_quiet_step ((first | (go_at_call 64; exact Calls.cl (l3House_any _ _)) | (go_at_call 94; exact Calls.cl (l3Has_any _ _ _ _ (hsub.out _))))) | (refine wpQuiet_step (fun K hK => ?_); go_simp; split <;> (rename_i hg; refine hK _ ?_; clear hK K; simp only [hg, decide_true, decide_false]))))
              all_goals (refine wpQuiet_nil ?_; intro x)
              go_wp2
              go_ret
              exact ⟨by rw [hp.out]; rfl, (hF.cl x).kp⟩
            · have e2 : decide (x ∈ L.take k) = false := by simp [d2]
              have hp : Hid (POk (L.take (k + 1))) := (pok_step HX.out).2 ⟨hok.out, d1, d2⟩
              clear d1 d2
              go_wp2
              first | refine wp_region_new (by kernel_rfl) (by kernel_rfl) ?_ | refine wp_region_lex ?_
              repeat (any_goals (first | go_big_quiet_step ((first | (go_at_call 64; exact Calls.cl (l3House_any _ _)) | (go_at_call 94; exact Calls.cl (l3Has_any _ _ _ _ (hsub.out _))))) | (refine wpQuiet_step (fun K hK => ?_); go_simp; split <;> (rename_i hg; refine hK _ ?_; clear hK K; simp only [hg, decide_true, decide_false]))))
              all_goals (refine wpQuiet_nil ?_; intro x)
              go_wp2
              go_roundw
              case rel => exact ⟨k + 1, by omega, by go_num, hp, hF.cl x⟩
              case measure => simp [intOf]; omega
          · have e1 : decide (Bts x 1 5) = false := by simp [d1]
            have hp := Lib.hid (pok_bad HX.out (fun g => d1 g.1))
            clear d1
            go_wp2
            first | refine wp_region_new (by kernel_rfl) (by kernel_rfl) ?_ | refine wp_region_lex ?_
            repeat (any_goals (first | go_big_quiet_step ((first | (go_at_call 64; exact Calls.cl (l3House_any _ _)) | (go_at_call 94; exact Calls.cl (l3Has_any _ _ _ _ (hsub.out _))))) | (refine wpQuiet_step (fun K hK => ?_); go_simp; split <;> (rename_i hg; refine hK _ ?_; clear hK K; simp only [hg, decide_true, decide_false]))))
            all_goals (refine wpQuiet_nil ?_; intro x)
            go_wp2
            go_ret
            exact ⟨by rw [hp.out]; rfl, (hF.cl x).kp⟩
      · have hp : Hid (decide (POk L) = true) := by
          have := hok.out
          rw [List.take_of_length_le (by rw [hn.out]; omega)] at this
          exact decide_eq_true this
        go_wp2
        go_ret
        exact ⟨by rw [hp.out]; rfl, hF.kp⟩

/-- errPath, as the program's start lays it. -/
def EPath (w : World) (a : Addr) : Prop := w.cell? ⟨0, 0, none⟩ = some (.iface 147 (.pointer (some a)))
theorem EPath.below {w w' : World} {a : Addr} (h : EPath w a) (hb : Below w.heap.size w w') : EPath w' a := (hb.cell (World.block_lt_of_cell? _ _ h)).trans h
theorem EPath.old {w W : World} {a : Addr} {Ls : List (Nat × List Value)} (h : EPath w a) (hF : Fb w W Ls) : W.cell? ⟨0, 0, none⟩ = some (.iface 147 (.pointer (some a))) := hF.old h
theorem EPath.allocd {w : World} {a : Addr} (h : EPath w a) (o : Obj) : (w.alloc o).cell? ⟨0, 0, none⟩ = some (.iface 147 (.pointer (some a))) := h.below ((Below.refl _ _).alloc (Nat.le_refl _) o)
/-- An error that joins errPath and another one. -/
def Joined (w : World) (a : Addr) (v : Value) : Prop := ∃ pb g n c, v = .iface 144 (.pointer (some ⟨pb, 0, none⟩)) ∧ 0 < n ∧ w.cell? ⟨pb, 0, none⟩ = some (.slice (some ⟨g, 0, none⟩) n c) ∧ w.cell? ⟨g, 0, none⟩ = some (.iface 147 (.pointer (some a)))
theorem addM_enc (a b c d e : Bool) : bits .or .u64 (encB a b c d e) 2 = encB true b c d e ∧ bits .or .u64 (encB a b c d e) 4 = encB a true c d e ∧ bits .or .u64 (encB a b c d e) 8 = encB a b true d e ∧ bits .or .u64 (encB a b c d e) 16 = encB a b c true e ∧ bits .or .u64 (encB a b c d e) 32 = encB a b c d true := by
  cases a <;> cases b <;> cases c <;> cases d <;> cases e <;> (refine ⟨?_, ?_, ?_, ?_, ?_⟩ <;> kernel_rfl)
theorem Fb.swap {W w : World} {p q : Nat × List Value} {L : List (Nat × List Value)} (h : Fb W w (p :: q :: L)) : Fb W w (q :: p :: L) := h.sub fun x hx => by
  simp only [List.mem_cons] at hx ⊢
  rcases hx with h | h | h
  · exact Or.inr (Or.inl h)
  · exact Or.inl h
  · exact Or.inr (Or.inr h)
theorem five {x : Int} (h : Bts x 1 5) : x = 1 ∨ x = 2 ∨ x = 3 ∨ x = 4 ∨ x = 5 := by unfold Bts at h; omega
theorem shl_add (K : List Int) {x : Int} (hx : Bts x 1 5) : ∃ p : Int, (∀ w, (Op.shift .shl .u64 1 .i64 x).run Tryd.prog w = .ok (.int .u64 p) w) ∧ bits .or .u64 (msk K) p = msk (K ++ [x]) := by
  obtain ⟨e1, e2, e3, e4, e5⟩ := addM_enc (decide (1 ∈ K)) (decide (2 ∈ K)) (decide (3 ∈ K)) (decide (4 ∈ K)) (decide (5 ∈ K))
  rcases five hx with rfl | rfl | rfl | rfl | rfl
  · exact ⟨2, fun w => by kernel_rfl, by unfold msk; rw [e1]; simp⟩
  · exact ⟨4, fun w => by kernel_rfl, by unfold msk; rw [e2]; simp⟩
  · exact ⟨8, fun w => by kernel_rfl, by unfold msk; rw [e3]; simp⟩
  · exact ⟨16, fun w => by kernel_rfl, by unfold msk; rw [e4]; simp⟩
  · exact ⟨32, fun w => by kernel_rfl, by unfold msk; rw [e5]; simp⟩
theorem Join_lit (w : World) (o : Obj) (u0 u1 : Value) :
    Calls Tryd.prog 110 #[.slice (some ⟨w.heap.size + 1, 0, none⟩) 2 2] ((w.alloc o).alloc (.cells #[.iface 147 u0, .iface 147 u1] 116)).drew fun e w' => ∃ pb g2 n c, e = .returned (.iface 144 (.pointer (some ⟨pb, 0, none⟩))) ∧ 0 < n ∧ w'.cell? ⟨pb, 0, none⟩ = some (.slice (some ⟨g2, 0, none⟩) n c) ∧ w'.cell? ⟨g2, 0, none⟩ = some (.iface 147 u0) ∧ Below ((w.alloc o).alloc (.cells #[.iface 147 u0, .iface 147 u1] 116)).drew.heap.size ((w.alloc o).alloc (.cells #[.iface 147 u0, .iface 147 u1] 116)).drew w' := by
  have h0 := cell_new2a (w.alloc o) (.iface 147 u0) (.iface 147 u1) 116
  have h1 := cell_new2b (w.alloc o) (.iface 147 u0) (.iface 147 u1) 116
  rw [World.size_alloc] at h0 h1
  exact Join_any _ u0 u1 _ h0 h1
set_option maxHeartbeats 2000000 in
theorem readTrail_any (v : Value) (L : List Int) (a : Addr) (w : World) (hv : Ints w v L) (hE : EPath w a) :
    Calls Tryd.prog 91 #[v] w fun e w' => (POk L ∧ e = .returned (.tuple #[.agg #[.int .u64 (msk L), v], .nilIface]) ∨ ¬ POk L ∧ ∃ u, e = .returned (.tuple #[.agg #[.int .u64 0, .slice none 0 0], u]) ∧ Joined w' a u) ∧ Below w.heap.size w w' := by
  have hF := ((Fb.start w).alloc [.int .u64 0, .slice none 0 0] 114).alloc [.int .u64 0, v] 114
  simp only [World.size_alloc] at hF
  obtain ⟨n, cap, hn, hnc, hcap, ⟨hn0, ao, rfl⟩ | ⟨hn0, b0, off, rfl, hc⟩⟩ := hv.cases
  all_goals
    have HV := Lib.hid hv
    have HE := Lib.hid hE
    clear hv hE
    go_enter Tryd.func91, Tryd.ntmps91
    go_wp2
    go_loopw [5, 6, 11] (fun s5 s6 s11 wr => ∃ k : Nat, k ≤ n ∧ s11 = .int .i64 k ∧ Hid (POk (L.take k)) ∧ Fb w wr [(w.heap.size + 1, [.int .u64 (msk (L.take k)), _]), (w.heap.size, [.int .u64 0, .slice none 0 0])]) (fun _ _ s11 _ => n - (intOf s11).toNat)
    case atStart => exact ⟨0, Nat.zero_le _, rfl, pok_nil, hF⟩
    case round =>
      clear hF
      obtain ⟨k, hk, rfl, hok, hF⟩ := hrel
      by_cases hlt : k < n
      · try (exfalso; omega)
        all_goals
          obtain ⟨x, hx⟩ := get_of hn.out hlt
          have HX := Lib.hid hx
          have c0 := hF.old (hc.out k x hx)
          have o := hF.own; simp only [World.size_alloc, World.size_drew, World.size_setCell, List.mem_cons, List.not_mem_nil, or_false, forall_eq_or_imp, forall_eq, At, and_true, Nat.zero_add, Nat.reduceAdd, List.set_cons_zero, List.set_cons_succ] at o
          clear hx
          by_cases d1 : Bts x 1 5
          · have e1 : decide (Bts x 1 5) = true := by simp [d1]
            by_cases d2 : x ∈ L.take k
            · have e2 : decide (Bts x 1 5 ∧ x ∈ L.take k) = true := by simp [d1, d2]
              have hp : Hid (¬ POk L) := fun g => ((pok_step HX.out).1 (pok_take g (k + 1))).2.2 d2
              clear d1 d2
              go_wp2_with (first | (go_at_call 63; go_must (refine (isHouse_any _ _).mono ?_); rintro e wx ⟨rfl, hbx⟩; replace hF := Fb.below (by repeat (first | assumption | apply Fb.alloc_1 | apply Fb.alloc_2 | apply Fb.alloc_3 | apply Fb.alloc_4 | apply Fb.alloc_5 | apply Fb.alloc_8 | apply Fb.drew | apply Fb.drewN | apply Fb.other)) hbx; clear hbx; (try clear o); have o := hF.own; simp only [World.size_alloc, World.size_drew, World.size_setCell, List.mem_cons, List.not_mem_nil, or_false, forall_eq_or_imp, forall_eq, At, and_true, Nat.zero_add, Nat.reduceAdd, List.set_cons_zero, List.set_cons_succ] at o) | (go_at_call 109; go_must (refine (has_any (L.take k) _ _ _).mono ?_); rintro e wx ⟨rfl, hbx⟩; replace hF := Fb.below (by repeat (first | assumption | apply Fb.alloc_1 | apply Fb.alloc_2 | apply Fb.alloc_3 | apply Fb.alloc_4 | apply Fb.alloc_5 | apply Fb.alloc_8 | apply Fb.drew | apply Fb.drewN | apply Fb.other)) hbx; clear hbx; (try clear o); have o := hF.own; simp only [World.size_alloc, World.size_drew, World.size_setCell, List.mem_cons, List.not_mem_nil, or_false, forall_eq_or_imp, forall_eq, At, and_true, Nat.zero_add, Nat.reduceAdd, List.set_cons_zero, List.set_cons_succ] at o))
              have hk10 : k < 10 := by have h1 := pok_len hok.out; rw [List.length_take] at h1; have := hn.out; omega
              have hE := EPath.old HE.out hF
              have hEa := EPath.allocd (HE.out.below hF.kp)
              go_region_with (first | (go_at_call 112; refine (Itoa_ex k hk10 _).mono ?_; rintro e wy ⟨ss, hss, rfl, rfl⟩; have hsl : ByteArray.size (⟨#[97, 116, 32]⟩ ++ ss) ≤ 13 := (by rw [ByteArray.size_append]; show 3 + _ ≤ _; omega)) | (go_at_call 111; refine (New_any _ _).mono ?_; rintro e wy ⟨rfl, rfl⟩) | (go_at_call 110; refine (Join_lit wx _ _ _).mono ?_; rintro e wy ⟨pb, g2, nn, cc, rfl, hnn, hj1, hj2, hbj⟩; replace hF := ((hF.other _).other _).drew.below hbj; clear o hE hEa; have o := hF.own; simp only [World.size_alloc, World.size_drew, World.size_setCell, List.mem_cons, List.not_mem_nil, or_false, forall_eq_or_imp, forall_eq, At, and_true, Nat.zero_add, Nat.reduceAdd, List.set_cons_zero, List.set_cons_succ] at o))
              all_goals
                have hpb : pb ≠ w.heap.size := fun e => by rw [e, o.2.1.1] at hj1; cases hj1
                have hg2 : g2 ≠ w.heap.size := fun e => by rw [e, o.2.1.1] at hj2; cases hj2
                have j1 := (World.cell?_setCell_other (wy.setCell ⟨w.heap.size, 0, none⟩ (.int .u64 0)) ⟨w.heap.size, 1, none⟩ ⟨pb, 0, none⟩ (.slice none 0 0) (by intro e; injection e; first | contradiction | omega)).trans ((World.cell?_setCell_other wy ⟨w.heap.size, 0, none⟩ ⟨pb, 0, none⟩ (.int .u64 0) (by intro e; injection e; first | contradiction | omega)).trans hj1)
                have j2 := (World.cell?_setCell_other (wy.setCell ⟨w.heap.size, 0, none⟩ (.int .u64 0)) ⟨w.heap.size, 1, none⟩ ⟨g2, 0, none⟩ (.slice none 0 0) (by intro e; injection e; first | contradiction | omega)).trans ((World.cell?_setCell_other wy ⟨w.heap.size, 0, none⟩ ⟨g2, 0, none⟩ (.int .u64 0) (by intro e; injection e; first | contradiction | omega)).trans hj2)
                have q1 := hF.swap.set 0 (.int .u64 0) (by simp) (by simp)
                have q2 := q1.set 1 (.slice none 0 0) (by simp) (by simp)
                have o5 := q2.own
                simp only [List.mem_cons, List.not_mem_nil, or_false, forall_eq_or_imp, forall_eq, At, and_true, Nat.zero_add, Nat.reduceAdd, List.set_cons_zero, List.set_cons_succ] at o5
                go_wp2
                exact bodyPost_ret (v := .tuple #[.agg #[.int .u64 0, .slice none 0 0], .iface 144 (.pointer (some ⟨pb, 0, none⟩))]) (by simp [results, Tryd.results91, go_sem, o5]) rfl ⟨Or.inr ⟨hp.out, _, rfl, pb, g2, nn, cc, rfl, hnn, j1, j2⟩, q2.kp⟩
            · have e2 : decide (Bts x 1 5 ∧ x ∈ L.take k) = false := by simp [d2]
              have hp : Hid (POk (L.take (k + 1))) := (pok_step HX.out).2 ⟨hok.out, d1, d2⟩
              obtain ⟨p, hsh, hor⟩ := shl_add (L.take k) d1
              rw [← take_snoc HX.out] at hor
              clear d1 d2
              go_wp2_with (first | (go_at_call 63; go_must (refine (isHouse_any _ _).mono ?_); rintro e wx ⟨rfl, hbx⟩; replace hF := Fb.below (by repeat (first | assumption | apply Fb.alloc_1 | apply Fb.alloc_2 | apply Fb.alloc_3 | apply Fb.alloc_4 | apply Fb.alloc_5 | apply Fb.alloc_8 | apply Fb.drew | apply Fb.drewN | apply Fb.other)) hbx; clear hbx; (try clear o); have o := hF.own; simp only [World.size_alloc, World.size_drew, World.size_setCell, List.mem_cons, List.not_mem_nil, or_false, forall_eq_or_imp, forall_eq, At, and_true, Nat.zero_add, Nat.reduceAdd, List.set_cons_zero, List.set_cons_succ] at o) | (go_at_call 109; go_must (refine (has_any (L.take k) _ _ _).mono ?_); rintro e wx ⟨rfl, hbx⟩; replace hF := Fb.below (by repeat (first | assumption | apply Fb.alloc_1 | apply Fb.alloc_2 | apply Fb.alloc_3 | apply Fb.alloc_4 | apply Fb.alloc_5 | apply Fb.alloc_8 | apply Fb.drew | apply Fb.drewN | apply Fb.other)) hbx; clear hbx; (try clear o); have o := hF.own; simp only [World.size_alloc, World.size_drew, World.size_setCell, List.mem_cons, List.not_mem_nil, or_false, forall_eq_or_imp, forall_eq, At, and_true, Nat.zero_add, Nat.reduceAdd, List.set_cons_zero, List.set_cons_succ] at o))
              go_region
              go_wp2
              go_roundw
              case rel => exact ⟨k + 1, by omega, by go_num, hp, (hF.set 0 _ (by simp) (by simp)).drew⟩
              case measure => simp [intOf]; omega
          · have e1 : decide (Bts x 1 5) = false := by simp [d1]
            have hp : Hid (¬ POk L) := fun g => d1 ((pok_step HX.out).1 (pok_take g (k + 1))).2.1
            clear d1
            go_wp2_with (first | (go_at_call 63; go_must (refine (isHouse_any _ _).mono ?_); rintro e wx ⟨rfl, hbx⟩; replace hF := Fb.below (by repeat (first | assumption | apply Fb.alloc_1 | apply Fb.alloc_2 | apply Fb.alloc_3 | apply Fb.alloc_4 | apply Fb.alloc_5 | apply Fb.alloc_8 | apply Fb.drew | apply Fb.drewN | apply Fb.other)) hbx; clear hbx; (try clear o); have o := hF.own; simp only [World.size_alloc, World.size_drew, World.size_setCell, List.mem_cons, List.not_mem_nil, or_false, forall_eq_or_imp, forall_eq, At, and_true, Nat.zero_add, Nat.reduceAdd, List.set_cons_zero, List.set_cons_succ] at o))
            have hk10 : k < 10 := by have h1 := pok_len hok.out; rw [List.length_take] at h1; have := hn.out; omega
            have hE := EPath.old HE.out hF
            have hEa := EPath.allocd (HE.out.below hF.kp)
            go_region_with (first | (go_at_call 112; refine (Itoa_ex k hk10 _).mono ?_; rintro e wy ⟨ss, hss, rfl, rfl⟩; have hsl : ByteArray.size (⟨#[97, 116, 32]⟩ ++ ss) ≤ 13 := (by rw [ByteArray.size_append]; show 3 + _ ≤ _; omega)) | (go_at_call 111; refine (New_any _ _).mono ?_; rintro e wy ⟨rfl, rfl⟩) | (go_at_call 110; refine (Join_lit wx _ _ _).mono ?_; rintro e wy ⟨pb, g2, nn, cc, rfl, hnn, hj1, hj2, hbj⟩; replace hF := ((hF.other _).other _).drew.below hbj; clear o hE hEa; have o := hF.own; simp only [World.size_alloc, World.size_drew, World.size_setCell, List.mem_cons, List.not_mem_nil, or_false, forall_eq_or_imp, forall_eq, At, and_true, Nat.zero_add, Nat.reduceAdd, List.set_cons_zero, List.set_cons_succ] at o))
            all_goals
              have hpb : pb ≠ w.heap.size := fun e => by rw [e, o.2.1.1] at hj1; cases hj1
              have hg2 : g2 ≠ w.heap.size := fun e => by rw [e, o.2.1.1] at hj2; cases hj2
              have j1 := (World.cell?_setCell_other (wy.setCell ⟨w.heap.size, 0, none⟩ (.int .u64 0)) ⟨w.heap.size, 1, none⟩ ⟨pb, 0, none⟩ (.slice none 0 0) (by intro e; injection e; first | contradiction | omega)).trans ((World.cell?_setCell_other wy ⟨w.heap.size, 0, none⟩ ⟨pb, 0, none⟩ (.int .u64 0) (by intro e; injection e; first | contradiction | omega)).trans hj1)
              have j2 := (World.cell?_setCell_other (wy.setCell ⟨w.heap.size, 0, none⟩ (.int .u64 0)) ⟨w.heap.size, 1, none⟩ ⟨g2, 0, none⟩ (.slice none 0 0) (by intro e; injection e; first | contradiction | omega)).trans ((World.cell?_setCell_other wy ⟨w.heap.size, 0, none⟩ ⟨g2, 0, none⟩ (.int .u64 0) (by intro e; injection e; first | contradiction | omega)).trans hj2)
              have q1 := hF.swap.set 0 (.int .u64 0) (by simp) (by simp)
              have q2 := q1.set 1 (.slice none 0 0) (by simp) (by simp)
              have o5 := q2.own
              simp only [List.mem_cons, List.not_mem_nil, or_false, forall_eq_or_imp, forall_eq, At, and_true, Nat.zero_add, Nat.reduceAdd, List.set_cons_zero, List.set_cons_succ] at o5
              go_wp2
              exact bodyPost_ret (v := .tuple #[.agg #[.int .u64 0, .slice none 0 0], .iface 144 (.pointer (some ⟨pb, 0, none⟩))]) (by simp [results, Tryd.results91, go_sem, o5]) rfl ⟨Or.inr ⟨hp.out, _, rfl, pb, g2, nn, cc, rfl, hnn, j1, j2⟩, q2.kp⟩
      · have hp : Hid (POk L) := by
          have := hok.out
          rwa [List.take_of_length_le (by rw [hn.out]; omega)] at this
        have hm : Hid (msk (L.take k) = msk L) := by show _ = _; rw [List.take_of_length_le (by rw [hn.out]; omega)]
        have o := hF.own; simp only [World.size_alloc, World.size_drew, World.size_setCell, List.mem_cons, List.not_mem_nil, or_false, forall_eq_or_imp, forall_eq, At, and_true, Nat.zero_add, Nat.reduceAdd, List.set_cons_zero, List.set_cons_succ] at o
        rw [hm.out] at o
        go_wp2
        have g1 := hF.swap.set 0 (.int .u64 (msk L)) (by simp) (by simp)
        first | (have g2 := g1.set 1 (.slice ao n cap) (by simp) (by simp); have o5 := g2.own; simp only [List.mem_cons, List.not_mem_nil, or_false, forall_eq_or_imp, forall_eq, At, and_true, Nat.zero_add, Nat.reduceAdd, List.set_cons_zero, List.set_cons_succ] at o5; exact bodyPost_ret (v := .tuple #[.agg #[.int .u64 (msk L), (.slice ao n cap)], .nilIface]) (by simp [results, Tryd.results91, go_sem, o5]) rfl ⟨Or.inl ⟨hp.out, rfl⟩, g2.kp⟩) | (have g2 := g1.set 1 (.slice (some ⟨b0, off, none⟩) n cap) (by simp) (by simp); have o5 := g2.own; simp only [List.mem_cons, List.not_mem_nil, or_false, forall_eq_or_imp, forall_eq, At, and_true, Nat.zero_add, Nat.reduceAdd, List.set_cons_zero, List.set_cons_succ] at o5; exact bodyPost_ret (v := .tuple #[.agg #[.int .u64 (msk L), (.slice (some ⟨b0, off, none⟩) n cap)], .nilIface]) (by simp [results, Tryd.results91, go_sem, o5]) rfl ⟨Or.inl ⟨hp.out, rfl⟩, g2.kp⟩)
end Go.Proofs.YtonojegnbcgnaaaDoor
