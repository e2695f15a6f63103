/- Small words used everywhere: numbers in bounds; what a callee leaves. errors.Is at a sentinel: nil, itself, a joined error whose first one it is. After the kit's SentryIs. Slices of one's own that grow, in one word: the row reads as a list; each append leaves other rows alone. -/
import Derived.Test.YtonojegnbcgnaaaDoorZ1
import Derived.Test.YtonojegnbcgnaaaDoorZ2
import Derived.Test.YtonojegnbcgnaaaDoorChecked
import Derived.LaidEql
import Derived.Stop.Asserts
import Derived.RowKitTokens
import Derived.OwnWalk
set_option linter.unusedSimpArgs false
set_option linter.unusedVariables false
namespace Go.Proofs.YtonojegnbcgnaaaDoor
open Go.RowKit

theorem bcell {W w1 : World} {B : Nat} (hb : Below B W w1) : (∀ b o, b < B → w1.cell? ⟨b, o, none⟩ = W.cell? ⟨b, o, none⟩) ∧ (∀ b o, b < B → w1.frozen? ⟨b, o, none⟩ = W.frozen? ⟨b, o, none⟩) :=
  ⟨fun b o h => hb.cell (p := ⟨b, o, none⟩) h, fun b o h => hb.frozen (p := ⟨b, o, none⟩) h⟩
theorem Cl.c2 {w : World} (x : Cl w.heap.size w) {b : Nat} {v0 v1 : Value} (o : w.cell? ⟨b, 0, none⟩ = some v0 ∧ w.cell? ⟨b, 1, none⟩ = some v1 ∧ w.frozen? ⟨b, 0, none⟩ = false ∧ w.frozen? ⟨b, 1, none⟩ = false) :
    x.W.cell? ⟨b, 0, none⟩ = some v0 ∧ x.W.cell? ⟨b, 1, none⟩ = some v1 := ⟨x.cell o.1, x.cell o.2.1⟩
def Bts (n lo hi : Int) : Prop := lo ≤ n ∧ n ≤ hi
instance (n lo hi : Int) : Decidable (Bts n lo hi) := by unfold Bts; infer_instance
theorem l6In_any (n lo hi : Int) (w : World) :
    Calls Tryd.prog 39 #[.int .i64 n, .int .i64 lo, .int .i64 hi] w fun e w' => e = .returned (.bool (decide (Bts n lo hi))) ∧ Below w.heap.size w w' := by
  go_enter Tryd.func39, Tryd.ntmps39
  go_wp2
  all_goals (go_ret; refine ⟨ret_bool ?_, Below.refl _ _⟩; rw [Bool.eq_iff_iff]; simp; unfold Bts; omega)
end Go.Proofs.YtonojegnbcgnaaaDoor
set_option linter.unusedSimpArgs false
set_option linter.unusedVariables false
namespace Go.Proofs.YtonojegnbcgnaaaDoor
open Go.RowKit Go.Extern.Stop Go.Stop Go.Extern

theorem isTypeOf (v : Value) (w : World) : (Extern.ReflectliteType.typeOf #[.iface 147 v]).run Tryd.prog w = .ok (.iface 151 (.agg #[.pointer (some ⟨4, 147, none⟩)])) w := by kernel_rfl
noncomputable def cmpE : Array Value → Sem Value := Extern.ReflectliteType.method fun t => do Rtype.noPackHeld "Comparable" t; pure (.bool (← typeInfo t).comparable)
theorem isComparable (w : World) : (cmpE #[.agg #[.pointer (some ⟨4, 147, none⟩)]]).run Tryd.prog w = .ok (.bool true) w := by kernel_rfl
theorem comp_call (w : World) : (callFunc 162 #[.agg #[.pointer (some ⟨4, 147, none⟩)]]).run Tryd.prog w = .ok (.value (.bool true)) w := by
  have h := @run_callFunc_extern Tryd.prog 162 _ cmpE Tryd.func162 (by kernel_rfl) (by kernel_rfl) (by kernel_rfl) (by kernel_rfl)
  rw [h, isComparable]; rfl
theorem isComp : (Tryd.prog.info? 147).map (·.comparable) = some true := by kernel_rfl
theorem isSize : (Tryd.prog.info? 149).map (·.size) = some 1 := by kernel_rfl
theorem noIsJ (v : Value) (xT : TypeId) (w : World) : (Instr.typeAssert (.iface 144 v) xT 153 true).run Tryd.prog w = .ok (.tuple #[.nilIface, .bool false]) w := run_typeAssert_lacksB Tryd.underlying153 (by kernel_rfl) (by kernel_rfl) v xT w
theorem noUnwrapJ (v : Value) (xT : TypeId) (w : World) : (Instr.typeAssert (.iface 144 v) xT 156 true).run Tryd.prog w = .ok (.tuple #[.nilIface, .bool false]) w := run_typeAssert_lacksB Tryd.underlying156 (by kernel_rfl) (by kernel_rfl) v xT w
theorem hasUnwrapsJ (v : Value) (xT : TypeId) (w : World) : (Instr.typeAssert (.iface 144 v) xT 158 true).run Tryd.prog w = .ok (.tuple #[.iface 144 v, .bool true]) w := run_typeAssert_hasB Tryd.underlying158 (by kernel_rfl) v xT w

theorem isMethodComparable (v : Value) (w : World) : (Go.method 311 151 v "Comparable").run Tryd.prog w = .ok (162, v) w := by kernel_rfl
theorem isMethodUnwrap (v : Value) (w : World) : (Go.method 311 144 v "Unwrap").run Tryd.prog w = .ok (157, v) w := by kernel_rfl

/-- errors.is(x, x). -/
theorem is1_same (a : Addr) (w : World) :
    Calls Tryd.prog 114 #[.iface 147 (.pointer (some a)), .iface 147 (.pointer (some a)), .bool true] w fun e w' => e = .returned (.bool true) ∧ w' = w := by
  obtain ⟨i, hi, hcmp⟩ := Option.map_eq_some_iff.1 isComp
  obtain ⟨j, hj, hjs⟩ := Option.map_eq_some_iff.1 isSize
  have heq := run_eql_iface_ptr_same (P := Tryd.prog) w a Tryd.underlying116 Tryd.underlying147 hi hcmp hj
  go_enter Tryd.func114, Tryd.ntmps114
  go_wp2
  refine wp_loop_rounds 1 ?_
  rw [rounds_succ]
  go_wp2
  go_ret
  exact ⟨rfl, rfl⟩
/-- errors.is(a joined error whose first is x, x). -/
theorem is1_join (pb g n c : Nat) (a : Addr) (w : World) (hn : 0 < n) (h1 : w.cell? ⟨pb, 0, none⟩ = some (.slice (some ⟨g, 0, none⟩) n c)) (h2 : w.cell? ⟨g, 0, none⟩ = some (.iface 147 (.pointer (some a)))) :
    Calls Tryd.prog 114 #[.iface 144 (.pointer (some ⟨pb, 0, none⟩)), .iface 147 (.pointer (some a)), .bool true] w fun e w' => e = .returned (.bool true) ∧ w' = w := by
  have nI := noIsJ
  have nU := noUnwrapJ
  have hU := hasUnwrapsJ
  have mU := isMethodUnwrap
  have hty := run_eql_iface_types (P := Tryd.prog) 144 147 (.pointer (some ⟨pb, 0, none⟩)) (.pointer (some a)) Tryd.underlying116 (by decide) w
  go_enter Tryd.func114, Tryd.ntmps114
  go_wp2
  refine wp_loop_rounds 1 ?_
  rw [rounds_succ]
  go_wp2_with (first | (go_at_call 114; refine (is1_same _ _).mono ?_; rintro e w' ⟨rfl, rfl⟩) | go_in)
  refine wp_loop_rounds 1 ?_
  rw [rounds_succ]
  go_wp2_with (first | (go_at_call 114; refine (is1_same _ _).mono ?_; rintro e w' ⟨rfl, rfl⟩) | go_in)
  go_ret
  exact ⟨rfl, rfl⟩
/-- errors.Is(nil, x). -/
theorem is_nil (a : Addr) (w : World) :
    Calls Tryd.prog 92 #[.nilIface, .iface 147 (.pointer (some a))] w fun e w' => e = .returned (.bool false) ∧ w' = w := by
  have hn := run_eql_iface_nil_left (P := Tryd.prog) w 147 (.pointer (some a)) Tryd.underlying116
  go_enter Tryd.func92, Tryd.ntmps92
  go_wp2
  go_ret
  exact ⟨rfl, rfl⟩
/-- errors.Is(a joined error whose first is x, x). -/
theorem is_join (pb g n c : Nat) (a : Addr) (w : World) (hn : 0 < n) (h1 : w.cell? ⟨pb, 0, none⟩ = some (.slice (some ⟨g, 0, none⟩) n c)) (h2 : w.cell? ⟨g, 0, none⟩ = some (.iface 147 (.pointer (some a)))) :
    Calls Tryd.prog 92 #[.iface 144 (.pointer (some ⟨pb, 0, none⟩)), .iface 147 (.pointer (some a))] w fun e w' => e = .returned (.bool true) ∧ w' = w := by
  have h8 := @run_callFunc_extern Tryd.prog 113 _ Extern.ReflectliteType.typeOf Tryd.func113 (by kernel_rfl) (by kernel_rfl) (by kernel_rfl) (by kernel_rfl)
  have h32 := comp_call
  have tT := isTypeOf
  have mR := isMethodComparable
  go_enter Tryd.func92, Tryd.ntmps92
  go_wp2_with (first | (go_at_call 114; refine (is1_join _ _ _ _ _ _ hn h1 h2).mono ?_; rintro e w' ⟨rfl, rfl⟩) | go_in)
  go_ret
  exact ⟨rfl, rfl⟩
end Go.Proofs.YtonojegnbcgnaaaDoor
set_option linter.unusedSimpArgs false
set_option linter.unusedVariables false
namespace Go.Proofs.YtonojegnbcgnaaaDoor
open Go.RowKit

/-- v is a slice of one's own, from block B on, that reads as L. -/
def Own {α : Type} (E : TypeId) (w : World) (B : Nat) (v : Value) (sz : Nat) (enc : α → List Value) (L : List α) : Prop := w.ownsRow B E sz v L.length (L.flatMap enc)
/-- After an append: in the block where it was, or in a new one. -/
def Frsh (w : World) (v v' : Value) : Prop := v'.ownBlock = v.ownBlock ∨ ∃ g, v'.ownBlock = some g ∧ w.heap.size ≤ g
def Apart (u v : Value) : Prop := ∀ g, u.ownBlock = some g → v.ownBlock ≠ some g
theorem Apart.symm {u v : Value} (h : Apart u v) : Apart v u := fun g h1 h2 => h g h2 h1
theorem Apart.frsh {w : World} {u v v' : Value} (h : Apart u v) (hf : Frsh w v v') (hu : ∀ g, u.ownBlock = some g → g < w.heap.size) : Apart u v' := fun g h1 h2 => by
  rcases hf with e | ⟨g', e, hg⟩
  · rw [e] at h2; exact h g h1 h2
  · rw [e] at h2; injection h2 with h2; have := hu g h1; omega
theorem Apart.frsh' {w : World} {u v v' : Value} (h : Apart v u) (hf : Frsh w v v') (hu : ∀ g, u.ownBlock = some g → g < w.heap.size) : Apart v' u := (h.symm.frsh hf hu).symm
theorem Frsh.trans {w w1 : World} {u v x : Value} (h : Frsh w u v) (k : Frsh w1 v x) (hs : w.heap.size ≤ w1.heap.size) : Frsh w u x := by
  rcases k with e | ⟨g, e, hg⟩
  · rcases h with e1 | ⟨g, e1, hg⟩
    · exact Or.inl (e.trans e1)
    · exact Or.inr ⟨g, e.trans e1, hg⟩
  · exact Or.inr ⟨g, e, by omega⟩
theorem apart_nil (u : Value) (n c : Nat) : Apart u (.slice none n c) := fun g _ h => by simp [Value.ownBlock] at h
theorem apart_lt {B : Nat} {u v : Value} (hu : ∀ g, u.ownBlock = some g → g < B) (hv : ∀ g, v.ownBlock = some g → B ≤ g) : Apart u v := fun g h1 h2 => by have := hu g h1; have := hv g h2; omega
section
variable {α : Type} {E : TypeId} {w w' : World} {B : Nat} {v : Value} {sz : Nat} {enc : α → List Value} {L : List α}
theorem Own.rows (h : Own E w B v sz enc L) (hs : ∀ x, (enc x).length = sz) : Rows w v sz enc L := Rows.of_own h hs rfl rfl
theorem Own.lt (h : Own E w B v sz enc L) : ∀ g, v.ownBlock = some g → g < w.heap.size := fun g hg => (World.ownsRow.lt h g hg).2
theorem Own.ge (h : Own E w B v sz enc L) : ∀ g, v.ownBlock = some g → B ≤ g := fun g hg => (World.ownsRow.lt h g hg).1
theorem Own.kp {r : Nat} (h : Own E w B v sz enc L) (K : Kp r w w') (hr : r < B) : Own E w' B v sz enc L := own_kp h K hr
theorem Own.below (h : Own E w B v sz enc L) (K : Below w.heap.size w w') : Own E w' B v sz enc L := own_below h K
theorem Own.alloc (h : Own E w B v sz enc L) (o : Obj) : Own E (w.alloc o) B v sz enc L := World.ownsRow.alloc h o
theorem Own.drew (h : Own E w B v sz enc L) : Own E w.drew B v sz enc L := h.below (Below.refl _ _).drew
theorem Own.set (h : Own E w B v sz enc L) {a : Addr} (ha : a.block < B) (u : Value) : Own E (w.setCell a u) B v sz enc L := own_set h ha u
theorem Own.grown (h : Own E w B v sz enc L) {u : Value} (hg : w.grownBy w' u.ownBlock) (hu : Apart v u) : Own E w' B v sz enc L := by
  refine World.ownsRow.kept h hg ?_
  cases hv : v.ownBlock with
  | none => exact Or.inl rfl
  | some g => exact Or.inr (fun e => hu g hv e.symm)
theorem Own.base {B' : Nat} (h : Own E w B' v sz enc L) (hB : B ≤ B') : Own E w B v sz enc L := by
  obtain ⟨h1, ⟨e1, e2⟩ | ⟨g, cap, cur, rfl, h2, h3⟩⟩ := h
  · exact ⟨h1, Or.inl ⟨e1, e2⟩⟩
  · exact ⟨h1, Or.inr ⟨g, cap, cur, rfl, Nat.le_trans hB h2, h3⟩⟩
theorem Own.nil (E : TypeId) (w : World) (B sz : Nat) (enc : α → List Value) : Own E w B (.slice none 0 0) sz enc [] := World.ownsRow_nil w B E sz
theorem Own.made (E : TypeId) (w : World) (B sz : Nat) (enc : α → List Value) (hB : B ≤ w.heap.size) : Own E (w.alloc (.cells #[] E)) B (.slice (some ⟨w.heap.size, 0, none⟩) 0 0) sz enc [] := World.ownsRow_made (hb := hB) (hm := Nat.zero_le _) (hs := by simp)
/-- A slice written out, of k elements. -/
theorem Own.lit (E : TypeId) (w : World) (B sz : Nat) (enc : α → List Value) (L : List α) (hs : ∀ x, (enc x).length = sz) (hB : B ≤ w.heap.size) (hL : L.length ≤ 1000000) : Own E (w.alloc (.cells (L.flatMap enc).toArray E)) B (.slice (some ⟨w.heap.size, 0, none⟩) L.length L.length) sz enc L := by
  have hl : (L.flatMap enc).length = L.length * sz := by
    clear hL
    induction L with
    | nil => simp
    | cons x L ih => rw [List.flatMap_cons, List.length_append, ih, hs, List.length_cons, Nat.succ_mul]; omega
  exact ⟨hl, Or.inr ⟨w.heap.size, _, _, rfl, hB, heap_alloc_new w _, Nat.le_refl _, by unfold maxLen; omega, by rw [List.size_toArray]; exact hl, by rw [← hl]; exact List.take_length⟩⟩
theorem Own.sl (h : Own E w B v sz enc L) : ∃ ao cap, v = .slice ao L.length cap := by
  obtain ⟨h1, ⟨rfl, h2⟩ | ⟨g, cap, cur, rfl, h2, h3⟩⟩ := h
  · rw [h2]; exact ⟨none, 0, rfl⟩
  · exact ⟨_, _, rfl⟩
/-- Rows that others' appends leave alone. -/
theorem Rows.grown (h : Rows w v sz enc L) {u : Value} (hg : w.grownBy w' u.ownBlock) (hu : Apart v u) : Rows w' v sz enc L := by
  obtain ⟨ao, cap, e, h1, h2, h3⟩ := h.ex
  refine ⟨ao, cap, e, h1, h2, fun k x hk => ?_⟩
  obtain ⟨b, off, e1, hc⟩ := h3 k x hk
  exact ⟨b, off, e1, fun j y hj => hg.cell (hc j y hj) (fun e2 => hu b (by rw [e, e1]; rfl) e2.symm)⟩
end
theorem own_ne {α : Type} {E : TypeId} {w : World} {B : Nat} {v : Value} {sz : Nat} {enc : α → List Value} {L : List α} (h : Own E w B v sz enc L) (hL : 0 < L.length) : v ≠ .slice none 0 0 := by
  obtain ⟨_, ⟨rfl, h2⟩ | ⟨g, cap, cur, rfl, _⟩⟩ := h
  · omega
  · intro e; cases e
section
variable {P : Program} {w : World}
theorem append_block (base : Nat) (t ty e : TypeId) (i : TypeInfo) (z : Value) (size bytes : Nat) (ht : P.underlying t = some (.slice e)) (hi : P.info? e = some i) (hz : i.zero = some z)
    (hsize : i.size = size) (hby : i.bytes = bytes)
    (v : Value) (n : Nat) (xs : List Value) (hown : w.ownsRow base e size v n xs)
    (a : Addr) (m c : Nat) (news : List Value) (hl : news.length = m * size) (hnews : ∀ j u, news[j]? = some u → w.cell? (a.add j) = some u) (h1 : ∀ u ∈ news, u.oneCell' = true)
    (h63 : n + m ≤ maxLen) (hbytes : (n + m) * bytes ≤ 140737488355328) (hm0 : 0 < m) {v' : Value} {w' : World}
    (hr0 : (Builtin.append_ #[t, t] ty #[v, .slice (some a) m c]).run P w = .ok v' w') : Frsh w v v' := by
  subst hsize
  subst hby
  have hsmall : n + m ≤ 9223372036854775807 := by simp only [maxLen] at h63; omega
  rcases hown.2 with ⟨rfl, rfl⟩ | ⟨g, cap, cur, rfl, hbg, hg, hnc, hcm, hcs, htake⟩
  · have hr := run_append_nil (P := P) w t ty e i z ht hi hz a m c news hl hnews (by omega) (by omega) (by have hb := hbytes; simp only [Nat.zero_add] at hb; omega)
    rw [hr] at hr0
    injection hr0 with h1 h2
    subst h1
    exact Or.inr ⟨_, rfl, Nat.le_refl _⟩
  · by_cases hroom : n + m ≤ cap
    · have hfit : n * i.size + news.length ≤ cur.size := by rw [hl, hcs, ← Nat.add_mul]; exact Nat.mul_le_mul_right _ hroom
      have hr := run_append_room (P := P) w t ty e i ht hi g n cap cur hg a m c news hl hnews h1 hroom hfit
      rw [hr] at hr0
      injection hr0 with h1 h2
      subst h1
      exact Or.inl rfl
    · have holds : ∀ j u, xs[j]? = some u → w.cell? ((⟨g, 0, none⟩ : Addr).add j) = some u := hown.cells (g := g) rfl
      have hr := run_append_grow (P := P) w t ty e i z ht hi hz ⟨g, 0, none⟩ n cap xs hown.1 holds a m c news hl hnews (by omega) (by omega) (growslice_fits (by omega) hbytes)
      rw [hr] at hr0
      injection hr0 with h1 h2
      subst h1
      exact Or.inr ⟨_, rfl, Nat.le_refl _⟩
end
theorem wpList_app {α : Type} {P : Program} {ops : Array Oper} {rest : List Oper} {o : Oper} {a : Act} {w : World} {Q : Exit → Act → World → Prop} (hgd : o.guard = none) (s x : Operand) (t : TypeId)
    (ho : o.op = .call { callee := .builtin .append, args := #[s, x], argTypes := #[t, t] })
    (E : TypeId) (z : Value) (sz bytes : Nat) (ht : P.underlying t = some (.slice E)) (hI : (P.info? E).map (fun i => (i.zero, i.size, i.bytes)) = some (some z, sz, bytes)) (hzs : z.cells.size = sz) (hsz : 0 < sz) (hby : bytes ≤ 1000)
    (B : Nat) (enc : α → List Value) (v : Value) (L : List α) (hs : a.eval s = v) (hown : Own E w B v sz enc L) (y : α)
    (ad : Addr) (c : Nat) (hx : a.eval x = .slice (some ad) 1 c) (hl : (enc y).length = sz) (hnews : ∀ j u, (enc y)[j]? = some u → w.cell? (ad.add j) = some u) (h1 : ∀ u ∈ enc y, u.oneCell' = true)
    (hlen : L.length ≤ 1000000) (hB : B ≤ w.heap.size)
    (h : ∀ v' w', Own E w' B v' sz enc (L ++ [y]) → w.grownBy w' v.ownBlock → Below B w w' → Frsh w v v' → wpList P ops Q rest (a.put o.dst v') w') : wpList P ops Q (o :: rest) a w := by
  obtain ⟨i, hi, hz, hsize, hbytes⟩ := info_parts hI
  have hm : L.length + 1 ≤ maxLen := by unfold maxLen; omega
  have hb : (L.length + 1) * bytes ≤ 140737488355328 := Nat.le_trans (Nat.mul_le_mul (show L.length + 1 ≤ 1000001 by omega) hby) (by omega)
  obtain ⟨v', w', hr, h2, h3, h4⟩ := run_append_own (P := P) w B t o.type E i z sz bytes ht hi hz hsize hbytes hzs hsz v L.length (L.flatMap enc) hown ad 1 c (enc y) (by omega) hnews h1 hm hb hB
  have hf := append_block (P := P) (w := w) B t o.type E i z sz bytes ht hi hz hsize hbytes v L.length (L.flatMap enc) hown ad 1 c (enc y) (by omega) hnews h1 hm hb (by omega) hr
  refine wpList_plain hgd fun K hK => ?_
  unfold Oper.wp execOp
  simp only [ho, resolve, invoke, builtin, Sem.run_bind, Sem.run_pure, Result.andThen_ok, List.map_toArray, List.map_cons, List.map_nil, hs, hx, hr]
  exact hK _ _ (h v' w' (by unfold Own; rw [List.length_append, List.flatMap_append]; simpa using h2) h3 (own_grown hown h3 hB) hf)
end Go.Proofs.YtonojegnbcgnaaaDoor
