/- append([]int{}, v...): a copy. -/
import Derived.Test.YtgegmampnpgcaaaDoorEf
set_option linter.unusedSimpArgs false
set_option linter.unusedVariables false
namespace Go.Proofs.YtgegmampnpgcaaaDoor
open Go Go.RowKit

theorem run_app_nil {P : Program} (w : World) (t ty E : TypeId) (i : TypeInfo) (ht : P.underlying t = some (.slice E)) (hi : P.info? E = some i) (g : Nat) :
    (Builtin.append_ #[t, t] ty #[.slice (some ⟨g, 0, none⟩) 0 0, .slice none 0 0]).run P w = .ok (.slice (some ⟨g, 0, none⟩) 0 0) w := by
  simp [Builtin.append_, run_underlying ht, sizeOf, typeInfo, hi, Builtin.lenOf, Builtin.firstCells, loadCells, loadCellsFrom, storeCells, Result.andThen]
theorem wpList_copy {P : Program} {ops : Array Oper} {rest : List Oper} {o : Oper} {a : Act} {w : World} {Q : Exit → Act → World → Prop} (hgd : o.guard = none) (s x : Operand) (t : TypeId)
    (ho : o.op = .call { callee := .builtin .append, args := #[s, x], argTypes := #[t, t] })
    (E : TypeId) (z : Value) (bytes : Nat) (ht : P.underlying t = some (.slice E)) (hI : (P.info? E).map (fun i => (i.zero, i.size, i.bytes)) = some (some z, 1, bytes)) (hzs : z.cells.size = 1) (hby : bytes ≤ 1000)
    (hs : a.eval s = .slice (some ⟨w.heap.size, 0, none⟩) 0 0) (v : Value) (K : List Int) (hx : a.eval x = v) (hK : It w v K) (hlen : K.length ≤ 1000000)
    (h : ∀ g c w', Own E w' w.heap.size (.slice (some ⟨g, 0, none⟩) K.length c) 1 encI K → Below w.heap.size w w' → wpList P ops Q rest (a.put o.dst (.slice (some ⟨g, 0, none⟩) K.length c)) w') : wpList P ops Q (o :: rest) a (w.alloc (.cells #[] E)) := by
  have hb0 := (Below.refl w.heap.size w).alloc (Nat.le_refl _) (.cells #[] E)
  have hO := Own.made (B := w.heap.size) E w 1 encI (Nat.le_refl _)
  have hI2 := hK.below hb0
  rcases hI2.2 with rfl | ⟨b, off, n, c, rfl⟩
  · have hk : K = [] := by
      obtain ⟨ao, cap, e, _⟩ := hI2.1.ex
      injection e with _ e
      exact List.length_eq_zero_iff.1 e.symm
    subst hk
    obtain ⟨i, hi, hz, hsize, hbytes⟩ := info_parts hI
    refine wpList_plain hgd fun K' hK' => ?_
    unfold Oper.wp execOp
    simp only [ho, resolve, invoke, builtin, Sem.run_bind, Sem.run_pure, Result.andThen_ok, List.map_toArray, List.map_cons, List.map_nil, hs, hx, run_app_nil _ t _ E i ht hi]
    exact hK' _ _ (h _ _ _ hO hb0)
  · refine wpList_apps hgd s x t ho E z 1 bytes ht hI hzs (by decide) hby w.heap.size encI (fun _ => rfl) (fun _ u hu => by simp [encI] at hu; subst hu; rfl) _ [] hs hO b off n c K hx hI2.1 (by
      obtain ⟨ao, cap, e, _⟩ := hI2.1.ex
      injection e with _ e; simp; omega) (by simp) fun v' w' h1 h2 h3 h4 h5 => ?_
    rw [List.nil_append] at h1
    rcases h1.two with ⟨q, -⟩ | ⟨g, cc, m, rfl, -, hm⟩
    · have := (h5.1 q).1; cases this
    · have hm' := hm.out
      subst hm'
      exact h _ _ _ h1 (hb0.trans h3)
end Go.Proofs.YtgegmampnpgcaaaDoor
