/- Operations in company, on: stores, appends, calls and returns. A region that draws its order, in company: whatever order comes up; an operation that gives its value wherever old memory is as it was may be taken first. impl.DeltaMany in company. -/
import Derived.Test.YtjkfnjjkjhggfaaZ25
import Derived.Test.YtjkfnjjkjhggfaaChecked
import Derived.RowKit
import Derived.Conc.WalkWords
set_option linter.unusedSimpArgs false
set_option linter.unusedVariables false
namespace Go.Proofs.Ytjkfnjjkjhggfaa
open Go.Conc

section
variable {P : Program} {nf c : Nat} {me : Bool} {n : Nat} {w w1 w2 : World} {o o1 o2 : Who} {Q : Goroutine → World → Who → Prop} {b : Frame} {a : Act} {k : List Item} {cs : List Frame} {ops : Array Oper} {i : Nat} {rest : List Nat} {op : Oper}
theorem ext_lt {j : Nat} (hj : j < w1.heap.size) : ext me w1 o1 j = o1 j := by simp [ext, hj]
theorem store_law (w1 : World) {x y : Operand} {t E : TypeId} {inf : TypeInfo} {g off : Nat} {cur : Array Value} {vs : List Value} (hop : op.op = .store t x y) (ha : a.eval x = .pointer (some ⟨g, off, none⟩)) (hv : (a.eval y).cells.toList = vs) (hi : P.info? t = some inf) (hz : inf.size = vs.length)
    (h1 : ∀ v ∈ vs, v.oneCell' = true) (hg : w1.heap[g]? = some (.cells cur E (0, 0))) (hfit : off + vs.length ≤ cur.size) :
    (execOp a.eval op).run P w1 = .ok .skip (w1.setRow g (cur.toList.take off ++ vs ++ cur.toList.drop (off + vs.length)).toArray) ∧ ∀ e ∈ (execOp a.eval op).events P w1 #[], ∃ ad, e.loc = .cell ad ∧ ad.block = g := by
  have hsz : (a.eval y).cells.size = vs.length := by rw [← hv, Array.length_toList]
  have hst := run_storeCells_at P g off E vs 0 cur w1 hg (by simpa using hfit) h1
  unfold execOp
  simp only [hop, ha, Instr.storeAt, Instr.sureAddr, storeVar]
  constructor
  · simp [sizeOf, typeInfo, hi, hz, hsz, hv, hst]
  · intro e he
    simp [sizeOf, typeInfo, hi, hz, hsz, hv] at he
    exact (events_storeCells_at (P := P) g off E vs 0 cur w1 #[] hg (by simpa using hfit) h1 e he).resolve_left (by simp)
/-- A STORE into a block of one's own. -/
theorem Eff.store (hcn : c < nf) {x y : Operand} {t E : TypeId} {inf : TypeInfo} {g off : Nat} {cur : Array Value} {vs : List Value} (hop : op.op = .store t x y) (ha : a.eval x = .pointer (some ⟨g, off, none⟩)) (hv : (a.eval y).cells.toList = vs) (hi : P.info? t = some inf) (hz : inf.size = vs.length) (h1 : ∀ v ∈ vs, v.oneCell' = true)
    (hK : Kn nf c me w o g (.cells cur E (0, 0))) (hg : nf ≤ g) (hm : o g = me) (hfit : off + vs.length ≤ cur.size) :
    Eff P nf c me op a w o fun v w' o' => v = undef ∧ RX nf c me (some g) w o w' o' ∧ o' g = me ∧ Kn nf c me w' o' g (.cells (cur.toList.take off ++ vs ++ cur.toList.drop (off + vs.length)).toArray E (0, 0)) := by
  intro w1 o1 r
  have hK1 := hK.rx (r.rx none) (by simp)
  have hm1 : o1 g = me := (r.own g hK.lt).trans hm
  obtain ⟨h2, h3⟩ := store_law (P := P) (a := a) (op := op) w1 hop ha hv hi hz h1 hK1.eq hfit
  refine ⟨undef, _, .inr ⟨h2, rfl⟩, ⟨rfl, rfl, rfl, by simp, fun j hj hx => setRow_other _ _ _ _ ?_⟩, fun e he => ?_, rfl, (RX.of_ro r ⟨rfl, rfl, rfl, by simp, fun j hj => ext_lt hj, fun j _ _ _ hj => setRow_other _ _ _ _ fun e => hj (by rw [e])⟩) , by rw [ext_lt hK1.lt]; exact hm1, ⟨by simpa using hK1.lt, by omega, .inr (by rw [ext_lt hK1.lt]; exact hm1), setRow_heap _ _ _ _ _ _ hK1.eq⟩⟩
  · rintro rfl
    rcases hx with hx | hx
    · omega
    · exact hx hm1
  · obtain ⟨ad, h4, h5⟩ := h3 e he
    exact .inr ⟨g, by rw [h4]; simp [locBlock, h5], by simpa using hK1.lt, .inl ⟨hg, by rw [ext_lt hK1.lt]; exact hm1⟩⟩
theorem Seg.store (hcn : c < nf) {x y : Operand} {t E : TypeId} {inf : TypeInfo} {g off : Nat} {cur : Array Value} {vs : List Value} (ho : ops[i]? = some op) (hw : Region.wanted op (yielded ops a.tmps) = true) (hk : b.kind ≠ .early)
    (hop : op.op = .store t x y) (ha : a.eval x = .pointer (some ⟨g, off, none⟩)) (hv : (a.eval y).cells.toList = vs) (hi : P.info? t = some inf) (hz : inf.size = vs.length) (h1 : ∀ v ∈ vs, v.oneCell' = true)
    (hK : Kn nf c me w o g (.cells cur E (0, 0))) (hg : nf ≤ g) (hm : o g = me) (hfit : off + vs.length ≤ cur.size)
    (hs : ∀ w' o', RX nf c me (some g) w o w' o' → o' g = me → Kn nf c me w' o' g (.cells (cur.toList.take off ++ vs ++ cur.toList.drop (off + vs.length)).toArray E (0, 0)) → Seg P nf c me Q n (G (b.at (a.put op.dst undef) (.inRegion ops rest :: k)) cs) w' o') :
    Seg P nf c me Q (n + 1) (G (b.at a (.inRegion ops (i :: rest) :: k)) cs) w o :=
  Seg.eff ho hw hk (Eff.store hcn hop ha hv hi hz h1 hK hg hm hfit) fun _ w' o' ⟨e, h1, h2, h3⟩ => e ▸ hs w' o' h1 h2 h3
theorem run_append_call {s x : Operand} {t : TypeId} (hop : op.op = .call { callee := .builtin .append, args := #[s, x], argTypes := #[t, t] }) (w1 : World) :
    (execOp a.eval op).run P w1 = ((Builtin.append_ #[t, t] op.type #[a.eval s, a.eval x]).run P w1).andThen (fun v w' => .ok (.value v) w') ∧ (execOp a.eval op).events P w1 #[] = (Builtin.append_ #[t, t] op.type #[a.eval s, a.eval x]).events P w1 #[] := by
  unfold execOp
  simp only [hop, resolve, invoke, builtin]
  constructor
  · simp
  · simp
/-- AN APPEND onto a row of one's own (or nil), of elements that lie in known cells. -/
theorem Eff.append (hcn : c < nf) (hn : nf ≤ w.heap.size) (s x : Operand) (t : TypeId)
    (hop : op.op = .call { callee := .builtin .append, args := #[s, x], argTypes := #[t, t] })
    (E : TypeId) (inf : TypeInfo) (z : Value) (sz : Nat) (ht : P.underlying t = some (.slice E)) (hi : P.info? E = some inf) (hz : inf.zero = some z) (hsize : inf.size = sz) (hzs : z.cells.size = sz) (hsz : 0 < sz)
    {v : Value} {len : Nat} {xs : List Value} (hv : a.eval s = v) (hown : OwnO nf me w o E sz v len xs) {ad : Addr} {m cp : Nat} {news : List Value} (hx : a.eval x = .slice (some ad) m cp) (hl : news.length = m * sz)
    (hnews : ∀ j u, news[j]? = some u → Ck nf c me w o (ad.add j) u) (h1 : ∀ u ∈ news, u.oneCell' = true) (h63 : len + m ≤ maxLen) (hbytes : (len + m) * inf.bytes ≤ 140737488355328) (hm : 0 < m) :
    Eff P nf c me op a w o fun v' w' o' => RX nf c me v.ownBlock w o w' o' ∧ OwnO nf me w' o' E sz v' (len + m) (xs ++ news) ∧ (v'.ownBlock = v.ownBlock ∨ ∀ g, v'.ownBlock = some g → w.heap.size ≤ g) := by
  intro w1 o1 r
  have hown1 := hown.rx hcn (r.rx none) (by simp)
  have hnews1 : ∀ j u, news[j]? = some u → Ck nf c me w1 o1 (ad.add j) u := fun j u h => (hnews j u h).rx (r.rx none) (by simp)
  obtain ⟨e1, e2⟩ := run_append_call (P := P) (a := a) hop w1
  rw [hv, hx] at e1 e2
  obtain ⟨v', w', hr, h2, h3, _, h5⟩ := run_append_own_at (P := P) w1 nf t op.type E inf z sz inf.bytes ht hi hz hsize rfl hzs hsz v len xs hown1.row ad m cp news hl (fun j u h => (hnews1 j u h).eq) h1 h63 hbytes (Nat.le_trans hn r.size)
  have hev := events_append_where (P := P) w1 nf t op.type E inf z sz inf.bytes ht hi hz hsize rfl v len xs hown1.row ad m cp news hl (fun j u h => (hnews1 j u h).eq) h1 h63 hbytes
  have hlt1 := World.ownsRow.lt hown1.row
  have hne : 0 < news.length := by rw [hl]; exact Nat.mul_pos hm hsz
  have hck := hnews1 0 news[0] (List.getElem?_eq_getElem hne)
  rw [hr] at e1
  refine ⟨v', w', .inl e1, ⟨h3.tape, h3.os, h3.output, h3.size, fun j hj hx => h3.block j hj fun e => ?_⟩, fun e he => ?_, (RX.of_ro r ⟨h3.tape, h3.os, h3.output, h3.size, fun j hj => ext_lt hj, fun j hj _ _ hne => h3.block j hj hne⟩), ⟨h2, fun g hg => ?_⟩, ?_⟩
  · rcases hx with hx | hx
    · have := (hlt1 j e.symm).1; omega
    · exact hx (hown1.mine j e.symm)
  · rw [e2] at he
    have hsz1 := h3.size
    rcases hev e he with ⟨ad', h6, h7⟩ | ⟨m', rfl, h7⟩
    · rcases h7 with ⟨h7, h8⟩ | h7
      · have hb : (ad.add 0).block = ad.block := addBlock ad 0
        refine .inr ⟨ad.block, by rw [h6]; simp [locBlock, h8], by have := hck.lt; rw [hb] at this; omega, ?_⟩
        have hlt : ad.block < w1.heap.size := by have := hck.lt; rwa [hb] at this
        rw [ext_lt hlt]
        have h9 := hck.mine; rw [hb] at h9
        have h10 := hck.ne; rw [hb] at h10
        by_cases h11 : ad.block < nf
        · exact .inr ⟨h11, h10, h7⟩
        · exact .inl ⟨by omega, h9.resolve_left h11⟩
      · have h8 := hlt1 ad'.block h7.symm
        exact .inr ⟨ad'.block, by rw [h6]; simp [locBlock], by omega, .inl ⟨h8.1, by rw [ext_lt h8.2]; exact hown1.mine _ h7.symm⟩⟩
    · exact .inl ⟨m', rfl, h7⟩
  · rcases h5 with h5 | h5
    · rw [h5] at hg
      rw [ext_lt (hlt1 g hg).2]
      exact hown1.mine g hg
    · rw [h5] at hg
      cases hg
      simp [ext]
  · rcases h5 with h5 | h5
    · exact .inl h5
    · refine .inr fun g hg => ?_
      rw [h5] at hg
      cases hg
      exact r.size
theorem Seg.append (hcn : c < nf) (hn : nf ≤ w.heap.size) (s x : Operand) (t : TypeId) (ho : ops[i]? = some op) (hw : Region.wanted op (yielded ops a.tmps) = true) (hk : b.kind ≠ .early)
    (hop : op.op = .call { callee := .builtin .append, args := #[s, x], argTypes := #[t, t] })
    (E : TypeId) (inf : TypeInfo) (z : Value) (sz : Nat) (ht : P.underlying t = some (.slice E)) (hi : P.info? E = some inf) (hz : inf.zero = some z) (hsize : inf.size = sz) (hzs : z.cells.size = sz) (hsz : 0 < sz)
    {v : Value} {len : Nat} {xs : List Value} (hv : a.eval s = v) (hown : OwnO nf me w o E sz v len xs) {ad : Addr} {m cp : Nat} {news : List Value} (hx : a.eval x = .slice (some ad) m cp) (hl : news.length = m * sz)
    (hnews : ∀ j u, news[j]? = some u → Ck nf c me w o (ad.add j) u) (h1 : ∀ u ∈ news, u.oneCell' = true) (h63 : len + m ≤ maxLen) (hbytes : (len + m) * inf.bytes ≤ 140737488355328) (hm : 0 < m)
    (hs : ∀ v' w' o', RX nf c me v.ownBlock w o w' o' → OwnO nf me w' o' E sz v' (len + m) (xs ++ news) → (v'.ownBlock = v.ownBlock ∨ ∀ g, v'.ownBlock = some g → w.heap.size ≤ g) → Seg P nf c me Q n (G (b.at (a.put op.dst v') (.inRegion ops rest :: k)) cs) w' o') :
    Seg P nf c me Q (n + 1) (G (b.at a (.inRegion ops (i :: rest) :: k)) cs) w o :=
  Seg.eff ho hw hk (Eff.append hcn hn s x t hop E inf z sz ht hi hz hsize hzs hsz hv hown hx hl hnews h1 h63 hbytes hm) fun v' w' o' ⟨h1, h2, h3⟩ => hs v' w' o' h1 h2 h3
theorem RX.past {x : Option Nat} (h : RX nf c me none w o w1 o1) (k : RX nf c me x w1 o1 w2 o2) (hx : ∀ g, x = some g → w.heap.size ≤ g) : RX nf c me none w o w2 o2 :=
  ⟨k.tape.trans h.tape, k.os.trans h.os, k.out.trans h.out, Nat.le_trans h.size k.size, fun i hi => (k.own i (Nat.lt_of_lt_of_le hi h.size)).trans (h.own i hi),
   fun i hi hc hm _ => (k.block i (Nat.lt_of_lt_of_le hi h.size) hc (hm.imp id fun e => (h.own i hi).trans e) (fun e => by have := hx i e.symm; omega)).trans (h.block i hi hc hm (by simp))⟩
/-- An append of nothing. -/
theorem Seg.append0 (s x : Operand) (t : TypeId) (ho : ops[i]? = some op) (hw : Region.wanted op (yielded ops a.tmps) = true) (hk : b.kind ≠ .early)
    (hop : op.op = .call { callee := .builtin .append, args := #[s, x], argTypes := #[t, t] })
    (E : TypeId) (inf : TypeInfo) (ht : P.underlying t = some (.slice E)) (hi : P.info? E = some inf) {g : Addr} {len cap : Nat} (hv : a.eval s = .slice (some g) len cap) (hlc : len ≤ cap) {ad : Addr} {cp : Nat} (hx : a.eval x = .slice (some ad) 0 cp)
    (hs : Seg P nf c me Q n (G (b.at (a.put op.dst (.slice (some g) len cap)) (.inRegion ops rest :: k)) cs) w o) :
    Seg P nf c me Q (n + 1) (G (b.at a (.inRegion ops (i :: rest) :: k)) cs) w o := by
  refine Seg.pure _ ho hw hk (fun w1 => ?_) (fun w1 => ?_) hs
  · rw [(run_append_call (P := P) (a := a) hop w1).1, hv, hx]
    simp [Builtin.append_, run_underlying ht, sizeOf, typeInfo, hi, Builtin.lenOf, Builtin.firstCells, loadCells, loadCellsFrom, storeCells, hlc]
  · rw [(run_append_call (P := P) (a := a) hop w1).2, hv, hx]
    simp [Builtin.append_, run_underlying ht, sizeOf, typeInfo, hi, Builtin.lenOf, Builtin.firstCells, loadCells, loadCellsFrom, storeCells, hlc]
/-- A slice that is nil, or whose cells are known. -/
def SrcO (nf c : Nat) (me : Bool) (w : World) (o : Who) (s : Value) (xs : List Value) : Prop :=
  (s = .slice none 0 0 ∧ xs = []) ∨ ∃ ad cp, s = .slice (some ad) xs.length cp ∧ (∀ j u, xs[j]? = some u → Ck nf c me w o (ad.add j) u) ∧ ∀ u ∈ xs, u.oneCell' = true
theorem SrcO.rx {x : Option Nat} {s : Value} {xs : List Value} (h : SrcO nf c me w o s xs) (r : RX nf c me x w o w1 o1) (hx : x = none) : SrcO nf c me w1 o1 s xs := by
  subst hx
  exact h.imp id fun ⟨ad, cp, h1, h2, h3⟩ => ⟨ad, cp, h1, fun j u hj => (h2 j u hj).rx r (by simp), h3⟩
theorem eqNil_law {t E : TypeId} (ht : P.underlying t = some (.slice E)) {x : Value} {r : Bool} (hx : (x = .slice none 0 0 ∧ r = true) ∨ (∃ ad m cp, x = .slice (some ad) m cp ∧ r = false)) (w1 : World) (es : Array Event) :
    (Op.equal t x (.slice none 0 0)).run P w1 = .ok r w1 ∧ (Op.equal t x (.slice none 0 0)).events P w1 es = es := by
  have e : Op.equal t x (.slice none 0 0) = Op.equalIn (9999 + 1) t x (.slice none 0 0) := rfl
  rw [e]
  unfold Op.equalIn
  rcases hx with ⟨rfl, rfl⟩ | ⟨ad, m, cp, rfl, rfl⟩ <;> simp [run_underlying ht]
/-- A comparison of a slice with nil. -/
theorem Seg.eqNil {x y : Operand} {t t' E : TypeId} {r : Bool} (ho : ops[i]? = some op) (hw : Region.wanted op (yielded ops a.tmps) = true) (hk : b.kind ≠ .early) (hop : op.op = .binOp .eql t x y t') (ht : P.underlying t = some (.slice E)) (hy : a.eval y = .slice none 0 0)
    (hx : (a.eval x = .slice none 0 0 ∧ r = true) ∨ (∃ ad m cp, a.eval x = .slice (some ad) m cp ∧ r = false)) (hs : Seg P nf c me Q n (G (b.at (a.put op.dst (.bool r)) (.inRegion ops rest :: k)) cs) w o) :
    Seg P nf c me Q (n + 1) (G (b.at a (.inRegion ops (i :: rest) :: k)) cs) w o := by
  refine Seg.pure _ ho hw hk (fun w1 => ?_) (fun w1 => ?_) hs
  · have h := eqNil_law (P := P) ht hx w1 #[]
    unfold execOp
    rcases hx with ⟨hx, rfl⟩ | ⟨ad, m, cp, hx, rfl⟩ <;> rw [hx] at h <;> simp [hop, hx, hy, eqGuard, binOp, h.1]
  · have h := eqNil_law (P := P) ht hx w1 #[]
    unfold execOp
    rcases hx with ⟨hx, rfl⟩ | ⟨ad, m, cp, hx, rfl⟩ <;> rw [hx] at h <;> simp [hop, hx, hy, eqGuard, binOp, h.2]
theorem OwnO.sl {E sz : Nat} {v : Value} {m : Nat} {xs : List Value} (h : OwnO nf me w o E sz v m xs) : ∃ ao cp, v = .slice ao m cp := by
  rcases h.row.2 with ⟨rfl, rfl⟩ | ⟨g, cap, cur, rfl, _⟩
  · exact ⟨_, _, rfl⟩
  · exact ⟨_, _, rfl⟩
/-! ### Calls -/
/-- A CALL: the callee's frame on top. -/
theorem Seg.call {f : FuncId} {fn : Func} {code : Code} {args : Array Operand} {ats : Array TypeId} (ho : ops[i]? = some op) (hw : Region.wanted op (yielded ops a.tmps) = true) (hk : b.kind ≠ .early) (hop : op.op = .call { callee := .value (.func f), args, argTypes := ats })
    (hf : P.funcs[f]? = some fn) (hname : (fn.name == "runtime.NumGoroutine") = false) (hb : fn.body.isNone = false)
    (hs : Seg P nf c me Q n (G (Frame.enter P f (args.map a.eval) .normal) (b.at a (.inRegion ops (i :: rest) :: k) :: cs)) w o) : Seg P nf c me Q (n + 1) (G (b.at a (.inRegion ops (i :: rest) :: k)) cs) w o := by
  refine Seg.ctl rfl (fun w => ?_) hs
  rw [stepG_enter ho hw hk (run_call_body hop hf hname hb)]
  have : listed P b.fn a op w = #[] := by unfold listed; rw [events_call_body hop hf hname hb]; exact seen_none P _
  rw [this]
/-- A function in company: within n own steps it comes back to its caller with such a value. -/
def CallsO (P : Program) (nf c : Nat) (me : Bool) (n : Nat) (f : FuncId) (args : Array Value) (w : World) (o : Who) (Post : Value → World → Who → Prop) : Prop :=
  ∀ u cs, Seg P nf c me (fun g' w' o' => ∃ v, g' = G (u.finish v) cs ∧ Post v w' o') n (G (Frame.enter P f args .normal) (u :: cs)) w o
theorem CallsO.le {m f : Nat} {args : Array Value} {Post : Value → World → Who → Prop} (h : CallsO P nf c me n f args w o Post) (hm : n ≤ m) : CallsO P nf c me m f args w o Post := fun u cs => (h u cs).le hm
theorem CallsO.mono {f : Nat} {args : Array Value} {Post Post' : Value → World → Who → Prop} (h : CallsO P nf c me n f args w o Post) (hp : ∀ v w o, Post v w o → Post' v w o) : CallsO P nf c me n f args w o Post' :=
  fun u cs => (h u cs).mono fun _ _ _ ⟨v, e, p⟩ => ⟨v, e, hp _ _ _ p⟩
theorem CallsO.rely {f : Nat} {args : Array Value} {Post : Value → World → Who → Prop} (h : CallsO P nf c me n f args w o Post) (r : RO nf c me w o w1 o1) : CallsO P nf c me n f args w1 o1 Post := fun u cs => (h u cs).rely r
/-- A call by its contract. -/
theorem Seg.callO {f m : Nat} {fn : Func} {args : Array Operand} {ats : Array TypeId} {Post : Value → World → Who → Prop} (ho : ops[i]? = some op) (hw : Region.wanted op (yielded ops a.tmps) = true) (hk : b.kind ≠ .early) (hop : op.op = .call { callee := .value (.func f), args, argTypes := ats })
    (hf : P.funcs[f]? = some fn) (hname : (fn.name == "runtime.NumGoroutine") = false) (hb : fn.body.isNone = false) {vs : Array Value} (hvs : args.map a.eval = vs) (hc : CallsO P nf c me m f vs w o Post)
    (hs : ∀ v w' o', Post v w' o' → Seg P nf c me Q n (G (b.at (a.put op.dst v) (.inRegion ops rest :: k)) cs) w' o') : Seg P nf c me Q (n + m + 1) (G (b.at a (.inRegion ops (i :: rest) :: k)) cs) w o := by
  refine Seg.call (code := .skip) ho hw hk hop hf hname hb ?_
  rw [hvs]
  refine Seg.trans (hc _ cs) ?_
  rintro g w' o' ⟨v, rfl, hp⟩
  rw [Frame.finish_at, ho]
  exact hs v w' o' hp
/-- The walk of a function's body. -/
theorem callsO_of {f : FuncId} {fn : Func} {code : Code} {args : Array Value} {Post : Value → World → Who → Prop} (hf : P.funcs[f]? = some fn) (hb : fn.body = some code)
    (h : ∀ u cs, Seg P nf c me (fun g' w' o' => ∃ v, g' = G (u.finish v) cs ∧ Post v w' o') n (G ((base f).at { tmps := args ++ Array.replicate (fn.ntmps - args.size) undef, defers := [] } [.code code]) (u :: cs)) w o) : CallsO P nf c me n f args w o Post := by
  intro u cs
  rw [enter_at args hf hb]
  exact h u cs
theorem Seg.leave1 {f : FuncId} {fn : Func} {t : Tmp} {todo : List Item} {u : Frame} {Post : Value → World → Who → Prop} (hd : a.defers = []) (hf : P.funcs[f]? = some fn) (hr : fn.results = #[.tmp t]) (hp : Post (a.tmps.getD t undef) w o) :
    Seg P nf c me (fun g' w' o' => ∃ v, g' = G (u.finish v) cs ∧ Post v w' o') 1 (G { (base f).at a todo with mode := .returning } (u :: cs)) w o :=
  Seg.ctl (n := 0) rfl (fun w => stepG_leave rfl hd hf (results_tmp hr _ P w) (events_results_tmp hr _ _)) (Seg.done ⟨_, rfl, hp⟩)
theorem Seg.leaveCell (hcn : c < nf) {f : FuncId} {fn : Func} {tA : Tmp} {ty : TypeId} {A : Addr} {vs : List Value} {v : Value} {todo : List Item} {u : Frame} {Post : Value → World → Who → Prop} (hd : a.defers = []) (hf : P.funcs[f]? = some fn) (hr : fn.results = #[.cell tA ty])
    (ha : a.tmps.getD tA undef = .pointer (some A)) (hl : LoadOf P ty vs v) (hc : ∀ j u, vs[j]? = some u → Ck nf c me w o (A.add j) u) (hp : ∀ w1 o1, RO nf c me w o w1 o1 → Post v w1 o1) :
    Seg P nf c me (fun g' w' o' => ∃ v, g' = G (u.finish v) cs ∧ Post v w' o') 1 (G { (base f).at a todo with mode := .returning } (u :: cs)) w o := by
  refine Seg.step (n := 0) rfl fun w1 o1 r => ?_
  obtain ⟨h1, _⟩ := loadVar_law (P := P) hcn hl (w1 := w1) (o1 := o1) fun j u h => (hc j u h).rx (r.rx none) (by simp)
  obtain ⟨_, h2⟩ := loadVar_law (P := P) hcn hl (w1 := w1) (o1 := ext me w1 o1) fun j u h => (hc j u h).rx ((ro_ext r).rx none) (by simp)
  have ha' : a.tmps[tA]?.getD undef = .pointer (some A) := by rw [← Array.getD_eq_getD_getElem?]; exact ha
  have hrun : (results fn a.tmps).run P w1 = .ok v w1 := by simp [results, hr, ha', asAddr, h1]
  have hev : (results fn a.tmps).events P w1 #[] = (loadVar ty A).events P w1 #[] := by simp [results, hr, ha', asAddr, h1]
  refine ⟨_, w1, seen P f ((loadVar ty A).events P w1 #[]), ?_, DW.do_ (DW.refl ..) fun e he => h2 e (mem_seen he), Seg.done ⟨v, rfl, hp _ _ (ro_ext r)⟩⟩
  simp [G, stepG, unwind, doReturn, Frame.at, base, hd, hf, hrun, hev, GStep.after]
end
end Go.Proofs.Ytjkfnjjkjhggfaa
set_option linter.unusedSimpArgs false
set_option linter.unusedVariables false
namespace Go.Proofs.Ytjkfnjjkjhggfaa
open Go.Conc

section
variable {P : Program} {nf c : Nat} {me : Bool} {w0 w w1 : World} {o o1 : Who} {fn : FuncId} {ops : Array Oper} {Q : Act → World → Who → Prop} {md : Region.Mode} {N : Nat}
/-- Old memory is as it was. -/
structure OldO (nf c : Nat) (w0 w : World) : Prop where
  tape : w.tape = w0.tape
  os : w.os = w0.os
  out : w.output = w0.output
  size : nf ≤ w.heap.size
  block : ∀ k, k < nf → k ≠ c → w.heap[k]? = w0.heap[k]?
theorem OldO.ro (h : OldO nf c w0 w) (r : RO nf c me w o w1 o1) : OldO nf c w0 w1 := ⟨r.tape.trans h.tape, r.os.trans h.os, r.out.trans h.out, Nat.le_trans h.size r.size, fun k hk hc => (r.block k (Nat.lt_of_lt_of_le hk h.size) hc (.inl hk)).trans (h.block k hk hc)⟩
theorem OldO.rx {x : Option Nat} (h : OldO nf c w0 w) (r : RX nf c me x w o w1 o1) (hx : ∀ g, x = some g → nf ≤ g) : OldO nf c w0 w1 :=
  ⟨r.tape.trans h.tape, r.os.trans h.os, r.out.trans h.out, Nat.le_trans h.size r.size, fun k hk hc => (r.block k (Nat.lt_of_lt_of_le hk h.size) hc (.inl hk) fun e => by have := hx k e.symm; omega).trans (h.block k hk hc)⟩
theorem OldO.dw (h : OldO nf c w0 w) (d : DW nf me w o w1) : OldO nf c w0 w1 := ⟨d.tape.trans h.tape, d.os.trans h.os, d.out.trans h.out, Nat.le_trans h.size d.size, fun k hk hc => (d.block k (Nat.lt_of_lt_of_le hk h.size) (.inl hk)).trans (h.block k hk hc)⟩
/-- What is asked once an operation has yielded this. -/
def UponO (P : Program) (nf c : Nat) (me : Bool) (w0 : World) (N : Nat) (op : Oper) (a : Act) (K : Act → World → Who → Prop) (o' : Who) : Result Next → Prop
  | .ok (.value v) w' => K (a.put op.dst v) w' o'
  | .ok .skip w' => K (a.put op.dst undef) w' o'
  | .ok (.enter f args) w' => CallsO P nf c me N f args w' o' fun v w2 o2 => OldO nf c w0 w2 ∧ K (a.put op.dst v) w2 o2
  | _ => False
def ResDW (nf : Nat) (me : Bool) (w : World) (o : Who) : Result Next → Prop
  | .ok _ w' => DW nf me w o w'
  | _ => False
def ResW : Result Next → World
  | .ok _ w' => w'
  | .halt _ w' => w'
theorem UponO.mono {op : Oper} {a : Act} {K K' : Act → World → Who → Prop} (h : ∀ a w o, K a w o → K' a w o) {o' : Who} {r : Result Next} (hh : UponO P nf c me w0 N op a K o' r) : UponO P nf c me w0 N op a K' o' r := by
  cases r with
  | ok n w' =>
    cases n with
    | value v => exact h _ _ _ hh
    | skip => exact h _ _ _ hh
    | enter f args => exact CallsO.mono hh fun _ _ _ x => ⟨x.1, h _ _ _ x.2⟩
    | _ => exact hh
  | halt x w' => exact hh
/-- Operation i comes up in company. -/
def OpO (P : Program) (nf c : Nat) (me : Bool) (w0 : World) (fn : FuncId) (N : Nat) (ops : Array Oper) (i : Nat) (K : Act → World → Who → Prop) (a : Act) (w : World) (o : Who) : Prop :=
  match ops[i]? with
  | none => False
  | some op => Region.wanted op (yielded ops a.tmps) = true ∧ ∀ w1 o1, RO nf c me w o w1 o1 → ResDW nf me w1 o1 ((execOp a.eval op).run P w1) ∧
      (∀ e ∈ (execOp a.eval op).events P w1 #[], EvO nf c me (ext me w1 o1) (ResW ((execOp a.eval op).run P w1)).heap.size e) ∧ UponO P nf c me w0 N op a K (ext me w1 o1) ((execOp a.eval op).run P w1)
theorem OpO.mono {i : Nat} {a : Act} {K K' : Act → World → Who → Prop} (h : ∀ a w o, K a w o → K' a w o) (hh : OpO P nf c me w0 fn N ops i K a w o) : OpO P nf c me w0 fn N ops i K' a w o := by
  unfold OpO at *
  split
  · simp_all
  · rename_i op hop
    rw [hop] at hh
    exact ⟨hh.1, fun w1 o1 r => ⟨(hh.2 w1 o1 r).1, (hh.2 w1 o1 r).2.1, (hh.2 w1 o1 r).2.2.mono h⟩⟩
theorem OpO.rely {i : Nat} {a : Act} {K : Act → World → Who → Prop} (hh : OpO P nf c me w0 fn N ops i K a w o) (r : RO nf c me w o w1 o1) : OpO P nf c me w0 fn N ops i K a w1 o1 := by
  unfold OpO at *
  split
  · simp_all
  · rename_i op hop
    rw [hop] at hh
    exact ⟨hh.1, fun w2 o2 r2 => hh.2 w2 o2 (r.trans r2)⟩
theorem OpO.eff {i : Nat} {op : Oper} {a : Act} {Post : Value → World → Who → Prop} {K : Act → World → Who → Prop} (hi : ops[i]? = some op) (hw : Region.wanted op (yielded ops a.tmps) = true) (he : Eff P nf c me op a w o Post) (hK : ∀ v w' o', Post v w' o' → K (a.put op.dst v) w' o') :
    OpO P nf c me w0 fn N ops i K a w o := by
  unfold OpO
  simp only [hi]
  refine ⟨hw, fun w1 o1 r => ?_⟩
  obtain ⟨v, w', h1, h2, h3, h4⟩ := he w1 o1 r
  rcases h1 with h1 | ⟨h1, rfl⟩
  · rw [h1]; exact ⟨h2, h3, hK _ _ _ h4⟩
  · rw [h1]; exact ⟨h2, h3, hK _ _ _ h4⟩
/-- An operation that turns nothing, in this world. -/
theorem OpO.still {i : Nat} {op : Oper} {a : Act} (v : Value) {K : Act → World → Who → Prop} (hi : ops[i]? = some op) (hw : Region.wanted op (yielded ops a.tmps) = true)
    (h : ∀ w1 o1, RO nf c me w o w1 o1 → (execOp a.eval op).run P w1 = .ok (.value v) w1 ∧ ∀ e ∈ (execOp a.eval op).events P w1 #[], EvO nf c me o1 w1.heap.size e)
    (hK : ∀ w1 o1, RO nf c me w o w1 o1 → K (a.put op.dst v) w1 o1) : OpO P nf c me w0 fn N ops i K a w o := by
  unfold OpO
  simp only [hi]
  refine ⟨hw, fun w1 o1 r => ?_⟩
  obtain ⟨h1, _⟩ := h w1 o1 r
  obtain ⟨_, h2⟩ := h w1 (ext me w1 o1) (ro_ext r)
  rw [h1]
  exact ⟨DW.refl .., h2, hK _ _ (ro_ext r)⟩
theorem OpO.call {i : Nat} {op : Oper} {a : Act} {K : Act → World → Who → Prop} {f : FuncId} {fn' : Func} {args : Array Operand} {ats : Array TypeId} {vs : Array Value} {Post : Value → World → Who → Prop} (hi : ops[i]? = some op) (hw : Region.wanted op (yielded ops a.tmps) = true) (hop : op.op = .call { callee := .value (.func f), args, argTypes := ats })
    (hf : P.funcs[f]? = some fn') (hname : (fn'.name == "runtime.NumGoroutine") = false) (hb : fn'.body.isNone = false) (hvs : args.map a.eval = vs) (hc : CallsO P nf c me N f vs w o Post) (hK : ∀ v w' o', Post v w' o' → OldO nf c w0 w' ∧ K (a.put op.dst v) w' o') :
    OpO P nf c me w0 fn N ops i K a w o := by
  unfold OpO
  simp only [hi]
  refine ⟨hw, fun w1 o1 r => ?_⟩
  rw [run_call_body hop hf hname hb, events_call_body hop hf hname hb, hvs]
  exact ⟨DW.refl .., by simp, (hc.rely (ro_ext r)).mono fun v w' o' p => hK v w' o' p⟩
/-- To the judgement. -/
theorem seg_of_opO {S : Goroutine → World → Who → Prop} {i n : Nat} {rest : List Nat} {a : Act} {b : Frame} {k : List Item} {cs : List Frame} (hb : b.kind ≠ .early)
    (h : OpO P nf c me w0 fn N ops i (fun a' w' o' => Seg P nf c me S n (G (b.at a' (.inRegion ops rest :: k)) cs) w' o') a w o) : Seg P nf c me S (n + N + 1) (G (b.at a (.inRegion ops (i :: rest) :: k)) cs) w o := by
  unfold OpO at h
  split at h
  · exact h.elim
  · rename_i op hop
    refine Seg.step rfl fun w1 o1 r => ?_
    obtain ⟨h1, h2, h3⟩ := h.2 w1 o1 r
    generalize hr : (execOp a.eval op).run P w1 = res at h1 h2 h3
    cases res with
    | halt x w' => exact h1.elim
    | ok nx w' =>
      have hd : DO nf c me w1 o1 w' (listed P b.fn a op w1) := DW.do_ h1 fun e hm => h2 e (mem_listed hm)
      cases nx with
      | value v => exact ⟨_, w', _, stepG_value hop h.1 hb hr, hd, Seg.le h3 (by omega)⟩
      | skip => exact ⟨_, w', _, stepG_none hop h.1 hb hr, hd, Seg.le h3 (by omega)⟩
      | enter f args =>
        refine ⟨_, w', _, stepG_enter hop h.1 hb hr, hd, Seg.trans (h3 _ cs) ?_⟩
        rintro g w2 o2 ⟨v, rfl, _, hp⟩
        rw [Frame.finish_at, hop]
        exact hp
      | _ => exact h3.elim
/-- Whatever order is picked from here on. -/
def AnyO (P : Program) (nf c : Nat) (me : Bool) (w0 : World) (fn : FuncId) (N : Nat) (md : Region.Mode) (ops : Array Oper) (Q : Act → World → Who → Prop) : Nat → Array Bool → Act → World → Who → Prop
  | 0, listed, a, w, o => Region.ready md ops listed = [] ∧ Q a w o
  | fuel + 1, listed, a, w, o => (Region.ready md ops listed = [] → Q a w o) ∧ ∀ i ∈ Region.ready md ops listed, OpO P nf c me w0 fn N ops i (fun a' w' o' => AnyO P nf c me w0 fn N md ops Q fuel (listed.setIfInBounds i true) a' w' o') a w o
theorem AnyO.rely (hQ : ∀ a w o w1 o1, Q a w o → RO nf c me w o w1 o1 → Q a w1 o1) : ∀ {fuel : Nat} {listed : Array Bool} {a : Act} {w : World} {o : Who} {w1 : World} {o1 : Who}, AnyO P nf c me w0 fn N md ops Q fuel listed a w o → RO nf c me w o w1 o1 → AnyO P nf c me w0 fn N md ops Q fuel listed a w1 o1
  | 0, _, _, _, _, _, _, h, r => ⟨h.1, hQ _ _ _ _ _ h.2 r⟩
  | _ + 1, _, _, _, _, _, _, h, r => ⟨fun e => hQ _ _ _ _ _ (h.1 e) r, fun i hi => (h.2 i hi).rely r⟩
/-- It serves every order. -/
theorem anyO_sound {S : Goroutine → World → Who → Prop} {n : Nat} {b : Frame} {k : List Item} {cs : List Frame} (hb : b.kind ≠ .early) : ∀ (fuel t : Nat) (listed : Array Bool) (a : Act) (w : World) (o : Who),
    AnyO P nf c me w0 fn N md ops (fun a w o => Seg P nf c me S n (G (b.at a k) cs) w o) fuel listed a w o → Seg P nf c me S (n + 1 + fuel * (N + 1)) (G (b.at a (.inRegion ops (Region.linearise.go md ops fuel t listed []) :: k)) cs) w o := by
  intro fuel
  induction fuel with
  | zero =>
    intro t listed a w o h
    simp only [Region.linearise.go, List.reverse_nil]
    exact Seg.le (Seg.ctl rfl (fun w => stepG_region_end) h.2) (by omega)
  | succ fuel ih =>
    intro t listed a w o h
    obtain ⟨h₀, h₁⟩ := h
    simp only [Region.linearise.go]
    change Seg P nf c me S _ (G (b.at a (.inRegion ops (match (Region.ready md ops listed)[t % (Region.ready md ops listed).length]? with
      | some i => Region.linearise.go md ops fuel (t / (Region.ready md ops listed).length) (listed.setIfInBounds i true) [i]
      | none => [].reverse) :: k)) cs) w o
    cases hi : (Region.ready md ops listed)[t % (Region.ready md ops listed).length]? with
    | none =>
      have hnil : Region.ready md ops listed = [] := by
        cases hr : Region.ready md ops listed with
        | nil => rfl
        | cons x xs =>
          rw [hr] at hi
          have hlt : t % (x :: xs).length < (x :: xs).length := Nat.mod_lt _ (by simp)
          rw [List.getElem?_eq_getElem hlt] at hi
          cases hi
      simp only [List.reverse_nil]
      exact Seg.le (Seg.ctl rfl (fun w => stepG_region_end) (h₀ hnil)) (by rw [Nat.succ_mul]; omega)
    | some i =>
      simp only []
      rw [linearise_go_acc, List.reverse_singleton, List.singleton_append]
      have := seg_of_opO (S := S) (k := k) (cs := cs) hb (OpO.mono (fun a' w' o' x => ih (t / (Region.ready md ops listed).length) _ a' w' o' x) (h₁ i (List.mem_of_getElem? hi)))
      refine Seg.le this ?_
      rw [Nat.succ_mul]; omega
/-- An operation that gives v wherever old memory is as it was. -/
def QuietO (P : Program) (nf c : Nat) (me : Bool) (w0 : World) (op : Oper) (v : Value) (ops : Array Oper) (a : Act) : Prop :=
  Region.wanted op (yielded ops a.tmps) = true ∧ ∀ w1 o1, OldO nf c w0 w1 → (execOp a.eval op).run P w1 = .ok (.value v) w1 ∧ ∀ e ∈ (execOp a.eval op).events P w1 #[], EvO nf c me o1 w1.heap.size e
theorem QuietO.of_same {op : Oper} {v : Value} {a a' : Act} (hy : QuietO P nf c me w0 op v ops a) (he : execOp a'.eval op = execOp a.eval op) (hw : Region.wanted op (yielded ops a'.tmps) = Region.wanted op (yielded ops a.tmps)) : QuietO P nf c me w0 op v ops a' := by
  unfold QuietO at *
  rw [he, hw]
  exact hy
theorem QuietO.opO {op : Oper} {v : Value} {a : Act} {i : Nat} (hi : ops[i]? = some op) (hy : QuietO P nf c me w0 op v ops a) {K : Act → World → Who → Prop} (hK : ∀ a w o w1 o1, K a w o → RO nf c me w o w1 o1 → K a w1 o1) (hO : OldO nf c w0 w) (h : K (a.put op.dst v) w o) :
    OpO P nf c me w0 fn N ops i K a w o := by
  unfold OpO
  simp only [hi]
  refine ⟨hy.1, fun w1 o1 r => ?_⟩
  obtain ⟨h1, _⟩ := hy.2 w1 o1 (hO.ro r)
  obtain ⟨_, h2⟩ := hy.2 w1 (ext me w1 o1) (hO.ro r)
  rw [h1]
  exact ⟨DW.refl .., h2, hK _ _ _ _ _ h (ro_ext r)⟩
theorem OpO.putIf {j : Nat} {oi oj : Oper} {v : Value} (hj : ops[j]? = some oj) (hap : oi.apart ops oj = true) (hsi : ∀ cs b, oi.op ≠ .select cs b) (hsj : ∀ cs b, oj.op ≠ .select cs b) {K : Act → World → Who → Prop} {a : Act} (hO : OldO nf c w0 w)
    (hy : QuietO P nf c me w0 oi v ops a)
    (h : OpO P nf c me w0 fn N ops j K (a.put oi.dst v) w o) :
    OpO P nf c me w0 fn N ops j (fun a' w' o' => QuietO P nf c me w0 oi v ops a' ∧ OldO nf c w0 w' ∧ K (a'.put oi.dst v) w' o') a w o := by
  obtain ⟨h1, h2, h3⟩ := Oper.apart_spec hap
  have keep : ∀ (a : Act), QuietO P nf c me w0 oi v ops a → ∀ u, QuietO P nf c me w0 oi v ops (a.put oj.dst u) := fun a hy u =>
    hy.of_same (execOp_put oi hsi a oj.dst u h3) (wanted_put oi a oj.dst u h3)
  unfold OpO at *
  simp only [hj] at *
  rw [wanted_put oj a oi.dst v h1, execOp_put oj hsj a oi.dst v h1] at h
  refine ⟨h.1, fun w1 o1 r => ?_⟩
  obtain ⟨g1, g2, g3⟩ := h.2 w1 o1 r
  refine ⟨g1, g2, ?_⟩
  have hO1 := hO.ro r
  generalize (execOp a.eval oj).run P w1 = res at *
  cases res with
  | halt x w' => exact g1.elim
  | ok nx w' =>
    have hO2 : OldO nf c w0 w' := hO1.dw g1
    cases nx <;> simp only [UponO] at g3 ⊢
    case value u => exact ⟨keep a hy u, hO2, by rw [← Act.put_comm a v u h2]; exact g3⟩
    case skip => exact ⟨keep a hy _, hO2, by rw [← Act.put_comm a v undef h2]; exact g3⟩
    case enter f args => exact CallsO.mono g3 fun u w2 o2 x => ⟨x.1, keep a hy u, x.1, by rw [← Act.put_comm a v u h2]; exact x.2⟩
/-- **An operation that may come up now may be taken first.** -/
theorem anyO_first (hQ : ∀ a w o w1 o1, Q a w o → RO nf c me w o w1 o1 → Q a w1 o1) {i : Nat} {oi : Oper} {v : Value} (hi : ops[i]? = some oi) (hsel : ∀ (j : Nat) (o : Oper) cs b, ops[j]? = some o → o.op ≠ .select cs b) :
    ∀ (fuel : Nat) (listed : Array Bool) (a : Act) (w : World) (o : Who),
      (∀ j oj, ops[j]? = some oj → j ≠ i → listed.getD j true = false → (∀ e ∈ oj.after, Region.binds md e = true → e.on ≠ i) → oi.apart ops oj = true) →
      i ∈ Region.ready md ops listed → QuietO P nf c me w0 oi v ops a → OldO nf c w0 w →
      AnyO P nf c me w0 fn N md ops Q fuel (listed.setIfInBounds i true) (a.put oi.dst v) w o → AnyO P nf c me w0 fn N md ops Q (fuel + 1) listed a w o := by
  intro fuel
  induction fuel with
  | zero =>
    intro listed a w o _ hr hy hO H
    refine ⟨fun h => (by rw [h] at hr; cases hr), fun j hj => ?_⟩
    by_cases hji : j = i
    · subst hji; exact hy.opO hi (fun _ _ _ _ _ x r => AnyO.rely hQ x r) hO H
    · have := ready_mono hj hji
      rw [H.1] at this
      cases this
  | succ fuel ih =>
    intro listed a w o hfree hr hy hO H
    refine ⟨fun h => (by rw [h] at hr; cases hr), fun j hj => ?_⟩
    by_cases hji : j = i
    · subst hji; exact hy.opO hi (fun _ _ _ _ _ x r => AnyO.rely hQ x r) hO H
    · have h1 := H.2 j (ready_mono hj hji)
      obtain ⟨hjun, oj, hoj, hall⟩ := mem_ready.1 hj
      have hnot : ∀ e ∈ oj.after, Region.binds md e = true → e.on ≠ i := fun e he hb heq => by
        have h1 := hall e he hb
        have h0 := (mem_ready.1 hr).1
        rw [heq] at h1
        rcases Nat.lt_or_ge i listed.size with h' | h'
        · simp [h'] at h0 h1; rw [h0] at h1; cases h1
        · simp [Array.getElem?_eq_none h'] at h1
      have h2 := OpO.putIf hoj (hfree j oj hoj hji hjun hnot) (fun cs b => hsel i oi cs b hi) (fun cs b => hsel j oj cs b hoj) hO hy h1
      have hfree' : ∀ k ok, ops[k]? = some ok → k ≠ i → (listed.setIfInBounds j true).getD k true = false →
          (∀ e ∈ ok.after, Region.binds md e = true → e.on ≠ i) → oi.apart ops ok = true := fun k ok hk hki hun hno => by
        refine hfree k ok hk hki ?_ hno
        by_cases hjk : j = k
        · subst hjk; exact hjun
        · rw [getD_set_ne true hjk] at hun; exact hun
      refine OpO.mono (fun a' w' o' h3 => ih (listed.setIfInBounds j true) a' w' o' hfree' (ready_mono hr (Ne.symm hji)) h3.1 h3.2.1 ?_) h2
      rw [Array.setIfInBounds_comm _ _ hji]
      exact h3.2.2
/-- Take number i first. -/
theorem anyO_take (hQ : ∀ a w o w1 o1, Q a w o → RO nf c me w o w1 o1 → Q a w1 o1) {i : Nat} {oi : Oper} (v : Value) {fuel : Nat} {listed : Array Bool} {a : Act} (hi : ops[i]? = some oi) (hs : Region.noSelect ops = true) (hf : Region.free md ops listed i = true)
    (hr : (Region.ready md ops listed).contains i = true) (hy : QuietO P nf c me w0 oi v ops a) (hO : OldO nf c w0 w) (h : AnyO P nf c me w0 fn N md ops Q fuel (listed.setIfInBounds i true) (a.put oi.dst v) w o) : AnyO P nf c me w0 fn N md ops Q (fuel + 1) listed a w o :=
  anyO_first hQ hi (Region.noSelect_spec hs) fuel listed a w o (Region.free_spec hi hf) (by simpa using hr) hy hO h
/-- Whichever of those that may come up comes up. -/
theorem anyO_all {rs : List Nat} {fuel : Nat} {listed : Array Bool} {a : Act} (hr : Region.ready md ops listed = rs) (hne : rs ≠ [])
    (h : ∀ i ∈ rs, OpO P nf c me w0 fn N ops i (fun a' w' o' => AnyO P nf c me w0 fn N md ops Q fuel (listed.setIfInBounds i true) a' w' o') a w o) : AnyO P nf c me w0 fn N md ops Q (fuel + 1) listed a w o :=
  ⟨fun h0 => absurd (hr ▸ h0) hne, hr ▸ h⟩
theorem anyO_done {listed : Array Bool} {a : Act} (hr : Region.ready md ops listed = []) (h : Q a w o) : ∀ fuel, AnyO P nf c me w0 fn N md ops Q fuel listed a w o
  | 0 => ⟨hr, h⟩
  | _ + 1 => ⟨fun _ => h, fun i hi => by rw [hr] at hi; cases hi⟩
/-- THE BEGINNING. -/
theorem Seg.region {S : Goroutine → World → Who → Prop} {n id : Nat} {b : Frame} {a : Act} {k : List Item} {cs : List Frame} (hb : b.kind ≠ .early) (hm : P.follows .mixedOrders = true)
    (h : ∀ w1 o1, RO nf c me w o w1 o1 → AnyO P nf c me w0 fn N .any ops (fun a w o => Seg P nf c me S n (G (b.at a k) cs) w o) ops.size (Array.replicate ops.size false) a w1 o1) :
    Seg P nf c me S (n + 1 + ops.size * (N + 1) + 1) (G (b.at a (.code (.region id ops true) :: k)) cs) w o := by
  refine Seg.step rfl fun w1 o1 r => ⟨_, _, _, stepG_region_draw, ⟨rfl, rfl, rfl, Nat.le_refl _, fun _ _ _ => rfl, by simp⟩, ?_⟩
  simp only [Region.schedule, hm, Bool.true_or, if_true]
  refine anyO_sound hb ops.size _ _ a _ _ (AnyO.rely (fun _ _ _ _ _ x r => x.rely r) (h w1 (ext me w1 o1) (ro_ext r)) ?_)
  exact ⟨rfl, rfl, rfl, Nat.le_refl _, fun _ _ => rfl, fun _ _ _ _ => rfl⟩
end
end Go.Proofs.Ytjkfnjjkjhggfaa
set_option linter.unusedSimpArgs false
set_option linter.unusedVariables false
namespace Go.Proofs.Ytjkfnjjkjhggfaa
open Go.Conc Go.RowKit

theorem deltaMany_o {nf c : Nat} (hcn : c < nf) {w : World} {o : Who} (hn : nf ≤ w.heap.size) (a1 a2 : Option Addr) (n1 c1 n2 c2 : Nat) (hsz : n1 + n2 ≤ 1000000) :
    CallsO Try.prog nf c false 40 14 #[.agg #[.slice a1 n1 c1, .slice a2 n2 c2]] w o fun v w' o' => v = .int .i64 ((n1 : Int) + n2) ∧ RX nf c false none w o w' o' := by
  refine callsO_of Try.func14 (by rfl) fun u cs => ?_
  simp only [Try.ntmps14, List.size_toArray, List.length_cons, List.length_nil, Nat.reduceAdd, Nat.reduceSub, Array.replicate_succ, Array.replicate_zero, List.push_toArray, List.append_toArray, List.nil_append, List.cons_append]
  first
  | refine Seg.ctl rfl (fun _ => stepG_seq) ?_
  | refine Seg.ctl rfl (fun _ => stepG_region_end) ?_
  | (refine Seg.ctl rfl (fun _ => stepG_region) ?_; simp only [List.size_toArray, List.length_cons, List.length_nil, Nat.reduceAdd, Nat.zero_add, List.range, List.range.loop])
  | refine Seg.ctl rfl (fun _ => stepG_block) ?_
  | refine Seg.ctl rfl (fun _ => stepG_inBlock) ?_
  | refine Seg.ctl rfl (fun _ => stepG_ret') ?_
  | refine Seg.ctl rfl (fun _ => stepG_loop) ?_
  | refine Seg.ctl rfl (fun _ => stepG_inLoop) ?_
  | refine Seg.ctl rfl (fun _ => stepG_skip) ?_
  first
  | refine Seg.ctl rfl (fun _ => stepG_seq) ?_
  | refine Seg.ctl rfl (fun _ => stepG_region_end) ?_
  | (refine Seg.ctl rfl (fun _ => stepG_region) ?_; simp only [List.size_toArray, List.length_cons, List.length_nil, Nat.reduceAdd, Nat.zero_add, List.range, List.range.loop])
  | refine Seg.ctl rfl (fun _ => stepG_block) ?_
  | refine Seg.ctl rfl (fun _ => stepG_inBlock) ?_
  | refine Seg.ctl rfl (fun _ => stepG_ret') ?_
  | refine Seg.ctl rfl (fun _ => stepG_loop) ?_
  | refine Seg.ctl rfl (fun _ => stepG_inLoop) ?_
  | refine Seg.ctl rfl (fun _ => stepG_skip) ?_
  refine Seg.new hcn hn rfl rfl (by decide) (.cells #[.slice a1 n1 c1, .slice a2 n2 c2] 32) (fun g => .pointer (some ⟨g, 0, none⟩)) (fun w => ?_) (fun w => ?_) fun w1 o1 g r hg hm K => ?_
  · simp [go_sem, execOp, Act.eval, Instr.box, newVar, newRow, Value.cells]
  · simp [go_sem, execOp, Act.eval, Instr.box, newVar, newRow, Value.cells]
  walk_nrm
  refine Seg.pure (.int .i64 0) rfl rfl (by decide) (fun w => by simp [go_sem, execOp, Act.eval, Instr.fieldAt, Instr.sureAddr, resolve, invoke, builtin, Builtin.len_]) (fun w => by simp [go_sem, execOp, Act.eval, Instr.fieldAt, Instr.sureAddr, resolve, invoke, builtin, Builtin.len_]) ?_
  walk_nrm
  first
  | refine Seg.ctl rfl (fun _ => stepG_seq) ?_
  | refine Seg.ctl rfl (fun _ => stepG_region_end) ?_
  | (refine Seg.ctl rfl (fun _ => stepG_region) ?_; simp only [List.size_toArray, List.length_cons, List.length_nil, Nat.reduceAdd, Nat.zero_add, List.range, List.range.loop])
  | refine Seg.ctl rfl (fun _ => stepG_block) ?_
  | refine Seg.ctl rfl (fun _ => stepG_inBlock) ?_
  | refine Seg.ctl rfl (fun _ => stepG_ret') ?_
  | refine Seg.ctl rfl (fun _ => stepG_loop) ?_
  | refine Seg.ctl rfl (fun _ => stepG_inLoop) ?_
  | refine Seg.ctl rfl (fun _ => stepG_skip) ?_
  first
  | refine Seg.ctl rfl (fun _ => stepG_seq) ?_
  | refine Seg.ctl rfl (fun _ => stepG_region_end) ?_
  | (refine Seg.ctl rfl (fun _ => stepG_region) ?_; simp only [List.size_toArray, List.length_cons, List.length_nil, Nat.reduceAdd, Nat.zero_add, List.range, List.range.loop])
  | refine Seg.ctl rfl (fun _ => stepG_block) ?_
  | refine Seg.ctl rfl (fun _ => stepG_inBlock) ?_
  | refine Seg.ctl rfl (fun _ => stepG_ret') ?_
  | refine Seg.ctl rfl (fun _ => stepG_loop) ?_
  | refine Seg.ctl rfl (fun _ => stepG_inLoop) ?_
  | refine Seg.ctl rfl (fun _ => stepG_skip) ?_
  first
  | refine Seg.ctl rfl (fun _ => stepG_seq) ?_
  | refine Seg.ctl rfl (fun _ => stepG_region_end) ?_
  | (refine Seg.ctl rfl (fun _ => stepG_region) ?_; simp only [List.size_toArray, List.length_cons, List.length_nil, Nat.reduceAdd, Nat.zero_add, List.range, List.range.loop])
  | refine Seg.ctl rfl (fun _ => stepG_block) ?_
  | refine Seg.ctl rfl (fun _ => stepG_inBlock) ?_
  | refine Seg.ctl rfl (fun _ => stepG_ret') ?_
  | refine Seg.ctl rfl (fun _ => stepG_loop) ?_
  | refine Seg.ctl rfl (fun _ => stepG_inLoop) ?_
  | refine Seg.ctl rfl (fun _ => stepG_skip) ?_
  refine Seg.pure (.pointer (some ⟨g, 0, none⟩)) rfl rfl (by decide) (fun w => by simp [go_sem, execOp, Act.eval, Instr.fieldAt, Instr.sureAddr, resolve, invoke, builtin, Builtin.len_]) (fun w => by simp [go_sem, execOp, Act.eval, Instr.fieldAt, Instr.sureAddr, resolve, invoke, builtin, Builtin.len_]) ?_
  walk_nrm
  refine Seg.load hcn (vs := [.slice a1 n1 c1]) rfl rfl (by decide) rfl rfl (.one Try.underlying29 rfl) (K.cks rfl) ?_
  walk_nrm
  refine Seg.pure (.int .i64 n1) rfl rfl (by decide) (fun w => by simp [go_sem, execOp, Act.eval, Instr.fieldAt, Instr.sureAddr, resolve, invoke, builtin, Builtin.len_]) (fun w => by simp [go_sem, execOp, Act.eval, Instr.fieldAt, Instr.sureAddr, resolve, invoke, builtin, Builtin.len_]) ?_
  walk_nrm
  refine Seg.pure (.pointer (some ⟨g, 1, none⟩)) rfl rfl (by decide) (fun w => by simp [go_sem, execOp, Act.eval, Instr.fieldAt, Instr.sureAddr, resolve, invoke, builtin, Builtin.len_]) (fun w => by simp [go_sem, execOp, Act.eval, Instr.fieldAt, Instr.sureAddr, resolve, invoke, builtin, Builtin.len_]) ?_
  walk_nrm
  refine Seg.load hcn (vs := [.slice a2 n2 c2]) rfl rfl (by decide) rfl rfl (.one Try.underlying30 rfl) (K.cks rfl) ?_
  walk_nrm
  refine Seg.pure (.int .i64 n2) rfl rfl (by decide) (fun w => by simp [go_sem, execOp, Act.eval, Instr.fieldAt, Instr.sureAddr, resolve, invoke, builtin, Builtin.len_]) (fun w => by simp [go_sem, execOp, Act.eval, Instr.fieldAt, Instr.sureAddr, resolve, invoke, builtin, Builtin.len_]) ?_
  walk_nrm
  refine Seg.pure (.int .i64 ((n1 : Int) + n2)) rfl rfl (by decide) (fun w => ?_) (fun w => ?_) ?_
  · simp [go_sem, execOp, Act.eval, binOp, Op.intArith, eqGuard]
    rw [IntKind.wrap_i64]; omega
  · simp [go_sem, execOp, Act.eval, binOp, Op.intArith, eqGuard]
  walk_nrm
  refine Seg.pure (.int .i64 ((n1 : Int) + n2)) rfl rfl (by decide) (fun w => by simp [go_sem, execOp, Act.eval, Instr.fieldAt, Instr.sureAddr, resolve, invoke, builtin, Builtin.len_]) (fun w => by simp [go_sem, execOp, Act.eval, Instr.fieldAt, Instr.sureAddr, resolve, invoke, builtin, Builtin.len_]) ?_
  walk_nrm
  first
  | refine Seg.ctl rfl (fun _ => stepG_seq) ?_
  | refine Seg.ctl rfl (fun _ => stepG_region_end) ?_
  | (refine Seg.ctl rfl (fun _ => stepG_region) ?_; simp only [List.size_toArray, List.length_cons, List.length_nil, Nat.reduceAdd, Nat.zero_add, List.range, List.range.loop])
  | refine Seg.ctl rfl (fun _ => stepG_block) ?_
  | refine Seg.ctl rfl (fun _ => stepG_inBlock) ?_
  | refine Seg.ctl rfl (fun _ => stepG_ret') ?_
  | refine Seg.ctl rfl (fun _ => stepG_loop) ?_
  | refine Seg.ctl rfl (fun _ => stepG_inLoop) ?_
  | refine Seg.ctl rfl (fun _ => stepG_skip) ?_
  first
  | refine Seg.ctl rfl (fun _ => stepG_seq) ?_
  | refine Seg.ctl rfl (fun _ => stepG_region_end) ?_
  | (refine Seg.ctl rfl (fun _ => stepG_region) ?_; simp only [List.size_toArray, List.length_cons, List.length_nil, Nat.reduceAdd, Nat.zero_add, List.range, List.range.loop])
  | refine Seg.ctl rfl (fun _ => stepG_block) ?_
  | refine Seg.ctl rfl (fun _ => stepG_inBlock) ?_
  | refine Seg.ctl rfl (fun _ => stepG_ret') ?_
  | refine Seg.ctl rfl (fun _ => stepG_loop) ?_
  | refine Seg.ctl rfl (fun _ => stepG_inLoop) ?_
  | refine Seg.ctl rfl (fun _ => stepG_skip) ?_
  exact Seg.le (Seg.leave1 rfl Try.func14 rfl ⟨rfl, r⟩) (by decide)
end Go.Proofs.Ytjkfnjjkjhggfaa
