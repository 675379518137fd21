/- THE WALKING LAYER, one part more: wDn of rows cleared, appended in place. No statement of the seat is proved here. -/
import Derived.Test.YtckdncmjkloebaaZHbm
namespace Go.Proofs.Ytckdncmjkloebaa
set_option linter.unusedVariables false
set_option linter.unusedSimpArgs false
open Go.RowKit
section
variable {P : Program} {ops : Array Oper} {N : Fs} {F : Fr} {E : Ent} {M : Mem} {L : Lc} {o : Oper}
theorem zeroCells_rep (z : List Value) (sz : Nat) (hz : z.length = sz) : ∀ n, (Builtin.zeroCells z.toArray n).toList = (List.replicate n z).flatten := fun n => by
 have hk : ∀ n, (List.range (n * sz)).map (fun i => z[i % sz]!) = (List.replicate n z).flatten := by
  intro n
  induction n with
  | zero => simp
  | succ n ih =>
   rw [Nat.succ_mul, List.range_add, List.map_append, ih, List.replicate_succ', List.flatten_append]
   congr 1
   rw [List.map_map]
   apply List.ext_getElem
   ·simp [hz]
   ·intro i h1 h2
    have hlt : i < sz := by simpa using h1
    have : (n * sz + i) % sz = i := by rw [Nat.mul_comm, Nat.mul_add_mod, Nat.mod_eq_of_lt hlt]
    simp [this, hz, hlt]
 rw [← hk]
 simp only [Builtin.zeroCells, Array.toList_map, Array.toList_range]
 simp only [List.size_toArray, hz]
 apply List.map_congr_left
 intro i hi
 simp
theorem hClear {x : Operand} {t e : TypeId} {b off n c sz by_ : Nat} {z l : List Value} {eb : TypeId} {L' : Lc} (hg : gd ops F o = some true)
  (ho : o.op = .call { callee := .builtin .clear, args := #[x], argTypes := #[t] }) (hx : ev F x = some (.slice (some ⟨b, off, none⟩) n c)) [ht : Und P t (.slice e)] [hl : Lay P e sz by_ z]
  (h0 : 0 < n) (h1 : ∀ v ∈ z, v.oneCell' = true) [at_ : At b (.cells l.toArray eb (0, 0)) L] (hfit : off + n * sz ≤ l.length)
  [hp : PutAt b (.cells l.toArray eb (0, 0)) (.cells (l.take off ++ (List.replicate n z).flatten ++ l.drop (off + ((List.replicate n z).flatten).length)).toArray eb (0, 0)) L L'] :
  HF P ops N F E M L o (fun _ M' L'' => M = M' ∧ L'' = L') := wHc hg fun a w ha hw => by
 obtain ⟨ti, zv, hi, hi2, hi3, hz, hz2⟩ := hl.info
 have hb := (hw.locs _ at_.mem).1
 have hzl := hl.len
 have hlen : ((List.replicate n z).flatten).length = n * sz := by simp [hzl]
 refine ⟨.tuple #[], _, M, L', .inl ?_, hw.put hp, rfl, rfl⟩
 have hst := run_storeCells_at P b off eb ((List.replicate n z).flatten) 0 l.toArray w hb (by simp [hzl]; omega) (fun v hv => by
  obtain ⟨y, hy, hv⟩ := List.mem_flatten.1 hv
  rw [(List.mem_replicate.1 hy).2] at hv; exact h1 v hv)
 obtain ⟨k, rfl⟩ : ∃ k, n = k + 1 := ⟨n - 1, by omega⟩
 simp [execOp, ho, resolve, invoke, builtin, ha.ev hx, Builtin.clear_, run_underlying ht.h, zeroValue, typeInfo, hi, hz, hz2, zeroCells_rep z sz hzl, hst]
theorem hAppendFit {x y : Operand} {t e : TypeId} {b off n c m mc : Nat} {sa : Option Addr} {sz : Nat} {l cs : List Value} {eb : TypeId} {L' : Lc} {by_ : Nat} {z : List Value} (hg : gd ops F o = some true)
  (ho : o.op = .call { callee := .builtin .append, args := #[x, y], argTypes := #[t, t] }) (hx : ev F x = some (.slice (some ⟨b, off, none⟩) n c)) (hy : ev F y = some (.slice sa m mc)) [ht : Und P t (.slice e)] [hl : Lay P e sz by_ z]
  (hn : cs.length = m * sz) (hcs : SJ M L sa cs) (h1 : ∀ v ∈ cs, v.oneCell' = true) (hroom : n + m ≤ c) [at_ : At b (.cells l.toArray eb (0, 0)) L] (hfit : off + n * sz + cs.length ≤ l.length)
  [hp : PutAt b (.cells l.toArray eb (0, 0)) (.cells (l.take (off + n * sz) ++ cs ++ l.drop (off + n * sz + cs.length)).toArray eb (0, 0)) L L'] :
  HF P ops N F E M L o (fun v M' L'' => v = .slice (some ⟨b, off, none⟩) (n + m) c ∧ M = M' ∧ L'' = L') := wHc hg fun a w ha hw => by
 obtain ⟨ti, zv, hi, hi2, _⟩ := hl.info
 have hb := (hw.locs _ at_.mem).1
 refine ⟨_, _, M, L', .inl ?_, hw.put hp, rfl, rfl, rfl⟩
 have hst := run_storeCells_at P b (off + n * sz) eb cs 0 l.toArray w hb (by simp; omega) h1
 have hfc : (Builtin.firstCells sz m (.slice sa m mc)).run P w = .ok cs.toArray w := by
  rcases hcs with rfl | ⟨sb, so, rfl, hc⟩
  ·rw [List.length_nil] at hn
   have h0 : m * sz = 0 := hn.symm
   cases sa <;> simp [Builtin.firstCells, h0, loadCells, loadCellsFrom]
  ·have hadd : ∀ j, (⟨sb, so, none⟩ : Addr).add j = ⟨sb, so + j, none⟩ := fun j => by unfold Addr.add; split <;> simp_all
   exact run_firstCells_some (P := P) w sz m ⟨sb, so, none⟩ m mc cs hn (fun j v hv => by rw [hadd]; exact (hc j v hv).cell hw.js)
 simp [execOp, ho, resolve, invoke, builtin, ha.ev hx, ha.ev hy, Builtin.append_, run_underlying ht.h, sizeOf, typeInfo, hi, hi2, Builtin.lenOf, hroom, hfc, Addr.add_lit, hst]
theorem hAppendZs {x y : Operand} {t tn e : TypeId} {k kn : IntKind} {n size bytes : Nat} {z : List Value} (hg : gd ops F o = some true)
  (ho : o.op = .call { callee := .builtin .append, args := #[x, y], argTypes := #[t, tn] }) (hx : ev F x = some (.slice none 0 0)) (hy : ev F y = some (.int k n)) [ht : Und P t (.slice e)] [htn : Und P tn (.int kn)] [hl : Lay P e size bytes z]
  (hz0 : Nat.blt 0 size = true) (h0 : 0 < n) (hn : n ≤ 1000000000) (hby : bytes ≤ 100000) :
  HF P ops N F E M L o (fun v' M' L' => M = M' ∧ ∃ b cap cur, v' = .slice (some ⟨b, 0, none⟩) n cap ∧ L' = (b, .cells cur e (0, 0)) :: L ∧ n ≤ cap ∧ cap ≤ maxLen ∧ cur.size = cap * size) := wHc hg fun a w ha hw => by
 obtain ⟨ti, zv, hi, hi2, hi3, hz, hz2⟩ := hl.info
 have hzl : zv.cells.size = size := by rw [hz2]; simpa using hl.len
 have hsz : 0 < size := by simpa [Nat.blt_eq] using hz0
 have hb : n * bytes ≤ 1000000000 * 100000 := Nat.mul_le_mul hn hby
 have hr := Go.Lib.run_append_nil_zeros (P := P) w t tn o.type e ti zv k kn ht.h htn.h hi hz n h0 (by omega) (by omega) (by rw [hi3]; omega)
 have hge := grownCap_ge w n 0 e
 have hsz2 : (Builtin.zeroCells zv.cells n ++ Builtin.zeroCells zv.cells (grownCap w n 0 e - n)).size = grownCap w n 0 e * size := by
  simp only [Array.size_append, size_zeroCells, hzl, ← Nat.add_mul]; congr 1; omega
 generalize Builtin.zeroCells zv.cells n ++ Builtin.zeroCells zv.cells (grownCap w n 0 e - n) = cur at hr hsz2
 have hd : St E M L w.drew := { hw with }
 refine ⟨_, w.drew.alloc (.cells cur e), M, (w.drew.heap.size, .cells cur e (0, 0)) :: L, .inl ?_, hd.alloc (.cells cur e), rfl, w.heap.size, _, cur, rfl, rfl, hge, grownCap_le_maxLen w n 0 e (by unfold maxLen; omega), hsz2⟩
 simp [execOp, ho, resolve, invoke, builtin, ha.ev hx, ha.ev hy, hr]
theorem hBuildSliceN {t e : TypeId} {n : Nat} {ps : List (Nat × Operand)} {vs : List (Nat × Value)} {sz by_ : Nat} {z cs : List Value} (hg : gd ops F o = some true) (ho : o.op = .buildSlice t n ps.toArray) (hv : evp F ps = some vs) [ht : Und P t (.slice e)] [hl : Lay P e sz by_ z]
  (hc : fillL (fun i => some (i * sz, sz)) (List.replicate n z).flatten vs = some cs) (hsmall : Nat.ble (n * sz) 16777216 = true) (hpos : Nat.blt 0 sz = true) :
  HF P ops N F E M L o (fun v M' L' => ∃ b, v = .slice (some ⟨b, 0, none⟩) n n ∧ M = M' ∧ L' = (b, .cells cs.toArray e (0, 0)) :: L ∧ E.W.heap.size ≤ b) := wHc hg fun a w ha hw => by
 have hzl := hl.len
 obtain ⟨ti, zv, hi, hi2, _, hz, hz2⟩ := hl.info
 refine ⟨_, _, M, _, .inl ?_, hw.alloc (.cells cs.toArray e (0, 0)), _, rfl, rfl, rfl, hw.size⟩
 have h3 := ha.evp hv
 have h4 : ((ps.toArray).map fun x => (x.1, a.eval x.2)).toList = vs := by rw [← h3]; simp
 have hs : ¬ (16777216 < n * sz) := by simpa [Nat.ble_eq] using hsmall
 have h0 : 0 < sz := by simpa [Nat.blt_eq] using hpos
 have hzz : (Array.range (n * sz)).map (fun i => z.toArray[i % z.toArray.size]!) = ((List.replicate n z).flatten).toArray := by
  have hk : ∀ n, (List.range (n * sz)).map (fun i => z[i % sz]!) = (List.replicate n z).flatten := by
   intro n
   induction n with
   | zero => simp
   | succ n ih =>
    rw [Nat.succ_mul, List.range_add, List.map_append, ih, List.replicate_succ', List.flatten_append]
    congr 1
    rw [List.map_map]
    apply List.ext_getElem
    ·simp [hzl]
    ·intro i h1 h2
     have hlt : i < sz := by simpa using h1
     have : (n * sz + i) % sz = i := by rw [Nat.mul_comm, Nat.mul_add_mod, Nat.mod_eq_of_lt hlt]
     simp [this, hzl, hlt]
  apply Array.ext'
  simp only [Array.toList_map, Array.toList_range]
  rw [← hk n]
  apply List.map_congr_left
  intro i hi
  simp [hzl]
 have hf := fill_eq (fun i => some (i * sz, sz)) vs _ _ hc
 by_cases hn : n * sz = 0
 ·have hn0 : n = 0 := by rcases Nat.mul_eq_zero.1 hn with h | h <;> omega
  subst hn0
  simp only [List.replicate_zero, List.flatten_nil] at hf
  simp [execOp, ho, Instr.buildSlice, run_underlying ht.h, sizeOf, typeInfo, hi, hi2, h3, hf, newRow, Array.range_zero']
 ·have hs' : ¬ (n * sz > 2 ^ 24) := hs
  simp only [execOp, ho, Instr.buildSlice, Sem.run_bind, run_underlying ht.h, Result.andThen_ok, sizeOf, typeInfo, run_program, hi, Sem.run_pure, hi2, if_neg hs', if_neg hn, zeroValue, hz, hz2, h4, hzz, hf]
  simp [newRow]
theorem wKx {W : World} {X : List Nat} {M0 : Mem} {t e : TypeId} {n : Nat} {ps : List (Nat × Operand)} {vs : List (Nat × Value)} {sz by_ : Nat} {z cs : List Value} (hX : ∀ x ∈ X, x < W.heap.size) (hg : gd ops F o = some true) (ho : o.op = .buildSlice t n ps.toArray) (hv : evp F ps = some vs) [ht : Und P t (.slice e)] [hl : Lay P e sz by_ z]
  (hc : fillL (fun i => some (i * sz, sz)) (List.replicate n z).flatten vs = some cs) (hsmall : Nat.ble (n * sz) 16777216 = true) (hpos : Nat.blt 0 sz = true) :
  HF P ops N F ⟨W, X, M0⟩ M L o (fun v M' L' => ∃ b, v = .slice (some ⟨b, 0, none⟩) n n ∧ L' = L ∧ MLe M M' ∧ M' b = some (.cells cs.toArray e (0, 0))) :=
 (hBuildSliceN (E := ⟨W, X, M0⟩) hg ho hv hc hsmall hpos).monoM fun w v M' L' ⟨b, e1, e2, e3, e4⟩ hs => by
  subst e2; subst e3
  obtain ⟨h1, h2, h3⟩ := St.freeze' (fun hx => by have := hX b hx; have h4 : W.heap.size ≤ b := e4; omega) hs
  exact ⟨_, _, h1, b, e1, rfl, h2, h3⟩
end
end Go.Proofs.Ytckdncmjkloebaa
