/- THE WALKING LAYER, one part more: rows copied, grown by noughts, told apart. No statement of the seat is proved here. -/
import Derived.Test.YtckdncmjkloebaaGreatZHk
import Derived.Lib.AppendZerosOnto
import Derived.Lib.Overlaps
namespace Go.Proofs.YtckdncmjkloebaaGreat
set_option linter.unusedVariables false
set_option linter.unusedSimpArgs false
open Go.RowKit

section
variable {P : Program} {ops : Array Oper} {N : Fs} {F : Fr} {E : Ent} {M : Mem} {L : Lc} {o : Oper}
/-- copy into a block of one's own -/
theorem hCopyN {x y : Operand} {t u e : TypeId} {b off dn dc : Nat} {sa : Option Addr} {sn sc sz : Nat} {l cs : List Value} {eb : TypeId} {L' : Lc} {by_ : Nat} {z : List Value} (hg : gd ops F o = some true)
  (ho : o.op = .call { callee := .builtin .copy, args := #[x, y], argTypes := #[t, u] }) (hx : ev F x = some (.slice (some ⟨b, off, none⟩) dn dc)) (hy : ev F y = some (.slice sa sn sc)) [ht : Und P t (.slice e)] [hl : Lay P e sz by_ z]
  (hn : cs.length = min sn dn * sz) (hcs : SJ M L sa cs) (h1 : ∀ v ∈ cs, v.oneCell' = true) [at_ : At b (.cells l.toArray eb (0, 0)) L] (hfit : off + cs.length ≤ l.length)
  [hp : PutAt b (.cells l.toArray eb (0, 0)) (.cells (l.take off ++ cs ++ l.drop (off + cs.length)).toArray eb (0, 0)) L L'] :
  HF P ops N F E M L o (fun v M' L'' => v = .int .i64 (min sn dn : Nat) ∧ M = M' ∧ L'' = L') := hf_of hg fun a w ha hw => by
 obtain ⟨ti, zv, hi, hi2, _⟩ := hl.info
 have hb := (hw.locs _ at_.mem).1
 refine ⟨.int .i64 (min sn dn : Nat), _, M, L', .inl ?_, hw.put hp, rfl, rfl, rfl⟩
 have hst := run_storeCells_at P b off eb cs 0 l.toArray w hb (by simp; omega) h1
 have hfc : (Builtin.firstCells sz (min sn dn) (.slice sa sn sc)).run P w = .ok cs.toArray w := by
  rcases hcs with rfl | ⟨sb, so, rfl, hc⟩
  ·rw [List.length_nil] at hn
   have h0 : min sn dn * sz = 0 := hn.symm
   cases sa <;> simp [Builtin.firstCells, h0, loadCells, loadCellsFrom]
  ·have hadd : ∀ j, (⟨sb, so, none⟩ : Addr).add j = ⟨sb, so + j, none⟩ := fun j => by unfold Addr.add; split <;> simp_all
   exact run_firstCells_some (P := P) w sz (min sn dn) ⟨sb, so, none⟩ sn sc cs hn (fun j v hv => by rw [hadd]; exact (hc j v hv).cell hw.js)
 simp [execOp, ho, resolve, invoke, builtin, ha.ev hx, ha.ev hy, Builtin.copy_, run_underlying ht.h, sizeOf, typeInfo, hi, hi2, Builtin.lenOf, hfc, hst, goInt]
/-- noughts appended to a slice that has no room for them: a block more -/
theorem hAppendZG {x y : Operand} {t tn e : TypeId} {k kn : IntKind} {b off n c size bytes : Nat} {mi : Int} (m : Nat) {z xs : List Value} (hg : gd ops F o = some true)
  (ho : o.op = .call { callee := .builtin .append, args := #[x, y], argTypes := #[t, tn] }) (hx : ev F x = some (.slice (some ⟨b, off, none⟩) n c)) (hy : ev F y = some (.int k mi)) (hmi : mi = (m : Int)) [ht : Und P t (.slice e)] [htn : Und P tn (.int kn)] [hl : Lay P e size bytes z]
  (hxl : xs.length = n * size) (hold : ∀ i v, xs[i]? = some v → CJ M L b (off + i) v) (hz0 : Nat.blt 0 size = true) (h0 : 0 < m) (hc : c < n + m) (hbig : n + m ≤ 1000000000) (hby : bytes ≤ 100000) :
  HF P ops N F E M L o (fun v' M' L' => M = M' ∧ ∃ g cap zs, v' = .slice (some ⟨g, 0, none⟩) (n + m) cap ∧ L' = (g, .cells (xs ++ zs).toArray e (0, 0)) :: L ∧ n + m ≤ cap ∧ cap ≤ maxLen ∧ zs.length = (cap - n) * size) := hf_of hg fun a w ha hw => by
 subst hmi
 obtain ⟨ti, zv, hi, hi2, hi3, hz, hz2⟩ := hl.info
 have hzl : zv.cells.size = size := by rw [hz2]; simpa using hl.len
 have hsz : 0 < size := by simpa [Nat.blt_eq] using hz0
 have hadd : ∀ j, (⟨b, off, none⟩ : Addr).add j = ⟨b, off + j, none⟩ := fun j => by unfold Addr.add; split <;> simp_all
 have hd : St E M L w.drew := { hw with }
 have hbb : (n + m) * bytes ≤ 1000000000 * 100000 := Nat.mul_le_mul hbig hby
 have hmb : m * bytes ≤ (n + m) * bytes := Nat.mul_le_mul_right _ (by omega)
 have hr := Go.Lib.run_append_grow_zeros (P := P) w t tn o.type e ti zv k kn ht.h htn.h hi hz (some ⟨b, off, none⟩) n c xs
  (by rw [hi2]; exact run_firstCells_some (P := P) w.drew size n ⟨b, off, none⟩ n c xs hxl (fun j u hu => by rw [hadd]; exact (hold j u hu).cell hd.js))
  m h0 (by rw [hi2]; exact hsz) hc (by omega) (by rw [hi3]; omega) (growslice_fits (by omega) (by rw [hi3]; omega))
 have hge := grownCap_ge w (n + m) c e
 have hcm : grownCap w (n + m) c e ≤ maxLen := grownCap_le_maxLen w (n + m) c e (by unfold maxLen; omega)
 obtain ⟨zs, hzs⟩ : ∃ zs : List Value, zs = (Builtin.zeroCells zv.cells m).toList ++ (Builtin.zeroCells zv.cells (grownCap w (n + m) c e - (n + m))).toList := ⟨_, rfl⟩
 have hzsl : zs.length = (grownCap w (n + m) c e - n) * size := by
  rw [hzs, List.length_append, Array.length_toList, Array.length_toList, size_zeroCells, size_zeroCells, hzl, ← Nat.add_mul]
  congr 1; omega
 have hcur : xs.toArray ++ Builtin.zeroCells zv.cells m ++ Builtin.zeroCells zv.cells (grownCap w (n + m) c e - (n + m)) = (xs ++ zs).toArray := by
  rw [hzs]; apply Array.ext'; simp
 rw [hcur] at hr
 refine ⟨_, w.drew.alloc (.cells (xs ++ zs).toArray e), M, (w.drew.heap.size, .cells (xs ++ zs).toArray e (0, 0)) :: L, .inl ?_, hd.alloc (.cells (xs ++ zs).toArray e), rfl, w.heap.size, _, zs, rfl, rfl, hge, hcm, hzsl⟩
 simp [execOp, ho, resolve, invoke, builtin, ha.ev hx, ha.ev hy, hr]
/-- clear of nothing -/
theorem hClear0 {x : Operand} {t e : TypeId} {a : Option Addr} {c : Nat} (hg : gd ops F o = some true) (ho : o.op = .call { callee := .builtin .clear, args := #[x], argTypes := #[t] }) (hx : ev F x = some (.slice a 0 c)) [ht : Und P t (.slice e)] :
  HF P ops N F E M L o (fun _ M' L' => M = M' ∧ L' = L) := hf_of hg fun ac w ha hw => by
 refine ⟨.tuple #[], w, M, L, .inl ?_, hw, rfl, rfl⟩
 cases a <;> simp [execOp, ho, resolve, invoke, builtin, ha.ev hx, Builtin.clear_, run_underlying ht.h]
/-- slices.overlaps of two rows in two blocks -/
theorem qOverlap {x y : Operand} {T : Array TypeId} {f : FuncId} {fn : Func} {t tr e : TypeId} {vb vo la ca b off lb cb sz by_ : Nat} {z vc l : List Value} {ve eb : TypeId} (hg : gd ops F o = some true)
  (ho : o.op = .call { callee := .value (.func f), args := #[x, y], argTypes := T }) (hx : ev F x = some (.slice (some ⟨vb, vo, none⟩) la ca)) (hy : ev F y = some (.slice (some ⟨b, off, none⟩) lb cb))
  (hf : P.funcs[f]? = some fn) (hname : (fn.name == "runtime.NumGoroutine") = false) (hb : fn.body.isNone = true) (hn : Extern.findNext fn = none) (he : Extern.find fn = some (Extern.SlicesOverlaps.overlaps #[t, t] #[tr]))
  [ht : Und P t (.slice e)] [hl : Lay P e sz by_ z] (hv : M vb = some (.cells vc.toArray ve (0, 0))) (hmem : (b, Obj.cells l.toArray eb (0, 0)) ∈ L) (hne : vb ≠ b) (hl0 : l.length ≠ 0) : QF P ops N F M L o (.bool false) := qf_of hg fun ac ha w hw => by
 obtain ⟨ti, zv, hi, hi2, _⟩ := hl.info
 have h1 := hw.agree vb _ hv
 have h2 := hw.locs _ hmem
 have hr := Go.Lib.run_overlaps_apart (P := P) w t tr e ht.h sz (fun w => by simp [sizeOf, typeInfo, hi, hi2]) ⟨vb, vo, none⟩ ⟨b, off, none⟩ la ca lb cb hne ve eb vc.length l.length
  (by simp [World.shape?, h1]) (by simp [World.shape?, h2]) hl0 (by simp [World.frozen?, h1]) (by simp [World.frozen?, h1])
 have hc := run_callFunc_extern (P := P) hf hname hb hn he #[.slice (some ⟨vb, vo, none⟩) la ca, .slice (some ⟨b, off, none⟩) lb cb] w
 rw [hr] at hc
 have hfv : (ac.eval (.func f)) = .func (.func f) #[] #[] := rfl
 simp [execOp, ho, resolve, ha.ev hx, ha.ev hy, hfv, Deferred.ofValue, invoke, hc, Result.andThen]
/-- .. the other way round -/
theorem qOverlap2 {x y : Operand} {T : Array TypeId} {f : FuncId} {fn : Func} {t tr e : TypeId} {vb vo la ca b off lb cb sz by_ : Nat} {z vc l : List Value} {ve eb : TypeId} (hg : gd ops F o = some true)
  (ho : o.op = .call { callee := .value (.func f), args := #[y, x], argTypes := T }) (hy : ev F y = some (.slice (some ⟨b, off, none⟩) lb cb)) (hx : ev F x = some (.slice (some ⟨vb, vo, none⟩) la ca))
  (hf : P.funcs[f]? = some fn) (hname : (fn.name == "runtime.NumGoroutine") = false) (hb : fn.body.isNone = true) (hn : Extern.findNext fn = none) (he : Extern.find fn = some (Extern.SlicesOverlaps.overlaps #[t, t] #[tr]))
  [ht : Und P t (.slice e)] [hl : Lay P e sz by_ z] (hv : M vb = some (.cells vc.toArray ve (0, 0))) (hmem : (b, Obj.cells l.toArray eb (0, 0)) ∈ L) (hne : vb ≠ b) (hl0 : vc.length ≠ 0) : QF P ops N F M L o (.bool false) := qf_of hg fun ac ha w hw => by
 obtain ⟨ti, zv, hi, hi2, _⟩ := hl.info
 have h1 := hw.agree vb _ hv
 have h2 := hw.locs _ hmem
 have hr := Go.Lib.run_overlaps_apart (P := P) w t tr e ht.h sz (fun w => by simp [sizeOf, typeInfo, hi, hi2]) ⟨b, off, none⟩ ⟨vb, vo, none⟩ lb cb la ca (Ne.symm hne) eb ve l.length vc.length
  (by simp [World.shape?, h2]) (by simp [World.shape?, h1]) hl0 (by simp [World.frozen?, h2]) (by simp [World.frozen?, h2])
 have hc := run_callFunc_extern (P := P) hf hname hb hn he #[.slice (some ⟨b, off, none⟩) lb cb, .slice (some ⟨vb, vo, none⟩) la ca] w
 rw [hr] at hc
 have hfv : (ac.eval (.func f)) = .func (.func f) #[] #[] := rfl
 simp [execOp, ho, resolve, ha.ev hx, ha.ev hy, hfv, Deferred.ofValue, invoke, hc, Result.andThen]
/-- what is written no more is none of one's own -/
theorem jl_apart {Q : Exit → Act → World → Prop} {rest : List Oper} {vb b : Nat} {ov ob : Obj} (hv : M vb = some ov) (hm : (b, ob) ∈ L) (h : vb ≠ b → JL P ops N Q rest F E M L) : JL P ops N Q rest F E M L := fun a w ha hw =>
 h (fun e => by subst e; have := (hw.locs _ hm).2.2; rw [hv] at this; cases this) a w ha hw
end
end Go.Proofs.YtckdncmjkloebaaGreat
