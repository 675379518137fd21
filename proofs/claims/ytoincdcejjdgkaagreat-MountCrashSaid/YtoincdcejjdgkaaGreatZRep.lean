/- Walks: an item of a row of one's own replaced. -/
import Derived.Test.YtoincdcejjdgkaaGreatZHk
import Derived.Lib.AppendZerosOnto
import Derived.Lib.Overlaps
import Derived.Test.YtoincdcejjdgkaaGreatZMake
namespace Go.Proofs.YtoincdcejjdgkaaGreat
set_option linter.unusedSimpArgs false
set_option linter.unusedVariables false
open Go.RowKit
section
variable {P : Program} {ops : Array Oper} {N : Fs} {F : Fr} {E : Ent} {M : Mem} {L : Lc} {o : Oper}
theorem wKm {x y : Operand} {t u e : TypeId} {b off dn dc : Nat} {sa : Option Addr} {sn sc sz : Nat} {l cs : List Value} {eb : TypeId} {L' : Lc} {by_ : Nat} {z : List Value} (hg : gd ops F o = some true)
  (ho : o.op = .call { callee := .builtin .copy, args := #[x, y], argTypes := #[t, u] }) (hx : ev F x = some (.slice (some ⟨b, off, none⟩) dn dc)) (hy : ev F y = some (.slice sa sn sc)) [ht : Und P t (.slice e)] [hl : Lay P e sz by_ z]
  (hn : cs.length = min sn dn * sz) (hcs : SJ M L sa cs) (h1 : ∀ v ∈ cs, v.oneCell' = true) [at_ : At b (.cells l.toArray eb (0, 0)) L] (hfit : off + cs.length ≤ l.length)
  [hp : PutAt b (.cells l.toArray eb (0, 0)) (.cells (l.take off ++ cs ++ l.drop (off + cs.length)).toArray eb (0, 0)) L L'] :
  HF P ops N F E M L o (fun v M' L'' => v = .int .i64 (min sn dn : Nat) ∧ M = M' ∧ L'' = L') := wJq hg fun a w ha hw => by
 obtain ⟨ti, zv, hi, hi2, _⟩ := hl.info
 have hb := (hw.locs _ at_.mem).1
 refine ⟨.int .i64 (min sn dn : Nat), _, M, L', .inl ?_, hw.put hp, rfl, rfl, rfl⟩
 have hst := run_storeCells_at P b off eb cs 0 l.toArray w hb (by simp; omega) h1
 have hfc : (Builtin.firstCells sz (min sn dn) (.slice sa sn sc)).run P w = .ok cs.toArray w := by
  rcases hcs with rfl | ⟨sb, so, rfl, hc⟩
  ·rw [List.length_nil] at hn
   have h0 : min sn dn * sz = 0 := hn.symm
   cases sa <;> simp [Builtin.firstCells, h0, loadCells, loadCellsFrom]
  ·have hadd : ∀ j, (⟨sb, so, none⟩ : Addr).add j = ⟨sb, so + j, none⟩ := fun j => by unfold Addr.add; split <;> simp_all
   exact run_firstCells_some (P := P) w sz (min sn dn) ⟨sb, so, none⟩ sn sc cs hn (fun j v hv => by rw [hadd]; exact (hc j v hv).cell hw.js)
 simp [execOp, ho, resolve, invoke, builtin, ha.ev hx, ha.ev hy, Builtin.copy_, run_underlying ht.h, sizeOf, typeInfo, hi, hi2, Builtin.lenOf, hfc, hst, goInt]
theorem hAppendZG {x y : Operand} {t tn e : TypeId} {k kn : IntKind} {b off n c size bytes : Nat} {mi : Int} (m : Nat) {z xs : List Value} (hg : gd ops F o = some true)
  (ho : o.op = .call { callee := .builtin .append, args := #[x, y], argTypes := #[t, tn] }) (hx : ev F x = some (.slice (some ⟨b, off, none⟩) n c)) (hy : ev F y = some (.int k mi)) (hmi : mi = (m : Int)) [ht : Und P t (.slice e)] [htn : Und P tn (.int kn)] [hl : Lay P e size bytes z]
  (hxl : xs.length = n * size) (hold : ∀ i v, xs[i]? = some v → CJ M L b (off + i) v) (hz0 : Nat.blt 0 size = true) (h0 : 0 < m) (hc : c < n + m) (hbig : n + m ≤ 1000000000) (hby : bytes ≤ 100000) :
  HF P ops N F E M L o (fun v' M' L' => M = M' ∧ ∃ g cap zs, v' = .slice (some ⟨g, 0, none⟩) (n + m) cap ∧ L' = (g, .cells (xs ++ zs).toArray e (0, 0)) :: L ∧ n + m ≤ cap ∧ cap ≤ maxLen ∧ zs.length = (cap - n) * size) := wJq hg fun a w ha hw => by
 subst hmi
 obtain ⟨ti, zv, hi, hi2, hi3, hz, hz2⟩ := hl.info
 have hzl : zv.cells.size = size := by rw [hz2]; simpa using hl.len
 have hsz : 0 < size := by simpa [Nat.blt_eq] using hz0
 have hadd : ∀ j, (⟨b, off, none⟩ : Addr).add j = ⟨b, off + j, none⟩ := fun j => by unfold Addr.add; split <;> simp_all
 have hd : St E M L w.drew := { hw with }
 have hbb : (n + m) * bytes ≤ 1000000000 * 100000 := Nat.mul_le_mul hbig hby
 have hmb : m * bytes ≤ (n + m) * bytes := Nat.mul_le_mul_right _ (by omega)
 have hr := Go.Lib.run_append_grow_zeros (P := P) w t tn o.type e ti zv k kn ht.h htn.h hi hz (some ⟨b, off, none⟩) n c xs
  (by rw [hi2]; exact run_firstCells_some (P := P) w.drew size n ⟨b, off, none⟩ n c xs hxl (fun j u hu => by rw [hadd]; exact (hold j u hu).cell hd.js))
  m h0 (by rw [hi2]; exact hsz) hc (by omega) (by rw [hi3]; omega) (growslice_fits (by omega) (by rw [hi3]; omega))
 have hge := grownCap_ge w (n + m) c e
 have hcm : grownCap w (n + m) c e ≤ maxLen := grownCap_le_maxLen w (n + m) c e (by unfold maxLen; omega)
 obtain ⟨zs, hzs⟩ : ∃ zs : List Value, zs = (Builtin.zeroCells zv.cells m).toList ++ (Builtin.zeroCells zv.cells (grownCap w (n + m) c e - (n + m))).toList := ⟨_, rfl⟩
 have hzsl : zs.length = (grownCap w (n + m) c e - n) * size := by
  rw [hzs, List.length_append, Array.length_toList, Array.length_toList, size_zeroCells, size_zeroCells, hzl, ← Nat.add_mul]
  congr 1; omega
 have hcur : xs.toArray ++ Builtin.zeroCells zv.cells m ++ Builtin.zeroCells zv.cells (grownCap w (n + m) c e - (n + m)) = (xs ++ zs).toArray := by
  rw [hzs]; apply Array.ext'; simp
 rw [hcur] at hr
 refine ⟨_, w.drew.alloc (.cells (xs ++ zs).toArray e), M, (w.drew.heap.size, .cells (xs ++ zs).toArray e (0, 0)) :: L, .inl ?_, hd.alloc (.cells (xs ++ zs).toArray e), rfl, w.heap.size, _, zs, rfl, rfl, hge, hcm, hzsl⟩
 simp [execOp, ho, resolve, invoke, builtin, ha.ev hx, ha.ev hy, hr]
theorem hClear0 {x : Operand} {t e : TypeId} {a : Option Addr} {c : Nat} (hg : gd ops F o = some true) (ho : o.op = .call { callee := .builtin .clear, args := #[x], argTypes := #[t] }) (hx : ev F x = some (.slice a 0 c)) [ht : Und P t (.slice e)] :
  HF P ops N F E M L o (fun _ M' L' => M = M' ∧ L' = L) := wJq hg fun ac w ha hw => by
 refine ⟨.tuple #[], w, M, L, .inl ?_, hw, rfl, rfl⟩
 cases a <;> simp [execOp, ho, resolve, invoke, builtin, ha.ev hx, Builtin.clear_, run_underlying ht.h]
theorem qOverlap {x y : Operand} {T : Array TypeId} {f : FuncId} {fn : Func} {t tr e : TypeId} {vb vo la ca b off lb cb sz by_ : Nat} {z vc l : List Value} {ve eb : TypeId} (hg : gd ops F o = some true)
  (ho : o.op = .call { callee := .value (.func f), args := #[x, y], argTypes := T }) (hx : ev F x = some (.slice (some ⟨vb, vo, none⟩) la ca)) (hy : ev F y = some (.slice (some ⟨b, off, none⟩) lb cb))
  (hf : P.funcs[f]? = some fn) (hname : (fn.name == "runtime.NumGoroutine") = false) (hb : fn.body.isNone = true) (hn : Extern.findNext fn = none) (he : Extern.find fn = some (Extern.SlicesOverlaps.overlaps #[t, t] #[tr]))
  [ht : Und P t (.slice e)] [hl : Lay P e sz by_ z] (hv : M vb = some (.cells vc.toArray ve (0, 0))) (hmem : (b, Obj.cells l.toArray eb (0, 0)) ∈ L) (hne : vb ≠ b) (hl0 : l.length ≠ 0) : QF P ops N F M L o (.bool false) := wDr hg fun ac ha w hw => by
 obtain ⟨ti, zv, hi, hi2, _⟩ := hl.info
 have h1 := hw.agree vb _ hv
 have h2 := hw.locs _ hmem
 have hr := Go.Lib.run_overlaps_apart (P := P) w t tr e ht.h sz (fun w => by simp [sizeOf, typeInfo, hi, hi2]) ⟨vb, vo, none⟩ ⟨b, off, none⟩ la ca lb cb hne ve eb vc.length l.length
  (by simp [World.shape?, h1]) (by simp [World.shape?, h2]) hl0 (by simp [World.frozen?, h1]) (by simp [World.frozen?, h1])
 have hc := run_callFunc_extern (P := P) hf hname hb hn he #[.slice (some ⟨vb, vo, none⟩) la ca, .slice (some ⟨b, off, none⟩) lb cb] w
 rw [hr] at hc
 have hfv : (ac.eval (.func f)) = .func (.func f) #[] #[] := rfl
 simp [execOp, ho, resolve, ha.ev hx, ha.ev hy, hfv, Deferred.ofValue, invoke, hc, Result.andThen]
theorem qOverlap2 {x y : Operand} {T : Array TypeId} {f : FuncId} {fn : Func} {t tr e : TypeId} {vb vo la ca b off lb cb sz by_ : Nat} {z vc l : List Value} {ve eb : TypeId} (hg : gd ops F o = some true)
  (ho : o.op = .call { callee := .value (.func f), args := #[y, x], argTypes := T }) (hy : ev F y = some (.slice (some ⟨b, off, none⟩) lb cb)) (hx : ev F x = some (.slice (some ⟨vb, vo, none⟩) la ca))
  (hf : P.funcs[f]? = some fn) (hname : (fn.name == "runtime.NumGoroutine") = false) (hb : fn.body.isNone = true) (hn : Extern.findNext fn = none) (he : Extern.find fn = some (Extern.SlicesOverlaps.overlaps #[t, t] #[tr]))
  [ht : Und P t (.slice e)] [hl : Lay P e sz by_ z] (hv : M vb = some (.cells vc.toArray ve (0, 0))) (hmem : (b, Obj.cells l.toArray eb (0, 0)) ∈ L) (hne : vb ≠ b) (hl0 : vc.length ≠ 0) : QF P ops N F M L o (.bool false) := wDr hg fun ac ha w hw => by
 obtain ⟨ti, zv, hi, hi2, _⟩ := hl.info
 have h1 := hw.agree vb _ hv
 have h2 := hw.locs _ hmem
 have hr := Go.Lib.run_overlaps_apart (P := P) w t tr e ht.h sz (fun w => by simp [sizeOf, typeInfo, hi, hi2]) ⟨b, off, none⟩ ⟨vb, vo, none⟩ lb cb la ca (Ne.symm hne) eb ve l.length vc.length
  (by simp [World.shape?, h2]) (by simp [World.shape?, h1]) hl0 (by simp [World.frozen?, h2]) (by simp [World.frozen?, h2])
 have hc := run_callFunc_extern (P := P) hf hname hb hn he #[.slice (some ⟨b, off, none⟩) lb cb, .slice (some ⟨vb, vo, none⟩) la ca] w
 rw [hr] at hc
 have hfv : (ac.eval (.func f)) = .func (.func f) #[] #[] := rfl
 simp [execOp, ho, resolve, ha.ev hx, ha.ev hy, hfv, Deferred.ofValue, invoke, hc, Result.andThen]
theorem jl_apart {Q : Exit → Act → World → Prop} {rest : List Oper} {vb b : Nat} {ov ob : Obj} (hv : M vb = some ov) (hm : (b, ob) ∈ L) (h : vb ≠ b → JL P ops N Q rest F E M L) : JL P ops N Q rest F E M L := fun a w ha hw =>
 h (fun e => by subst e; have := (hw.locs _ hm).2.2; rw [hv] at this; cases this) a w ha hw
end
abbrev Ir := It × Value
theorem ins_room (A B V sp : List Value) (a b v : Nat) (ha : A.length = a) (hb : B.length = b) (hv : V.length = v) (hs : v ≤ sp.length) :
  ((((A ++ (B ++ sp)).take (a + v) ++ B ++ (A ++ (B ++ sp)).drop (a + v + B.length)).take a) ++ V ++ (((A ++ (B ++ sp)).take (a + v) ++ B ++ (A ++ (B ++ sp)).drop (a + v + B.length)).drop (a + V.length))) = A ++ V ++ B ++ (sp.drop v) := by
 subst ha hb hv
 have e1 : (A ++ (B ++ sp)).take (A.length + V.length) = A ++ (B ++ sp).take V.length := by rw [List.take_append]; simp [List.take_of_length_le]
 have e2 : (A ++ (B ++ sp)).drop (A.length + V.length + B.length) = sp.drop V.length := by
  rw [← List.append_assoc, List.drop_append, List.drop_eq_nil_of_le (by simp only [List.length_append]; omega), List.nil_append]; congr 1; all_goals (simp only [List.length_append]; omega)
 rw [e1, e2]
 have hl : ((B ++ sp).take V.length).length = V.length := by rw [List.length_take, List.length_append]; omega
 have e3 : (A ++ (B ++ sp).take V.length ++ B ++ sp.drop V.length).take A.length = A := by rw [List.append_assoc, List.append_assoc, List.take_left]
 have e4 : (A ++ (B ++ sp).take V.length ++ B ++ sp.drop V.length).drop (A.length + V.length) = B ++ sp.drop V.length := by
  rw [List.append_assoc, show A.length + V.length = (A ++ (B ++ sp).take V.length).length by rw [List.length_append, hl], List.drop_left]
 rw [e3, e4]; simp
theorem ins_grow (A B V zs : List Value) (a b v : Nat) (ha : A.length = a) (hb : B.length = b) (hv : V.length = v) (hs : v + b ≤ zs.length) :
  ((((A ++ zs).take a ++ V ++ (A ++ zs).drop (a + V.length)).take (a + v)) ++ B ++ (((A ++ zs).take a ++ V ++ (A ++ zs).drop (a + V.length)).drop (a + v + B.length))) = A ++ V ++ B ++ zs.drop (v + b) := by
 subst ha hb hv
 have e1 : (A ++ zs).drop (A.length + V.length) = zs.drop V.length := by rw [List.drop_append, List.drop_eq_nil_of_le (by omega), List.nil_append]; congr 1; omega
 rw [List.take_left, e1]
 have e2 : (A ++ V ++ zs.drop V.length).take (A.length + V.length) = A ++ V := by rw [show A.length + V.length = (A ++ V).length by rw [List.length_append], List.take_left]
 have e3 : (A ++ V ++ zs.drop V.length).drop (A.length + V.length + B.length) = zs.drop (V.length + B.length) := by
  rw [List.drop_append, List.drop_eq_nil_of_le (by rw [List.length_append]; omega), List.nil_append, List.drop_drop]; congr 1; rw [List.length_append]; omega
 rw [e2, e3]
theorem fl (p : List Ir) : (p.flatMap wBc).length = p.length * 5 := wAy wBc 5 wBe p
theorem wDq {p : List Ir} (h : ∀ x ∈ p, x.2.oneCell' = true) : ∀ u ∈ p.flatMap wBc, u.oneCell' = true := fun u hu => by
 obtain ⟨x, hx, hu⟩ := List.mem_flatMap.1 hu
 simp only [wBc, List.mem_cons, List.not_mem_nil, or_false] at hu
 rcases hu with rfl | rfl | rfl | rfl | rfl
 ·rfl
 ·rfl
 ·rfl
 ·rfl
 ·exact h x hx
theorem sj_own {M : Mem} {L : Lc} {g off : Nat} {A B sp : List Value} {e : TypeId} (hm : (g, Obj.cells (A ++ (B ++ sp)).toArray e (0, 0)) ∈ L) (ho : off = A.length) : SJ M L (some ⟨g, off, none⟩) B :=
 .inr ⟨g, off, rfl, fun i v hv => ⟨_, _, _, .inr hm, by
  subst ho
  have hi := (List.getElem?_eq_some_iff.1 hv).1
  rw [List.getElem?_toArray, List.getElem?_append_right (by omega), Nat.add_sub_cancel_left, List.getElem?_append_left hi]; exact hv⟩⟩
theorem cj_own {M : Mem} {L : Lc} {g : Nat} {A B : List Value} {e : TypeId} (hm : (g, Obj.cells (A ++ B).toArray e (0, 0)) ∈ L) : ∀ i v, A[i]? = some v → CJ M L g (0 + i) v := fun i v hv => ⟨_, _, _, .inr hm, by
 have hi := (List.getElem?_eq_some_iff.1 hv).1
 rw [List.getElem?_toArray, Nat.zero_add, List.getElem?_append_left hi]; exact hv⟩
theorem own_row {g n cap : Nat} {e : TypeId} {l xs rest : List Value} (hl : l = xs ++ rest) (hx : xs.length = n * 5) (hn : n ≤ cap) (hc : cap ≤ maxLen) (hs : l.length = cap * 5) : Own (.slice (some ⟨g, 0, none⟩) n cap) [(g, .cells l.toArray e (0, 0))] e 5 n xs :=
 ⟨hx, .inr ⟨g, cap, l.toArray, rfl, rfl, hn, hc, by simpa using hs, by rw [hl, ← hx]; exact List.take_left⟩⟩
theorem SM.of_block_pre {M : Mem} {b : Nat} {xs ys : List Value} {e : TypeId} {fz : Nat × Nat} (h : M b = some (.cells (xs ++ ys).toArray e fz)) : SM M (some ⟨b, 0, none⟩) xs :=
 .inr ⟨b, 0, rfl, fun i u hu => ⟨_, _, _, h, by
  have hi := (List.getElem?_eq_some_iff.1 hu).1
  rw [List.getElem?_toArray, Nat.zero_add, List.getElem?_append_left hi]; exact hu⟩⟩
set_option maxHeartbeats 2000000 in
theorem ins_mid (p1 p2 vs : List Ir) (g c : Nat) (sp : List Value) (vb vc : Nat) (vl : List Value) (ve : TypeId) (M : Mem) (hvb : M vb = some (.cells (vs.flatMap wBc ++ vl).toArray ve (0, 0))) (hvo : ∀ x ∈ vs, x.2.oneCell' = true) (hpo : ∀ x ∈ p2, x.2.oneCell' = true) (hm : 0 < vs.length) (h2 : 0 < p2.length) (hc : p1.length + p2.length ≤ c) (hcm : c ≤ maxLen) (hsp : sp.length = (c - (p1.length + p2.length)) * 5) (hbig : p1.length + p2.length + vs.length ≤ 100000) :
  SpecL Tryz.prog 147 #[.slice (some ⟨g, 0, none⟩) (p1.length + p2.length) c, .int .i64 p1.length, .slice (some ⟨vb, 0, none⟩) vs.length vc] M [(g, .cells (p1.flatMap wBc ++ (p2.flatMap wBc ++ sp)).toArray IT (0, 0))] fun u M' L' => Own u L' IT 5 (p1.length + vs.length + p2.length) ((p1 ++ vs ++ p2).flatMap wBc) := by
 refine wAf (vs := [_, _, _]) 95 _ Tryz.func147 rfl Tryz.ntmps147 rfl rfl ?_; intro W
 refine wAb (wAa (jp rfl (wAc (jT (wAb (wAa (jp rfl (jp rfl (wAi rfl rfl (qSl rfl rfl rfl (.no _) (.no _) (.of (v := p1.length) rfl (by omega) (by omega)) (by omega) (by simp)) ?_)))))))))
 refine wAc (jT (wAb (wAa (jp rfl (wAi rfl rfl (wBq rfl rfl rfl) ?_)))))
 refine jp rfl (wAc (jT (wAb (wAb (wAa (jp rfl (jf rfl (decide_eq_false (by omega)) ?_)))))))
 refine wAc (jT (wAj rfl (wAd (jT (wAb (wAa (jp rfl (wAi rfl rfl (wBq rfl rfl rfl) ?_))))))))
 refine jp rfl (wAc (jT (wAb (wAb (wAa (jp rfl (jp rfl (jf rfl (decide_eq_false (by omega)) ?_))))))))
 refine wAc (jT (wAj rfl (wAd (jT (wAb (wAb (wAa (jp rfl (jp rfl (ja rfl (by omega) ?_))))))))))
 refine jp rfl (wAi rfl rfl (qCap rfl rfl rfl) ?_)
 refine js rfl (fun h31 => ?_) (fun h31 => ?_)
 ·refine wAc (jT (wAg rfl (wAb (wAa (jp rfl (jp rfl ?_))))))
  refine wAi rfl rfl (qEq (qSl rfl rfl rfl (.no _) (.of (v := p1.length) rfl (by omega) (by omega)) (.no _) (by omega) (by simp)) (v' := .slice (some ⟨g, 0, none⟩) (p1.length) (c)) (by rw [wDa]; rfl)) ?_
  refine jp rfl (jp rfl (ja rfl (by omega) ?_))
  refine jp rfl (ja rfl (by omega) ?_)
  refine wAw rfl rfl (hAppendZG (m := vs.length + p2.length) (xs := p1.flatMap wBc) rfl rfl rfl rfl (by omega) (fl p1) (cj_own (List.Mem.head _)) rfl (by omega) (by omega) (by omega) (by omega)) ?_; rintro _ _ _ ⟨rfl, g2, c2, zs, rfl, rfl, hc2a, hc2b, hzs⟩
  refine jp rfl (wAc (jT (wAb (wAa (jp rfl (jp rfl ?_))))))
  refine wAi rfl rfl (qEq (qSl rfl rfl rfl (.no _) (.no _) (.of (v := p1.length) rfl (by omega) (by omega)) (by omega) (by simp)) (v' := .slice (some ⟨g2, p1.length * 5, none⟩) (p1.length + (vs.length + p2.length) - p1.length) (c2 - p1.length)) (by rw [wBt (by omega)]; exact congrArg (fun k => Value.slice (some ⟨g2, k, none⟩) _ _) (by omega))) ?_
  refine jp rfl ?_
  refine wAw rfl rfl (wKm (cs := vs.flatMap wBc) rfl rfl rfl rfl (by rw [fl]; congr 1; omega) ((SM.of_block_pre hvb).sj _) (wDq hvo) (by simp only [List.length_append, List.length_take, List.length_drop, fl]; omega)) ?_; rintro _ _ _ ⟨rfl, rfl, rfl⟩
  refine wAc (jT (wAb (wBn [(0, true), (1, true), (2, true), (3, true), (4, true), (5, true), (6, true), (7, true), (8, false)] [] (by kernel_rfl) (by kernel_rfl) (by kernel_rfl) rfl (by simp) ?_)))
  iterate 3 refine dp rfl rfl ?_
  refine da rfl rfl (by omega) ?_
  refine wBi rfl rfl rfl (qEq (qSl rfl rfl rfl (.no _) (.no _) (.of (v := p1.length + vs.length) rfl (by omega) (by omega)) (by omega) (by simp)) (v' := .slice (some ⟨g2, p1.length * 5 + vs.length * 5, none⟩) (p1.length + (vs.length + p2.length) - (p1.length + vs.length)) (c2 - (p1.length + vs.length))) (by rw [wBt (by omega)]; exact congrArg (fun k => Value.slice (some ⟨g2, k, none⟩) _ _) (by omega))) ?_
  iterate 2 refine dp rfl rfl ?_
  refine wBi rfl rfl rfl (qEq (qSl rfl rfl rfl (.no _) (.no _) (.of (v := p1.length) rfl (by omega) (by omega)) (by omega) (by simp)) (v' := .slice (some ⟨g, p1.length * 5, none⟩) ((p1.length + p2.length) - p1.length) (c - p1.length)) (by rw [wBt (by omega)]; exact congrArg (fun k => Value.slice (some ⟨g, k, none⟩) _ _) (by omega))) ?_
  refine wHh rfl rfl rfl (wKm (cs := p2.flatMap wBc) rfl rfl rfl rfl (by rw [fl]; congr 1; omega) (sj_own (List.Mem.tail _ (List.Mem.head _)) (fl p1).symm) (wDq hpo) (by simp only [List.length_append, List.length_take, List.length_drop, fl]; omega)) ?_; rintro _ _ _ ⟨rfl, rfl, rfl⟩
  refine ⟨_, _, MLe.refl _, MLe.refl _, fun _ h => h, by simp, ?_⟩
  refine wBg (jPn (jT (wAb (wAa (jp rfl (jp rfl (wAc (jT (wAe (jTr (wAv (List.Sublist.cons_cons _ (List.nil_sublist _)) ?_)))))))))))
  refine jr1 rfl rfl ?_
  rw [show p1.length + (vs.length + p2.length) = p1.length + vs.length + p2.length by omega]
  exact own_row ((ins_grow _ _ _ zs (p1.length * 5) (p2.length * 5) (vs.length * 5) (fl p1) (fl p2) (fl vs) (by omega)).trans (by rw [List.flatMap_append, List.flatMap_append])) (by rw [fl, List.length_append, List.length_append]) (by omega) hc2b (by simp only [List.length_append, List.length_take, List.length_drop, fl]; omega)
 ·refine wAc (jT (wAj rfl (wAd (jT (wAb (wAa (jp rfl (jp rfl (jp rfl (ja rfl (by omega) ?_))))))))))
  refine wAi rfl rfl (qEq (qSl rfl rfl rfl (.no _) (.of (v := p1.length + p2.length + vs.length) rfl (by omega) (by omega)) (.no _) (by omega) (by simp)) (v' := .slice (some ⟨g, 0, none⟩) (p1.length + p2.length + vs.length) (c)) (by rw [wDa]; rfl)) ?_
  refine jp rfl (wAc (jT (wAb (wAb (wAa (jp rfl (jp rfl (jp rfl (jp rfl (ja rfl (by omega) ?_))))))))))
  refine wAi rfl rfl (qEq (qSl rfl rfl rfl (.no _) (.no _) (.of (v := p1.length + vs.length) rfl (by omega) (by omega)) (by omega) (by simp)) (v' := .slice (some ⟨g, p1.length * 5 + vs.length * 5, none⟩) (p1.length + p2.length + vs.length - (p1.length + vs.length)) (c - (p1.length + vs.length))) (by rw [wBt (by omega)]; exact congrArg (fun k => Value.slice (some ⟨g, k, none⟩) _ _) (by omega))) ?_
  refine jl_apart hvb (List.Mem.head _) (fun hne => ?_)
  refine wAi rfl rfl (qEq (qOverlap (t := 59) (tr := 4) rfl rfl rfl rfl Tryz.func148 rfl rfl (by kernel_rfl) (by kernel_rfl) hvb (List.Mem.head _) hne (by simp only [List.length_append, fl]; omega)) (v' := .bool false) (by rfl)) ?_
  refine jp rfl (wAc (jT (wAg rfl (wAb (wBn [(0, true), (1, true), (2, true), (3, true), (4, true), (5, true), (6, true), (7, true), (8, false)] [] (by kernel_rfl) (by kernel_rfl) (by kernel_rfl) rfl (by simp) ?_)))))
  iterate 3 refine dp rfl rfl ?_
  refine da rfl rfl (by omega) ?_
  refine wBi rfl rfl rfl (qEq (qSl rfl rfl rfl (.no _) (.no _) (.of (v := p1.length + vs.length) rfl (by omega) (by omega)) (by omega) (by simp)) (v' := .slice (some ⟨g, p1.length * 5 + vs.length * 5, none⟩) (p1.length + p2.length + vs.length - (p1.length + vs.length)) (c - (p1.length + vs.length))) (by rw [wBt (by omega)]; exact congrArg (fun k => Value.slice (some ⟨g, k, none⟩) _ _) (by omega))) ?_
  iterate 2 refine dp rfl rfl ?_
  refine wBi rfl rfl rfl (qEq (qSl rfl rfl rfl (.no _) (.no _) (.of (v := p1.length) rfl (by omega) (by omega)) (by omega) (by simp)) (v' := .slice (some ⟨g, p1.length * 5, none⟩) (p1.length + p2.length + vs.length - p1.length) (c - p1.length)) (by rw [wBt (by omega)]; exact congrArg (fun k => Value.slice (some ⟨g, k, none⟩) _ _) (by omega))) ?_
  refine wHh rfl rfl rfl (wKm (cs := p2.flatMap wBc) rfl rfl rfl rfl (by rw [fl]; congr 1; omega) (sj_own (List.Mem.head _) (fl p1).symm) (wDq hpo) (by simp only [List.length_append, List.length_take, List.length_drop, fl]; omega)) ?_; rintro _ _ _ ⟨rfl, rfl, rfl⟩
  refine ⟨_, _, MLe.refl _, MLe.refl _, fun _ h => h, by simp, ?_⟩
  refine wBg (jPn (jT (wAb (wAa (jp rfl (jp rfl ?_))))))
  refine wAi rfl rfl (qEq (qSl rfl rfl rfl (.no _) (.no _) (.of (v := p1.length) rfl (by omega) (by omega)) (by omega) (by simp)) (v' := .slice (some ⟨g, p1.length * 5, none⟩) (p1.length + p2.length + vs.length - p1.length) (c - p1.length)) (by rw [wBt (by omega)]; exact congrArg (fun k => Value.slice (some ⟨g, k, none⟩) _ _) (by omega))) ?_
  refine jp rfl ?_
  refine wAw rfl rfl (wKm (cs := vs.flatMap wBc) rfl rfl rfl rfl (by rw [fl]; congr 1; omega) ((SM.of_block_pre hvb).sj _) (wDq hvo) (by simp only [List.length_append, List.length_take, List.length_drop, fl]; omega)) ?_; rintro _ _ _ ⟨rfl, rfl, rfl⟩
  refine wAc (jT (wAb (wAa (jp rfl (jp rfl (wAc (jT (wAe (jTr (jr1 rfl rfl ?_))))))))))
  rw [show p1.length + p2.length + vs.length = p1.length + vs.length + p2.length by omega]
  exact own_row ((ins_room _ _ _ sp (p1.length * 5) (p2.length * 5) (vs.length * 5) (fl p1) (fl p2) (fl vs) (by omega)).trans (by rw [List.flatMap_append, List.flatMap_append])) (by rw [fl, List.length_append, List.length_append]) (by omega) hcm (by simp only [List.length_append, List.length_take, List.length_drop, fl]; omega)
theorem ins_end (ps vs : List Ir) (sa : Option Addr) (sc : Nat) (R : Lc) (hown : Own (.slice sa ps.length sc) R IT 5 ps.length (ps.flatMap wBc)) (hpc : ps.length ≤ sc) (vb vc : Nat) (vl : List Value) (ve : TypeId) (M : Mem) (hvb : M vb = some (.cells (vs.flatMap wBc ++ vl).toArray ve (0, 0))) (hvo : ∀ x ∈ vs, x.2.oneCell' = true) (hm : 0 < vs.length) (hbig : ps.length + vs.length ≤ 100000) :
  SpecL Tryz.prog 147 #[.slice sa ps.length sc, .int .i64 ps.length, .slice (some ⟨vb, 0, none⟩) vs.length vc] M R fun u M' L' => Own u L' IT 5 (ps.length + vs.length) ((ps ++ vs).flatMap wBc) := by
 refine wAf (vs := [_, _, _]) 95 _ Tryz.func147 rfl Tryz.ntmps147 rfl rfl ?_; intro W
 refine wAb (wAa (jp rfl (wAc (jT (wAb (wAa (jp rfl (jp rfl (wAi rfl rfl (qSl rfl rfl rfl (.no _) (.no _) (.of (v := ps.length) rfl (by omega) (by omega)) (by omega) (by simp)) ?_)))))))))
 refine wAc (jT (wAb (wAa (jp rfl (wAi rfl rfl (wBq rfl rfl rfl) ?_)))))
 refine jp rfl (wAc (jT (wAb (wAb (wAa (jp rfl (jf rfl (decide_eq_false (by omega)) ?_)))))))
 refine wAc (jT (wAj rfl (wAd (jT (wAb (wAa (jp rfl (wAi rfl rfl (wBq rfl rfl rfl) ?_))))))))
 refine jp rfl (wAc (jT (wAb (wAb (wAa (jp rfl (jp rfl (jt rfl (decide_eq_true (by omega)) ?_))))))))
 refine wAc (jT (wAg rfl (wAb (wAa (jp rfl (jp rfl (wAw rfl rfl (wFv (R := R) (n := ps.length) (m := vs.length) (news := vs.flatMap wBc) rfl rfl rfl rfl hown (fl vs) (SM.of_block_pre hvb) rfl (wDq hvo) (by omega) (by omega)) ?_))))))); rintro _ _ _ ⟨rfl, R2, rfl, hown2⟩
 refine jp rfl (wAc (jT (wAe (jTr (wAv (L' := R2) (by simp) ?_)))))
 refine jr1 rfl rfl ?_
 rw [List.flatMap_append]; exact hown2
theorem own_parts {ps : List Ir} {sa : Option Addr} {sc i : Nat} {R : Lc} (h : Own (.slice sa ps.length sc) R IT 5 ps.length (ps.flatMap wBc)) (hi : i < ps.length) :
  ∃ g sp, sa = some ⟨g, 0, none⟩ ∧ R = [(g, .cells ((ps.take i).flatMap wBc ++ ((ps.drop i).flatMap wBc ++ sp)).toArray IT (0, 0))] ∧ ps.length ≤ sc ∧ sc ≤ maxLen ∧ sp.length = (sc - ps.length) * 5 := by
 obtain ⟨g, cap, cur, e, rfl, h1, h2, h3, h4⟩ := h.open (by omega)
 cases e
 refine ⟨g, cur.toList.drop (ps.length * 5), rfl, ?_, h1, h2, ?_⟩
 ·rw [← List.append_assoc, ← List.flatMap_append, List.take_append_drop, ← h4, List.take_append_drop, Array.toArray_toList]
 ·rw [List.length_drop, Array.length_toList, h3]; omega
theorem ins_spec (ps vs : List Ir) (i : Nat) (hi : i ≤ ps.length) (sa : Option Addr) (sc : Nat) (R : Lc) (hown : Own (.slice sa ps.length sc) R IT 5 ps.length (ps.flatMap wBc)) (hpo : ∀ x ∈ ps, x.2.oneCell' = true) (hpc : ps.length ≤ sc) (vb vc : Nat) (vl : List Value) (ve : TypeId) (M : Mem) (hvb : M vb = some (.cells (vs.flatMap wBc ++ vl).toArray ve (0, 0))) (hvo : ∀ x ∈ vs, x.2.oneCell' = true) (hm : 0 < vs.length) (hbig : ps.length + vs.length ≤ 100000) :
  SpecL Tryz.prog 147 #[.slice sa ps.length sc, .int .i64 i, .slice (some ⟨vb, 0, none⟩) vs.length vc] M R fun u _ L' => Own u L' IT 5 (ps.length + vs.length) ((ps.take i ++ vs ++ ps.drop i).flatMap wBc) := by
 by_cases h : i = ps.length
 ·subst h
  rw [List.take_length, List.drop_length, List.append_nil]
  exact ins_end ps vs sa sc R hown hpc vb vc vl ve M hvb hvo hm hbig
 ·obtain ⟨g, sp, rfl, rfl, h1, h2, h3⟩ := own_parts hown (i := i) (by omega)
  have hl1 : (ps.take i).length = i := by rw [List.length_take]; omega
  have hl2 : (ps.drop i).length = ps.length - i := List.length_drop
  have hk := ins_mid (ps.take i) (ps.drop i) vs g sc sp vb vc vl ve M hvb hvo (fun x hx => hpo x (List.mem_of_mem_drop hx)) hm (by omega) (by omega) h2 (by rw [hl1, hl2]; rw [show i + (ps.length - i) = ps.length by omega]; exact h3) (by omega)
  rw [hl1, hl2, show i + (ps.length - i) = ps.length by omega, show i + vs.length + (ps.length - i) = ps.length + vs.length by omega] at hk
  exact hk
theorem ins_tail (A B V T : List Value) (a b v : Nat) (ha : A.length = a) (hb : B.length = b) (hv : V.length = v) (hs : v ≤ T.length) :
  ((((A ++ T).take (a + v) ++ B ++ (A ++ T).drop (a + v + B.length)).take a) ++ V ++ (((A ++ T).take (a + v) ++ B ++ (A ++ T).drop (a + v + B.length)).drop (a + V.length))) = A ++ V ++ B ++ (T.drop (v + b)) := by
 subst ha hb hv
 have e1 : (A ++ T).take (A.length + V.length) = A ++ T.take V.length := by rw [List.take_append]; simp [List.take_of_length_le]
 have e2 : (A ++ T).drop (A.length + V.length + B.length) = T.drop (V.length + B.length) := by
  rw [List.drop_append, List.drop_eq_nil_of_le (by omega), List.nil_append]; congr 1; omega
 rw [e1, e2]
 have hl : (T.take V.length).length = V.length := by rw [List.length_take]; omega
 have e3 : (A ++ T.take V.length ++ B ++ T.drop (V.length + B.length)).take A.length = A := by rw [List.append_assoc, List.append_assoc, List.take_left]
 have e4 : (A ++ T.take V.length ++ B ++ T.drop (V.length + B.length)).drop (A.length + V.length) = B ++ T.drop (V.length + B.length) := by
  rw [List.append_assoc, show A.length + V.length = (A ++ T.take V.length).length by rw [List.length_append, hl], List.drop_left]
 rw [e3, e4]; simp
theorem one_row (A V Y T : List Value) (a : Nat) (ha : A.length = a) (hv : V.length = Y.length) : (A ++ (Y ++ T)).take a ++ V ++ (A ++ (Y ++ T)).drop (a + V.length) = A ++ (V ++ T) := by
 subst ha
 rw [List.take_left, hv, ← List.append_assoc A Y T, show A.length + Y.length = (A ++ Y).length by rw [List.length_append], List.drop_left, List.append_assoc]
theorem one_same (A V B T : List Value) (a : Nat) (ha : A.length + V.length = a) : (A ++ (V ++ (B ++ T))).take a ++ B ++ (A ++ (V ++ (B ++ T))).drop (a + B.length) = A ++ V ++ B ++ T := by
 subst ha
 rw [← List.append_assoc, show A.length + V.length = (A ++ V).length by rw [List.length_append], List.take_left, ← List.append_assoc (A ++ V) B T, show (A ++ V).length + B.length = (A ++ V ++ B).length by simp only [List.length_append], List.drop_left]
theorem sj_own2 {M : Mem} {L : Lc} {g off : Nat} {A Y B sp : List Value} {e : TypeId} (hm : (g, Obj.cells (A ++ (Y ++ (B ++ sp))).toArray e (0, 0)) ∈ L) (ho : off = A.length + Y.length) : SJ M L (some ⟨g, off, none⟩) B :=
 sj_own (A := A ++ Y) (by rw [List.append_assoc]; exact hm) (by rw [List.length_append]; exact ho)
set_option maxHeartbeats 4000000 in
theorem rep_mid (p1 : List Ir) (y : Ir) (p2 vs : List Ir) (g c : Nat) (sp : List Value) (vb vc : Nat) (vl : List Value) (ve : TypeId) (M : Mem) (hvb : M vb = some (.cells (vs.flatMap wBc ++ vl).toArray ve (0, 0))) (hvo : ∀ x ∈ vs, x.2.oneCell' = true) (hpo : ∀ x ∈ p2, x.2.oneCell' = true) (hm : 0 < vs.length) (h2 : 0 < p2.length) (hc : p1.length + 1 + p2.length ≤ c) (hcm : c ≤ maxLen) (hsp : sp.length = (c - (p1.length + 1 + p2.length)) * 5) (hbig : p1.length + 1 + p2.length + vs.length ≤ 100000) :
  SpecL Tryz.prog 111 #[.slice (some ⟨g, 0, none⟩) (p1.length + 1 + p2.length) c, .int .i64 p1.length, .int .i64 ((p1.length + 1 : Nat) : Int), .slice (some ⟨vb, 0, none⟩) vs.length vc] M [(g, .cells (p1.flatMap wBc ++ (wBc y ++ (p2.flatMap wBc ++ sp))).toArray IT (0, 0))] fun u M' L' => Own u L' IT 5 (p1.length + vs.length + p2.length) ((p1 ++ vs ++ p2).flatMap wBc) := by
 refine wAf (vs := [_, _, _, _]) 224 _ Tryz.func111 rfl Tryz.ntmps111 rfl rfl ?_; intro W
 refine wAb (wAa (jp rfl (wAc (jT (wAb (wAa (jp rfl (jp rfl (jp rfl (wAi rfl rfl (qSl rfl rfl rfl (.no _) (.of (v := p1.length + 1) rfl (by omega) (by omega)) (.of (v := p1.length) rfl (by omega) (by omega)) (by omega) (by simp)) ?_))))))))))
 refine wAc (jT (wAb (wAb (wAa (jp rfl (jp rfl (jf rfl (decide_eq_false (by omega)) ?_)))))))
 refine wAc (jT (wAj rfl (wAd (jT (wAb (wAb (wAa (jp rfl (jp rfl (wAi rfl rfl (wBq rfl rfl rfl) ?_))))))))))
 refine jf rfl (decide_eq_false (by omega)) ?_
 refine wAc (jT (wAj rfl (wAd (jT (wAb (wBn [(0, true), (1, true), (2, true), (3, true), (4, true), (5, true), (6, true), (7, true), (8, true), (9, true), (10, true), (11, true), (12, true)] [] (by kernel_rfl) (by kernel_rfl) (by kernel_rfl) rfl (by simp) ?_))))))
 iterate 2 refine dp rfl rfl ?_
 refine wBi rfl rfl rfl (qEq (qSl rfl rfl rfl (.no _) (.of (v := p1.length) rfl (by omega) (by omega)) (.no _) (by omega) (by simp)) (v' := .slice (some ⟨g, 0, none⟩) (p1.length) (c)) (by rw [wDa]; rfl)) ?_
 refine wBi rfl rfl rfl (wBq rfl rfl rfl) ?_
 refine dp rfl rfl ?_
 refine wBi rfl rfl rfl (wBq rfl rfl rfl) ?_
 refine da rfl rfl (by omega) ?_
 iterate 2 refine dp rfl rfl ?_
 refine wBi rfl rfl rfl (qEq (qSl rfl rfl rfl (.no _) (.no _) (.of (v := p1.length + 1) rfl (by omega) (by omega)) (by omega) (by simp)) (v' := .slice (some ⟨g, p1.length * 5 + 5, none⟩) (p1.length + 1 + p2.length - (p1.length + 1)) (c - (p1.length + 1))) (by rw [wBt (by omega)]; exact congrArg (fun k => Value.slice (some ⟨g, k, none⟩) _ _) (by omega))) ?_
 refine wBi rfl rfl rfl (wBq rfl rfl rfl) ?_
 refine da rfl rfl (by omega) ?_
 refine dp rfl rfl ?_
 refine wBg (jPn (jT (wAb (wAb (wAa (jp rfl (jp rfl (wAi rfl rfl (qCap rfl rfl rfl) ?_))))))))
 refine js rfl (fun h60 => ?_) (fun h60 => ?_)
 ·refine wAc (jT (wAg rfl (wAb (wAa (jp rfl (jp rfl ?_))))))
  refine wAi rfl rfl (qEq (qSl rfl rfl rfl (.no _) (.of (v := p1.length) rfl (by omega) (by omega)) (.no _) (by omega) (by simp)) (v' := .slice (some ⟨g, 0, none⟩) (p1.length) (c)) (by rw [wDa]; rfl)) ?_
  refine jp rfl (jp rfl (ja rfl (by omega) ?_))
  refine wAw rfl rfl (hAppendZG (m := vs.length + p2.length) (xs := p1.flatMap wBc) rfl rfl rfl rfl (by omega) (fl p1) (cj_own (List.Mem.head _)) rfl (by omega) (by omega) (by omega) (by omega)) ?_; rintro _ _ _ ⟨rfl, g2, c2, zs, rfl, rfl, hc2a, hc2b, hzs⟩
  refine jp rfl (wAc (jT (wAb (wAa (jp rfl (jp rfl ?_))))))
  refine wAi rfl rfl (qEq (qSl rfl rfl rfl (.no _) (.no _) (.of (v := p1.length) rfl (by omega) (by omega)) (by omega) (by simp)) (v' := .slice (some ⟨g2, p1.length * 5, none⟩) (p1.length + (vs.length + p2.length) - p1.length) (c2 - p1.length)) (by rw [wBt (by omega)]; exact congrArg (fun k => Value.slice (some ⟨g2, k, none⟩) _ _) (by omega))) ?_
  refine jp rfl ?_
  refine wAw rfl rfl (wKm (cs := vs.flatMap wBc) rfl rfl rfl rfl (by rw [fl]; congr 1; omega) ((SM.of_block_pre hvb).sj _) (wDq hvo) (by simp only [List.length_append, List.length_take, List.length_drop, fl, wBe]; omega)) ?_; rintro _ _ _ ⟨rfl, rfl, rfl⟩
  refine wAc (jT (wAb (wBn [(0, true), (1, true), (2, true), (3, true), (4, true), (5, true), (6, true), (7, true), (8, true), (9, false)] [] (by kernel_rfl) (by kernel_rfl) (by kernel_rfl) rfl (by simp) ?_)))
  iterate 3 refine dp rfl rfl ?_
  refine wBi rfl rfl rfl (wBq rfl rfl rfl) ?_
  refine da rfl rfl (by omega) ?_
  refine wBi rfl rfl rfl (qEq (qSl rfl rfl rfl (.no _) (.no _) (.of (v := p1.length + vs.length) rfl (by omega) (by omega)) (by omega) (by simp)) (v' := .slice (some ⟨g2, p1.length * 5 + vs.length * 5, none⟩) (p1.length + (vs.length + p2.length) - (p1.length + vs.length)) (c2 - (p1.length + vs.length))) (by rw [wBt (by omega)]; exact congrArg (fun k => Value.slice (some ⟨g2, k, none⟩) _ _) (by omega))) ?_
  iterate 2 refine dp rfl rfl ?_
  refine wBi rfl rfl rfl (qEq (qSl rfl rfl rfl (.no _) (.no _) (.of (v := p1.length + 1) rfl (by omega) (by omega)) (by omega) (by simp)) (v' := .slice (some ⟨g, p1.length * 5 + 5, none⟩) (p1.length + 1 + p2.length - (p1.length + 1)) (c - (p1.length + 1))) (by rw [wBt (by omega)]; exact congrArg (fun k => Value.slice (some ⟨g, k, none⟩) _ _) (by omega))) ?_
  refine wHh rfl rfl rfl (wKm (cs := p2.flatMap wBc) rfl rfl rfl rfl (by rw [fl]; congr 1; omega) (sj_own2 (List.Mem.tail _ (List.Mem.head _)) (by rw [fl]; show _ = p1.length * 5 + 5; omega)) (wDq hpo) (by simp only [List.length_append, List.length_take, List.length_drop, fl, wBe]; omega)) ?_; rintro _ _ _ ⟨rfl, rfl, rfl⟩
  refine ⟨_, _, MLe.refl _, MLe.refl _, fun _ h => h, by simp, ?_⟩
  refine wBg (jPn (jT (wAb (wAa (jp rfl (jp rfl (wAc (jT (wAe (jTr (wAv (List.Sublist.cons_cons _ (List.nil_sublist _)) ?_)))))))))))
  refine jr1 rfl rfl ?_
  rw [show p1.length + (vs.length + p2.length) = p1.length + vs.length + p2.length by omega]
  exact own_row ((ins_grow _ _ _ zs (p1.length * 5) (p2.length * 5) (vs.length * 5) (fl p1) (fl p2) (fl vs) (by omega)).trans (by rw [List.flatMap_append, List.flatMap_append])) (by rw [fl, List.length_append, List.length_append]) (by omega) hc2b (by simp only [List.length_append, List.length_take, List.length_drop, fl, wBe]; omega)
 ·refine wAc (jT (wAj rfl (wAd (jT (wAb (wAa (jp rfl (jp rfl ?_))))))))
  refine wAi rfl rfl (qEq (qSl rfl rfl rfl (.no _) (.of (v := p1.length + vs.length + p2.length) rfl (by omega) (by omega)) (.no _) (by omega) (by simp)) (v' := .slice (some ⟨g, 0, none⟩) (p1.length + vs.length + p2.length) (c)) (by rw [wDa]; exact congrArg (fun k => Value.slice _ k _) (by omega))) ?_
  refine jp rfl (wAc (jT (wAb (wAb (wAa (jp rfl (jp rfl (wAi rfl rfl (wBq rfl rfl rfl) ?_))))))))
  refine ja rfl (by omega) ?_
  refine jp rfl (js rfl (fun h92 => ?_) (fun h92 => ?_))
  ·refine wAc (jT (wAg rfl (wAb (wAa (jp rfl (jp rfl ?_))))))
   refine wAi rfl rfl (qEq (qSl rfl rfl rfl (.no _) (.no _) (.of (v := p1.length) rfl (by omega) (by omega)) (by omega) (by simp)) (v' := .slice (some ⟨g, p1.length * 5, none⟩) (p1.length + vs.length + p2.length - p1.length) (c - p1.length)) (by rw [wBt (by omega)]; exact congrArg (fun k => Value.slice (some ⟨g, k, none⟩) _ _) (by omega))) ?_
   refine jp rfl ?_
   refine wAw rfl rfl (wKm (cs := vs.flatMap wBc) rfl rfl rfl rfl (by rw [fl]; congr 1; omega) ((SM.of_block_pre hvb).sj _) (wDq hvo) (by simp only [List.length_append, List.length_take, List.length_drop, fl, wBe]; omega)) ?_; rintro _ _ _ ⟨rfl, rfl, rfl⟩
   have hv1 : vs.length = 1 := by omega
   rw [one_row _ _ _ _ _ (fl p1) (by rw [fl, hv1]; rfl)]
   refine wAc (jT (wAb (wBn [(0, true), (1, true), (2, true), (3, true), (4, true), (5, true), (6, true), (7, true), (8, true), (9, false)] [] (by kernel_rfl) (by kernel_rfl) (by kernel_rfl) rfl (by simp) ?_)))
   iterate 3 refine dp rfl rfl ?_
   refine wBi rfl rfl rfl (wBq rfl rfl rfl) ?_
   refine da rfl rfl (by omega) ?_
   refine wBi rfl rfl rfl (qEq (qSl rfl rfl rfl (.no _) (.no _) (.of (v := p1.length + vs.length) rfl (by omega) (by omega)) (by omega) (by simp)) (v' := .slice (some ⟨g, p1.length * 5 + vs.length * 5, none⟩) (p1.length + vs.length + p2.length - (p1.length + vs.length)) (c - (p1.length + vs.length))) (by rw [wBt (by omega)]; exact congrArg (fun k => Value.slice (some ⟨g, k, none⟩) _ _) (by omega))) ?_
   iterate 2 refine dp rfl rfl ?_
   refine wBi rfl rfl rfl (qEq (qSl rfl rfl rfl (.no _) (.no _) (.of (v := p1.length + 1) rfl (by omega) (by omega)) (by omega) (by simp)) (v' := .slice (some ⟨g, p1.length * 5 + 5, none⟩) (p1.length + 1 + p2.length - (p1.length + 1)) (c - (p1.length + 1))) (by rw [wBt (by omega)]; exact congrArg (fun k => Value.slice (some ⟨g, k, none⟩) _ _) (by omega))) ?_
   refine wHh rfl rfl rfl (wKm (cs := p2.flatMap wBc) rfl rfl rfl rfl (by rw [fl]; congr 1; omega) (sj_own2 (List.Mem.head _) (by rw [fl, fl]; omega)) (wDq hpo) (by simp only [List.length_append, List.length_take, List.length_drop, fl, wBe]; omega)) ?_; rintro _ _ _ ⟨rfl, rfl, rfl⟩
   refine ⟨_, _, MLe.refl _, MLe.refl _, fun _ h => h, by simp, ?_⟩
   refine wBg (jPn (jT (wAb (wAa (jp rfl (jp rfl ?_))))))
   refine wAi rfl rfl (qEq (qSl rfl rfl rfl (.no _) (.no _) (.of (v := p1.length + vs.length + p2.length) rfl (by omega) (by omega)) (by omega) (by simp)) (v' := .slice (slA (some ⟨g, 0, none⟩) (p1.length + vs.length + p2.length) c 5) 0 (c - (p1.length + vs.length + p2.length))) (by congr 1; omega)) ?_
   refine jl_s rfl (hClear0 rfl rfl rfl) ?_; rintro _ _ _ ⟨rfl, rfl⟩
   refine wAc (jT (wAb (wAa (jp rfl (jp rfl (wAc (jT (wAe (jTr (jr1 rfl rfl ?_))))))))))
   exact own_row ((one_same _ _ _ sp _ (by rw [fl, fl])).trans (by rw [List.flatMap_append, List.flatMap_append])) (by rw [fl, List.length_append, List.length_append]) (by omega) hcm (by simp only [List.length_append, List.length_take, List.length_drop, fl, wBe]; omega)
  ·refine wAc (jT (wAj rfl (wAd (jT (wAb (wAb (wAa (jp rfl (jp rfl (jp rfl (wAi rfl rfl (wBq rfl rfl rfl) ?_)))))))))))
   refine ja rfl (by omega) ?_
   refine wAi rfl rfl (qEq (qSl rfl rfl rfl (.no _) (.no _) (.of (v := p1.length + vs.length) rfl (by omega) (by omega)) (by omega) (by simp)) (v' := .slice (some ⟨g, p1.length * 5 + vs.length * 5, none⟩) (p1.length + vs.length + p2.length - (p1.length + vs.length)) (c - (p1.length + vs.length))) (by rw [wBt (by omega)]; exact congrArg (fun k => Value.slice (some ⟨g, k, none⟩) _ _) (by omega))) ?_
   refine jp rfl (jl_apart hvb (List.Mem.head _) (fun hne => ?_))
   refine wAi rfl rfl (qEq (qOverlap2 (t := 59) (tr := 4) rfl rfl rfl rfl Tryz.func148 rfl rfl (by kernel_rfl) (by kernel_rfl) hvb (List.Mem.head _) hne (by simp only [List.length_append, fl]; omega)) (v' := .bool false) (by rfl)) ?_
   refine jp rfl (wAc (jT (wAg rfl (wAb (wBn [(0, true), (1, true), (2, true), (3, true), (4, true), (5, true), (6, true), (7, true), (8, true), (9, false)] [] (by kernel_rfl) (by kernel_rfl) (by kernel_rfl) rfl (by simp) ?_)))))
   iterate 3 refine dp rfl rfl ?_
   refine wBi rfl rfl rfl (wBq rfl rfl rfl) ?_
   refine da rfl rfl (by omega) ?_
   refine wBi rfl rfl rfl (qEq (qSl rfl rfl rfl (.no _) (.no _) (.of (v := p1.length + vs.length) rfl (by omega) (by omega)) (by omega) (by simp)) (v' := .slice (some ⟨g, p1.length * 5 + vs.length * 5, none⟩) (p1.length + vs.length + p2.length - (p1.length + vs.length)) (c - (p1.length + vs.length))) (by rw [wBt (by omega)]; exact congrArg (fun k => Value.slice (some ⟨g, k, none⟩) _ _) (by omega))) ?_
   iterate 2 refine dp rfl rfl ?_
   refine wBi rfl rfl rfl (qEq (qSl rfl rfl rfl (.no _) (.no _) (.of (v := p1.length + 1) rfl (by omega) (by omega)) (by omega) (by simp)) (v' := .slice (some ⟨g, p1.length * 5 + 5, none⟩) (p1.length + 1 + p2.length - (p1.length + 1)) (c - (p1.length + 1))) (by rw [wBt (by omega)]; exact congrArg (fun k => Value.slice (some ⟨g, k, none⟩) _ _) (by omega))) ?_
   refine wHh rfl rfl rfl (wKm (cs := p2.flatMap wBc) rfl rfl rfl rfl (by rw [fl]; congr 1; omega) (sj_own2 (List.Mem.head _) (by rw [fl]; show _ = p1.length * 5 + 5; omega)) (wDq hpo) (by simp only [List.length_append, List.length_take, List.length_drop, fl, wBe]; omega)) ?_; rintro _ _ _ ⟨rfl, rfl, rfl⟩
   refine ⟨_, _, MLe.refl _, MLe.refl _, fun _ h => h, by simp, ?_⟩
   refine wBg (jPn (jT (wAb (wAa (jp rfl (jp rfl ?_))))))
   refine wAi rfl rfl (qEq (qSl rfl rfl rfl (.no _) (.no _) (.of (v := p1.length) rfl (by omega) (by omega)) (by omega) (by simp)) (v' := .slice (some ⟨g, p1.length * 5, none⟩) (p1.length + vs.length + p2.length - p1.length) (c - p1.length)) (by rw [wBt (by omega)]; exact congrArg (fun k => Value.slice (some ⟨g, k, none⟩) _ _) (by omega))) ?_
   refine jp rfl ?_
   refine wAw rfl rfl (wKm (cs := vs.flatMap wBc) rfl rfl rfl rfl (by rw [fl]; congr 1; omega) ((SM.of_block_pre hvb).sj _) (wDq hvo) (by simp only [List.length_append, List.length_take, List.length_drop, fl, wBe]; omega)) ?_; rintro _ _ _ ⟨rfl, rfl, rfl⟩
   refine wAc (jT (wAb (wAa (jp rfl (jp rfl (wAc (jT (wAe (jTr (jr1 rfl rfl ?_))))))))))
   exact own_row ((ins_tail _ _ _ _ (p1.length * 5) (p2.length * 5) (vs.length * 5) (fl p1) (fl p2) (fl vs) (by simp only [List.length_append, fl, wBe]; omega)).trans (by rw [List.flatMap_append, List.flatMap_append])) (by rw [fl, List.length_append, List.length_append]) (by omega) hcm (by simp only [List.length_append, List.length_take, List.length_drop, fl, wBe]; omega)
theorem rep_end (p1 : List Ir) (y : Ir) (vs : List Ir) (g c : Nat) (sp : List Value) (vb vc : Nat) (vl : List Value) (ve : TypeId) (M : Mem) (hvb : M vb = some (.cells (vs.flatMap wBc ++ vl).toArray ve (0, 0))) (hvo : ∀ x ∈ vs, x.2.oneCell' = true) (hm : 0 < vs.length) (hc : p1.length + 1 ≤ c) (hcm : c ≤ maxLen) (hsp : sp.length = (c - (p1.length + 1)) * 5) (hbig : p1.length + 1 + vs.length ≤ 100000) :
  SpecL Tryz.prog 111 #[.slice (some ⟨g, 0, none⟩) (p1.length + 1) c, .int .i64 p1.length, .int .i64 ((p1.length + 1 : Nat) : Int), .slice (some ⟨vb, 0, none⟩) vs.length vc] M [(g, .cells (p1.flatMap wBc ++ (wBc y ++ sp)).toArray IT (0, 0))] fun u M' L' => Own u L' IT 5 (p1.length + vs.length) ((p1 ++ vs).flatMap wBc) := by
 refine wAf (vs := [_, _, _, _]) 224 _ Tryz.func111 rfl Tryz.ntmps111 rfl rfl ?_; intro W
 refine wAb (wAa (jp rfl (wAc (jT (wAb (wAa (jp rfl (jp rfl (jp rfl (wAi rfl rfl (qSl rfl rfl rfl (.no _) (.of (v := p1.length + 1) rfl (by omega) (by omega)) (.of (v := p1.length) rfl (by omega) (by omega)) (by omega) (by simp)) ?_))))))))))
 refine wAc (jT (wAb (wAb (wAa (jp rfl (jp rfl (jf rfl (decide_eq_false (by omega)) ?_)))))))
 refine wAc (jT (wAj rfl (wAd (jT (wAb (wAb (wAa (jp rfl (jp rfl (wAi rfl rfl (wBq rfl rfl rfl) ?_))))))))))
 refine jt rfl (decide_eq_true (by omega)) ?_
 refine wAc (jT (wAg rfl (wAb (wAa (jp rfl (jp rfl ?_))))))
 refine wAi rfl rfl (qEq (qSl rfl rfl rfl (.no _) (.of (v := p1.length) rfl (by omega) (by omega)) (.no _) (by omega) (by simp)) (v' := .slice (some ⟨g, 0, none⟩) (p1.length) (c)) (by rw [wDa]; rfl)) ?_
 refine jp rfl ?_
 refine wAw rfl rfl (wFv (R := [(g, .cells (p1.flatMap wBc ++ (wBc y ++ sp)).toArray IT (0, 0))]) (n := p1.length) (m := vs.length) (xs := p1.flatMap wBc) (news := vs.flatMap wBc) rfl rfl rfl rfl (own_row rfl (fl p1) (by omega) hcm (by simp only [List.length_append, fl, wBe]; omega)) (fl vs) (SM.of_block_pre hvb) rfl (wDq hvo) (by omega) (by omega)) ?_; rintro _ _ _ ⟨rfl, R2, rfl, hown2⟩
 obtain ⟨ra, rc, rfl⟩ := hown2.form
 refine jp rfl (wAc (jT (wAb (wAb (wAa (jp rfl (wAi rfl rfl (wBq rfl rfl rfl) ?_)))))))
 refine jp rfl (wAi rfl rfl (wBq rfl rfl rfl) ?_)
 refine jf rfl (decide_eq_false (by omega)) ?_
 refine wAc (jT (wAj rfl (wAd (jT (wAb (wAa (jp rfl (jp rfl (wAc (jT (wAe (jTr (wAv (L' := R2) (by simp) ?_)))))))))))))
 refine jr1 rfl rfl ?_
 rw [List.flatMap_append]; exact hown2
theorem rep_spec (ps vs : List Ir) (i : Nat) (hi : i < ps.length) (sa : Option Addr) (sc : Nat) (R : Lc) (hown : Own (.slice sa ps.length sc) R IT 5 ps.length (ps.flatMap wBc)) (hpo : ∀ x ∈ ps, x.2.oneCell' = true) (vb vc : Nat) (vl : List Value) (ve : TypeId) (M : Mem) (hvb : M vb = some (.cells (vs.flatMap wBc ++ vl).toArray ve (0, 0))) (hvo : ∀ x ∈ vs, x.2.oneCell' = true) (hm : 0 < vs.length) (hbig : ps.length + vs.length ≤ 100000) :
  SpecL Tryz.prog 111 #[.slice sa ps.length sc, .int .i64 i, .int .i64 ((i + 1 : Nat) : Int), .slice (some ⟨vb, 0, none⟩) vs.length vc] M R fun u _ L' => Own u L' IT 5 (ps.length - 1 + vs.length) ((ps.take i ++ vs ++ ps.drop (i + 1)).flatMap wBc) := by
 obtain ⟨g, sp, rfl, rfl, h1, h2, h3⟩ := own_parts hown hi
 have hl1 : (ps.take i).length = i := by rw [List.length_take]; omega
 have hl2 : (ps.drop (i + 1)).length = ps.length - (i + 1) := List.length_drop
 have hd : ps.drop i = ps[i] :: ps.drop (i + 1) := List.drop_eq_getElem_cons hi
 rw [hd, List.flatMap_cons, List.append_assoc]
 by_cases h : i + 1 = ps.length
 ·have hn : ps.drop (i + 1) = [] := List.drop_eq_nil_of_le (by omega)
  have hk := rep_end (ps.take i) ps[i] vs g sc sp vb vc vl ve M hvb hvo hm (by omega) h2 (by rw [hl1, h]; exact h3) (by omega)
  rw [hl1, show i + vs.length = ps.length - 1 + vs.length by omega] at hk
  rw [hn, List.flatMap_nil, List.nil_append, List.append_nil, ← h]
  rw [← h] at hk
  exact hk
 ·have hk := rep_mid (ps.take i) ps[i] (ps.drop (i + 1)) vs g sc sp vb vc vl ve M hvb hvo (fun x hx => hpo x (List.mem_of_mem_drop hx)) hm (by omega) (by omega) h2 (by rw [hl1, hl2, show i + 1 + (ps.length - (i + 1)) = ps.length by omega]; exact h3) (by omega)
  rw [hl1, hl2, show i + 1 + (ps.length - (i + 1)) = ps.length by omega, show i + vs.length + (ps.length - (i + 1)) = ps.length - 1 + vs.length by omega] at hk
  exact hk
end Go.Proofs.YtoincdcejjdgkaaGreat
