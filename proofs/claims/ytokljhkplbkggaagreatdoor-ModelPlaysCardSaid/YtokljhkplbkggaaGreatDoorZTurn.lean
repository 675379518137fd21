/- Walks: calls that read and turn bytes. -/
import Derived.Test.YtokljhkplbkggaaGreatDoorZOpsa
import Derived.Lib.AppendZerosOnto
namespace Go.Proofs.YtokljhkplbkggaaGreatDoor
set_option linter.unusedSimpArgs false
set_option linter.unusedVariables false
set_option linter.unusedSectionVars false
open Go.RowKit Go.MapKept
theorem Byt.of_own {v : Value} {R : Lc} {xs : List By} {n : Nat} (h : Own v R 5 1 n (wAn xs)) : Byt v R xs := by
 have hl := h.1
 rw [wBd, Nat.mul_one] at hl
 rcases h.2 with ⟨rfl, h0, rfl⟩ | ⟨g, cap, cur, rfl, rfl, h1, h2, h3, h4⟩
 ·exact .inl ⟨rfl, rfl, List.eq_nil_of_length_eq_zero (by omega)⟩
 subst hl
 exact .inr ⟨g, cap, cur, rfl, rfl, h1, by omega, h2, by rw [Nat.mul_one] at h4; exact h4⟩
theorem Byt.take {a : Option Addr} {c : Nat} {R : Lc} {xs : List By} (h : Byt (.slice a xs.length c) R xs) {n : Nat} (hn : n ≤ xs.length) : Byt (.slice a n c) R (xs.take n) := by
 rcases h with ⟨h1, rfl, rfl⟩ | ⟨g, cap, cur, h1, rfl, h2, h3, h4, h5⟩
 ·simp only [List.length_nil, Nat.le_zero_eq] at hn; subst hn
  exact .inl ⟨h1, rfl, rfl⟩
 simp only [Value.slice.injEq, true_and] at h1
 obtain ⟨rfl, rfl⟩ := h1
 have hl : (xs.take n).length = n := by rw [List.length_take]; omega
 refine .inr ⟨g, c, cur, by rw [hl], rfl, by rw [hl]; omega, h3, h4, ?_⟩
 rw [hl, show n = min n xs.length by omega, ← List.take_take, h5]
 unfold wAn; rw [List.map_take, show min n xs.length = n by omega]
theorem Byt.clip {a : Option Addr} {c : Nat} {R : Lc} {xs : List By} (h : Byt (.slice a xs.length c) R xs) : Byt (.slice a xs.length xs.length) R xs := by
 rcases h with ⟨h1, rfl, rfl⟩ | ⟨g, cap, cur, h1, rfl, h2, h3, h4, h5⟩
 ·simp only [Value.slice.injEq] at h1; obtain ⟨rfl, _, _⟩ := h1; exact .inl ⟨rfl, rfl, rfl⟩
 simp only [Value.slice.injEq, true_and] at h1
 obtain ⟨rfl, rfl⟩ := h1
 exact .inr ⟨g, xs.length, cur, rfl, rfl, Nat.le_refl _, by omega, by omega, h5⟩
theorem Byt.sm {v : Value} {R : Lc} {xs : List By} {M : Mem} (h : Byt v R xs) (hR : ∀ p ∈ R, M p.1 = some p.2) : ∃ a c, v = .slice a xs.length c ∧ xs.length ≤ c ∧ c ≤ maxLen ∧ SM M a (wAn xs) := by
 rcases h with ⟨rfl, rfl, rfl⟩ | ⟨g, cap, cur, rfl, rfl, h2, h3, h4, h5⟩
 ·exact ⟨none, 0, rfl, Nat.le_refl _, Nat.zero_le _, .inl rfl⟩
 refine ⟨_, cap, rfl, h2, h4, .inr ⟨g, 0, rfl, fun i u hu => ⟨cur, _, (0, 0), hR (g, .cells cur 5 (0, 0)) (List.mem_singleton.2 rfl), ?_⟩⟩⟩
 rw [← h5, List.getElem?_take] at hu
 split at hu
 ·simpa using hu
 cases hu
theorem wAq {b : List By} {n : Nat} : (wAx b n).length = n := by
 unfold wAx; split
 ·rw [List.length_take]; omega
 rw [List.length_append, List.length_replicate]; omega
theorem wJs {b d : List By} {k : Nat} (h : k + d.length ≤ b.length) : (wKq b k d).length = b.length := by
 unfold wKq; simp only [List.length_append, List.length_take, List.length_drop]; omega
section
variable {P : Program} {ops : Array Oper} {N : Fs} {F : Fr} {E : Ent} {M : Mem} {L : Lc} {o : Oper}
theorem wGx (m : Nat) : (Builtin.zeroCells (Value.int .u8 0).cells m).toList = List.replicate m (Value.int .u8 0) := by
 simp only [Builtin.zeroCells, Array.toList_map, Array.toList_range]
 apply List.ext_getElem
 ·simp [Value.cells]
 intro i h1 h2
 simp [Value.cells, Nat.mod_one]
theorem hByZeros {x y : Operand} {t tn : TypeId} {kn : IntKind} {a : Option Addr} {c : Nat} {R L2 : Lc} {xs : List By} {m : Int} (hg : gd ops F o = some true)
  (ho : o.op = .call { callee := .builtin .append, args := #[x, y], argTypes := #[t, tn] }) (hx : ev F x = some (.slice a xs.length c)) (hy : ev F y = some (.int .i64 m)) [ht : Und P t (.slice 5)] [htn : Und P tn (.int kn)] [hl : Lay P 5 1 1 [.int .u8 0]] (hzz : (P.info? 5).bind (·.zero) = some (.int .u8 0))
  (hown : Byt (.slice a xs.length c) R xs) [hp : Pick R L L2] (h0 : 0 < m) (hbig : xs.length + m ≤ 1000000) :
  HF P ops N F E M L o (fun v' M' L' => M = M' ∧ ∃ R', L' = R' ++ L2 ∧ Byt v' R' (xs ++ List.replicate m.toNat 0)) := wJc hg fun ac hw0 ha hw => by
 obtain ⟨mm, rfl⟩ : ∃ k : Nat, m = k := ⟨m.toNat, by omega⟩
 rw [Int.toNat_natCast]
 obtain ⟨ti, zv, hi, hi2, hi3, hz, hz2⟩ := hl.info
 have hzv : zv = .int .u8 0 := by rw [hi] at hzz; have : ti.zero = some (.int .u8 0) := hzz; rw [hz] at this; cases this; rfl
 subst hzv
 have hw' := hw.perm hp.perm
 have hbc : ∀ k : Nat, wAn (xs ++ List.replicate k 0) = wAn xs ++ List.replicate k (Value.int .u8 0) := fun k => by unfold wAn; rw [List.map_append, List.map_replicate]; rfl
 have hnew : ∀ (w : World) (cap : Nat) (olds : List Value), olds = wAn xs → xs.length + mm ≤ cap → cap ≤ maxLen →
   Byt (.slice (some ⟨w.heap.size, 0, none⟩) (xs.length + mm) cap) [(w.heap.size, .cells (olds.toArray ++ Builtin.zeroCells (Value.int .u8 0).cells mm ++ Builtin.zeroCells (Value.int .u8 0).cells (cap - (xs.length + mm))) 5 (0, 0))] (xs ++ List.replicate mm 0) := fun w cap olds ho2 h1 h2 => by
  have hlen : (xs ++ List.replicate mm (0 : By)).length = xs.length + mm := by simp
  refine .inr ⟨_, cap, _, by rw [hlen], rfl, by rw [hlen]; exact h1, ?_, h2, ?_⟩
  ·rw [ho2, ← Array.length_toList]; simp only [Array.toList_append, wGx, List.length_append, List.length_replicate, wBd]; omega
  rw [hlen, hbc, ho2]; simp only [Array.toList_append, wGx]
  exact List.take_left' (by simp [wBd])
 rcases hown with ⟨h1, rfl, rfl⟩ | ⟨g, cap, cur, h1, rfl, h2, h3, h4, h5⟩
 ·simp only [Value.slice.injEq] at h1; obtain ⟨rfl, hl0, rfl⟩ := h1
  have hr := Go.Lib.run_append_grow_zeros (P := P) hw0 t tn o.type 5 ti (.int .u8 0) .i64 kn ht.h htn.h hi hz none 0 0 [] (by simp [Builtin.firstCells, loadCells, loadCellsFrom]) mm (by omega) (by omega) (by omega) (by omega) (by rw [hi3]; omega) (growslice_fits (by omega) (by rw [hi3]; simp at hbig; omega))
  have hge := grownCap_ge hw0 (0 + mm) 0 5
  have hle := grownCap_le_maxLen hw0 (0 + mm) 0 5 (by unfold maxLen; simp at hbig; omega)
  have hd : St E M ([] ++ L2) hw0.drew := { hw' with }
  refine ⟨_, _, M, _, .inl ?_, hd.alloc _, rfl, [_], rfl, hnew hw0 _ [] rfl hge hle⟩
  simp [execOp, ho, resolve, invoke, builtin, ha.ev hx, ha.ev hy, hr]
 simp only [Value.slice.injEq, true_and] at h1
 obtain ⟨rfl, rfl⟩ := h1
 have hb : hw0.heap[g]? = some (.cells cur 5 (0, 0)) := (hw'.locs (g, .cells cur 5 (0, 0)) (by simp)).1
 have hlen : (xs ++ List.replicate mm (0 : By)).length = xs.length + mm := by simp
 by_cases hroom : xs.length + mm ≤ c
 ·have hst := run_storeCells_at P g xs.length 5 (List.replicate mm (Value.int .u8 0)) 0 cur hw0 hb (by simp; omega) (fun v hv => by rw [(List.mem_replicate.1 hv).2]; rfl)
  simp only [Nat.add_zero, List.length_replicate] at hst
  have hww : IntKind.i64.wrap (mm : Int) = mm := by rw [IntKind.wrap_i64]; omega
  have hneg : ¬ ((mm : Int) < 0) := by omega
  have h48i : ¬ (281474976710656 < (mm : Int) * (ti.bytes : Int)) := by rw [hi3]; omega
  have hns : ¬ (mm * ti.size = 0) := by rw [hi2]; omega
  refine ⟨.slice (some ⟨g, 0, none⟩) (xs.length + mm) c, _, M, [(g, .cells (cur.toList.take xs.length ++ List.replicate mm (Value.int .u8 0) ++ cur.toList.drop (xs.length + mm)).toArray 5 (0, 0))] ++ L2, .inl ?_, hw'.put ⟨⟨[], L2, rfl, rfl⟩⟩, rfl, _, rfl, ?_⟩
  ·simp [execOp, ho, resolve, invoke, builtin, ha.ev hx, ha.ev hy, Builtin.append_, run_underlying ht.h, run_underlying htn.h, sizeOf, typeInfo, zeroValue, hi, hi2, hz, asInt, asIntOf, hww, hneg, h48i, hroom, Addr.add_lit, wGx, hst, show mm ≠ 0 by omega]
  refine .inr ⟨g, c, _, by rw [hlen], rfl, by rw [hlen]; exact hroom, ?_, h4, ?_⟩
  ·simp; omega
  rw [hlen, hbc, ← h5]
  simp only [List.append_assoc]
  rw [← List.append_assoc]
  exact List.take_left' (by simp; omega)
 have hold : (Builtin.firstCells ti.size xs.length (.slice (some ⟨g, 0, none⟩) xs.length c)).run P hw0.drew = .ok (wAn xs).toArray hw0.drew := by
  refine run_firstCells_some (P := P) hw0.drew ti.size xs.length ⟨g, 0, none⟩ xs.length c (wAn xs) (by rw [hi2, wBd, Nat.mul_one]) (fun j v hv => ?_)
  have hadd : (⟨g, 0, none⟩ : Addr).add j = ⟨g, j, none⟩ := by unfold Addr.add; split <;> simp_all
  rw [hadd]
  have hb2 : hw0.drew.heap[g]? = some (.cells cur 5 (0, 0)) := hb
  rw [← h5, List.getElem?_take] at hv
  split at hv
  ·simp [World.cell?, hb2]; simpa using hv
  cases hv
 have hr := Go.Lib.run_append_grow_zeros (P := P) hw0 t tn o.type 5 ti (.int .u8 0) .i64 kn ht.h htn.h hi hz (some ⟨g, 0, none⟩) xs.length c (wAn xs) hold mm (by omega) (by omega) (by omega) (by omega) (by rw [hi3]; omega) (growslice_fits (by omega) (by rw [hi3]; omega))
 have hge := grownCap_ge hw0 (xs.length + mm) c 5
 have hle := grownCap_le_maxLen hw0 (xs.length + mm) c 5 (by unfold maxLen; omega)
 have hd : St E M ([(g, Obj.cells cur 5 (0, 0))] ++ L2) hw0.drew := { hw' with }
 refine ⟨_, _, M, _, .inl ?_, (hd.fewer (L' := L2) (by simp)).alloc _, rfl, [_], rfl, hnew hw0 _ (wAn xs) rfl hge hle⟩
 simp [execOp, ho, resolve, invoke, builtin, ha.ev hx, ha.ev hy, hr]
theorem hClear0 {x : Operand} {t e : TypeId} {a : Option Addr} {c : Nat} {sz by_ : Nat} {z : List Value} (hg : gd ops F o = some true)
  (ho : o.op = .call { callee := .builtin .clear, args := #[x], argTypes := #[t] }) (hx : ev F x = some (.slice a 0 c)) [ht : Und P t (.slice e)] [hl : Lay P e sz by_ z] :
  HF P ops N F E M L o (fun _ M' L'' => M = M' ∧ L'' = L) := wJc hg fun ac w ha hw => by
 obtain ⟨ti, zv, hi, hi2, hi3, hz, hz2⟩ := hl.info
 refine ⟨.tuple #[], _, M, L, .inl ?_, hw, rfl, rfl⟩
 cases a <;> simp [execOp, ho, resolve, invoke, builtin, ha.ev hx, Builtin.clear_, run_underlying ht.h, zeroValue, typeInfo, hi, hz, Builtin.zeroCells, storeCells]
theorem hClearB {x : Operand} {t : TypeId} {g off n c : Nat} {cur : Array Value} {L2 : Lc} (hg : gd ops F o = some true)
  (ho : o.op = .call { callee := .builtin .clear, args := #[x], argTypes := #[t] }) (hx : ev F x = some (.slice (some ⟨g, off, none⟩) n c)) [ht : Und P t (.slice 5)] (hzz : (P.info? 5).bind (·.zero) = some (.int .u8 0))
  (h0 : 0 < n) (hfit : off + n ≤ cur.size) [hp : Rm g (.cells cur 5 (0, 0)) L L2] :
  HF P ops N F E M L o (fun _ M' L'' => M = M' ∧ L'' = (g, .cells (cur.toList.take off ++ List.replicate n (Value.int .u8 0) ++ cur.toList.drop (off + n)).toArray 5 (0, 0)) :: L2) := wJc hg fun ac w ha hw => by
 have hw' := hw.perm hp.perm
 have hb : w.heap[g]? = some (.cells cur 5 (0, 0)) := (hw'.locs (g, .cells cur 5 (0, 0)) (by simp)).1
 have hst := run_storeCells_at P g off 5 (List.replicate n (Value.int .u8 0)) 0 cur w hb (by simp; omega) (fun v hv => by rw [(List.mem_replicate.1 hv).2]; rfl)
 simp only [Nat.add_zero, List.length_replicate] at hst
 obtain ⟨ti, hi, hz⟩ : ∃ ti, P.info? 5 = some ti ∧ ti.zero = some (.int .u8 0) := by
  cases hi : P.info? 5 with
  | none => rw [hi] at hzz; cases hzz
  | some ti => rw [hi] at hzz; exact ⟨ti, rfl, hzz⟩
 obtain ⟨k, rfl⟩ : ∃ k, n = k + 1 := ⟨n - 1, by omega⟩
 refine ⟨.tuple #[], _, M, _, .inl ?_, hw'.put ⟨⟨[], L2, rfl, rfl⟩⟩, rfl, rfl⟩
 simp [execOp, ho, resolve, invoke, builtin, ha.ev hx, Builtin.clear_, run_underlying ht.h, zeroValue, typeInfo, hi, hz, wGx, hst]
theorem hCopyB {x y : Operand} {t u : TypeId} {g off dn dc : Nat} {sa : Option Addr} {sn sc : Nat} {cur : Array Value} {cs : List Value} {L2 : Lc} {by_ : Nat} {z : List Value} (hg : gd ops F o = some true)
  (ho : o.op = .call { callee := .builtin .copy, args := #[x, y], argTypes := #[t, u] }) (hx : ev F x = some (.slice (some ⟨g, off, none⟩) dn dc)) (hy : ev F y = some (.slice sa sn sc)) [ht : Und P t (.slice 5)] [hl : Lay P 5 1 by_ z]
  (hn : cs.length = sn) (hd : sn ≤ dn) (hcs : SM M sa cs) (h1 : ∀ v ∈ cs, v.oneCell' = true) (hfit : off + sn ≤ cur.size) [hp : Rm g (.cells cur 5 (0, 0)) L L2] :
  HF P ops N F E M L o (fun _ M' L'' => M = M' ∧ L'' = (g, .cells (cur.toList.take off ++ cs ++ cur.toList.drop (off + cs.length)).toArray 5 (0, 0)) :: L2) := by
 refine HF.weakL hp.perm (HF.imp (hCopy (l := cur.toList) (L' := (g, .cells (cur.toList.take off ++ cs ++ cur.toList.drop (off + cs.length)).toArray 5 (0, 0)) :: L2) hg ho hx hy (by omega) (hcs.sj _) h1 (at_ := ⟨List.Mem.head _⟩) (by rw [hn]; exact hfit) (hp := ⟨[], L2, rfl, rfl⟩)) fun _ _ _ ⟨_, h2, h3⟩ => ⟨h2, h3⟩)
end
theorem SpecL.lendM {P : Program} {f : FuncId} {args : Array Value} {M : Mem} {R : Lc} {post : Value → Lc → Prop} (h : (R.map (·.1)).Nodup → (∀ p ∈ R, M p.1 = none) → SpecL P f args (wDu M R) [] (fun v M' L' => M' = wDu M R ∧ post v L')) : SpecL P f args M R (fun v M' L' => M' = M ∧ ∃ L1, L' = R ++ L1 ∧ post v L1) := by
 refine SpecL.mem fun hn hR => ?_
 have := SpecL.lend (L := []) h
 rw [List.append_nil] at this
 refine this.mono fun v M' L' ⟨M1, L1, ⟨hM1, hp⟩, hL, hM, _⟩ => ?_
 subst hM1
 refine ⟨?_, L1, hL, hp⟩
 rw [hM]; funext b
 unfold subL
 split
 ·rename_i hb; obtain ⟨p, hp, rfl⟩ := List.mem_map.1 hb; exact (hR p hp).symm
 rename_i hb; exact wKf hb
theorem foc_pick {A L L2 R R' : Lc} [hp : Pick R L L2] (h : R.Perm (A ++ R')) : L.Perm (A ++ (R' ++ L2)) := by
 rw [← List.append_assoc]; exact hp.perm.trans (h.append_right _)
theorem foc_back {A L2 S R' : Lc} (h : S.Perm (A ++ R')) : (A ++ (R' ++ L2)).Perm (S ++ L2) := by
 rw [← List.append_assoc]; exact (h.symm.append_right _)
theorem clone_spec (a : Option Addr) (c : Nat) (xs : List By) (M : Mem) (hs : SM M a (wAn xs)) (hl : xs.length ≤ 1000000) :
    SpecL Tryz.prog 85 #[.slice a xs.length c] M [] fun u M' L' => M' = M ∧ Byt u L' xs := by
  refine wAe (vs := [_]) 8 _ Tryz.func85 rfl Tryz.ntmps85 rfl rfl ?_; intro W
  refine wAb (wAa (jp rfl (wAc (jT (wAb (wAb (wAa (jp rfl (wEk rfl rfl (qNil rfl rfl rfl rfl) (fun h4 => ?_) (fun h4 => ?_))))))))))
  · refine wAc ?_
    refine jT (wAf rfl (wAb (wAa (jp rfl (wAc (jT (wAg (jTr (jr1 rfl rfl ?_)))))))))
    refine ⟨rfl, ?_⟩
    have : xs = [] := by
      cases a with
      | none => rcases hs with h | ⟨b, off, h, _⟩
                · unfold wAn at h; simpa using h
                cases h
      | some ad => cases h4
    subst this; exact Byt.nil
  refine wAc (jT (wAh rfl (wAd (jT (wAb (wAa (wCe rfl rfl (wBt (cs := []) rfl rfl rfl (by rfl) (by rfl) (by rfl)) ?_))))))); rintro _ _ _ ⟨b5, rfl, rfl, rfl⟩
  refine jp rfl ?_
  have hown0 : Own (.slice (some ⟨b5, 0, none⟩) 0 0) [(b5, .cells [].toArray 5 (0, 0))] 5 1 0 [] := ⟨rfl, .inr ⟨b5, 0, #[], rfl, rfl, Nat.le_refl _, Nat.zero_le _, rfl, rfl⟩⟩
  refine wCe rfl rfl (wLp rfl rfl rfl rfl hown0 (news := wAn xs) (by rw [wBd, Nat.mul_one]) hs rfl (wKe xs) (by omega) (by omega)) ?_; rintro _ _ _ ⟨rfl, R2, rfl, hown⟩
  refine jp rfl (wAc (jT (wAg (jr1 rfl rfl ?_))))
  exact ⟨rfl, Byt.of_own (n := 0 + xs.length) (by simpa using hown)⟩
theorem clip_spec (a : Option Addr) (n c : Nat) (M : Mem) (h : n ≤ c) :
    SpecL Tryz.prog 87 #[.slice a n c] M [] fun u _ _ => u = .slice a n n := by
  refine wAe (vs := [_]) 9 _ Tryz.func87 rfl Tryz.ntmps87 rfl rfl ?_; intro W
  refine wAb (wAa (jp rfl (wAc (jT (wAb (wAa (jp rfl (jp rfl (lq (wCd rfl rfl rfl) ?_)))))))))
  refine jp rfl (lq (wCd rfl rfl rfl) ?_)
  refine lq (qEq (v' := .slice a n n) (qSl rfl rfl rfl (.of rfl (by omega) (Int.toNat_natCast _)) (.of rfl (by omega) (Int.toNat_natCast _)) (.no _) (by omega) (.inr (by simp))) (by rw [wCo]; rfl)) ?_
  refine jp rfl (wAc (jT (wAg (jr1 rfl rfl ?_))))
  rfl
theorem Byt.cap {a : Option Addr} {n c : Nat} {R : Lc} {xs : List By} (h : Byt (.slice a n c) R xs) : n = xs.length ∧ xs.length ≤ c ∧ c ≤ maxLen := by
  rcases h with ⟨h1, rfl, rfl⟩ | ⟨g, cap, cur, h1, rfl, h2, h3, h4, h5⟩
  · simp only [Value.slice.injEq] at h1; obtain ⟨_, rfl, rfl⟩ := h1; exact ⟨rfl, Nat.le_refl _, Nat.zero_le _⟩
  simp only [Value.slice.injEq] at h1; obtain ⟨_, rfl, rfl⟩ := h1; exact ⟨rfl, h2, h4⟩
theorem wGi (a : Option Addr) (c : Nat) (R : Lc) (xs : List By) (n : Int) (M : Mem) (hB : Byt (.slice a xs.length c) R xs) (hn : 0 ≤ n) (hn2 : n ≤ 4096) (hx : xs.length ≤ 4096) :
    SpecL Tryz.prog 83 #[.slice a xs.length c, .int .i64 n] M R fun u M' L' => M' = M ∧ Byt u L' (wAx xs n.toNat) := by
  have hcap := hB.cap.2.1
  refine wAe (vs := [_, _]) 18 _ Tryz.func83 rfl Tryz.ntmps83 rfl rfl ?_; intro W
  refine wAb (wAa (jp rfl (wAc (jT (wAb (wAb (wAa (jp rfl (jp rfl (lq (wCd rfl rfl rfl) ?_))))))))))
  refine js rfl (fun h8 => ?_) (fun h8 => ?_)
  · refine wAc ?_
    refine jT (wAf rfl (wAb (wAa (jp rfl (jp rfl ?_)))))
    refine lq (qEq (v' := .slice a n.toNat c) (qSl rfl rfl rfl (.no _) (.of rfl (by omega) rfl) (.no _) (by omega) (by simp)) (by rw [wCo]; rfl)) ?_
    refine jp rfl (wAc (jT (wAg (jTr (jr1 rfl rfl ?_)))))
    refine ⟨rfl, ?_⟩; unfold wAx; rw [if_pos (by omega)]; exact hB.take (by omega)
  refine wAc (jT (wAh rfl (wAd (jT (wAb (wAa (jp rfl (jp rfl (jp rfl (lq (wCd rfl rfl rfl) ?_))))))))))
  refine ja rfl (by omega) ?_
  refine wCe rfl rfl (hByZeros rfl rfl rfl rfl (by kernel_rfl) hB (by omega) (by omega)) ?_; rintro _ _ _ ⟨rfl, R2, rfl, hB2⟩
  refine jp rfl (wAc (jT (wAg (jr1 rfl rfl ?_))))
  refine ⟨rfl, ?_⟩; unfold wAx; rw [if_neg (by omega), show n.toNat - xs.length = (n - (xs.length : Int)).toNat by omega, List.append_nil]; exact hB2
def wKx (n k d : Nat) : Nat := max n (k + d)
theorem wlen_is (n k d : Nat) : n ≤ wKx n k d ∧ k + d ≤ wKx n k d ∧ (wKx n k d = n ∨ wKx n k d = k + d) := by unfold wKx; omega
theorem writeB_is {k : Nat} {d b : List By} (h : d ≠ []) : wDn k d b = wKq (wAx b (wKx b.length k d.length)) k d := by unfold wDn wKx; rw [if_neg h]
theorem wlen_int {n k d : Nat} {a b : Int} (ha : a = n) (hb : b = k + d) : max a b = (wKx n k d : Nat) := by unfold wKx; omega
attribute [irreducible] wKx
def ClP (x : CF) (f : List By → List By) (L' : Lc) : Prop := ∃ x' : CF, x'.Ok ∧ x'.b = x.b ∧ x'.pf = { x.pf with data := f x.pf.data } ∧ L' = x'.own
abbrev wDa (c : CL) (a : Option Addr) (k : Nat) : List Value := [.int .u8 c.kind, .string c.path, .string c.other, .int .i64 c.a, .int .i64 c.b, .int .i64 c.c, .slice a c.data.length k]
abbrev clO (c : CL) (a : Option Addr) (k : Nat) : Obj := .cells (wDa c a k).toArray 45 (0, 0)
theorem NmOk.data {x : CF} (h : NmOk x) (d : List By) (u : Value) (R : Lc) : NmOk { x with dv := u, dR := R, pf := { x.pf with data := d } } := h
theorem Byt.block {v : Value} {R : Lc} {xs : List By} (h : Byt v R xs) (hne : xs ≠ []) : ∃ g cap cur, v = .slice (some ⟨g, 0, none⟩) xs.length cap ∧ R = [(g, .cells cur 5 (0, 0))] ∧ xs.length ≤ cap ∧ cap ≤ cur.size ∧ cap ≤ maxLen ∧ cur.toList.take xs.length = wAn xs := h.resolve_left fun h => hne h.2.2
theorem take_over {cur : List Value} {xs d : List By} {k : Nat} (h : cur.take xs.length = wAn xs) (hk : k + d.length ≤ xs.length) (hx : xs.length ≤ cur.length) : (cur.take k ++ wAn d ++ cur.drop (k + (wAn d).length)).take (wKq xs k d).length = wAn (wKq xs k d) := by
  rw [wJs hk, wBd]
  have h1 : cur = wAn xs ++ cur.drop xs.length := by rw [← h, List.take_append_drop]
  generalize cur.drop xs.length = t at h1
  subst h1
  have e1 : (wAn xs ++ t).take k = (wAn xs).take k := List.take_append_of_le_length (by rw [wBd]; omega)
  have e2 : (wAn xs ++ t).drop (k + d.length) = (wAn xs).drop (k + d.length) ++ t := List.drop_append_of_le_length (by rw [wBd]; omega)
  rw [e1, e2, ← List.append_assoc]
  have e3 : wAn (wKq xs k d) = (wAn xs).take k ++ wAn d ++ (wAn xs).drop (k + d.length) := by unfold wKq wAn; simp only [List.map_append, List.map_take, List.map_drop]
  rw [e3]
  refine List.take_left' ?_
  rw [← e3, wBd, wJs hk]
set_option maxHeartbeats 1000000 in
theorem wKn (x : CF) (hx : x.Ok) (hlen : x.pf.data.length ≤ 4096) (c : CL) (ca : Option Addr) (ck : Nat) (M : Mem) (hC : CallOk M c ca ck) (cb : Nat) (hcb : M cb = some (clO c ca ck)) (h1 : 0 ≤ c.a) (h2 : c.a ≤ 4096) (h3 : (c.data.length : Int) ≤ 4096 - c.a) :
    SpecL Tryz.prog 82 #[pt x.b, pt cb] M x.own fun _ _ L' => ClP x (wDn c.a.toNat c.data) L' := by
  obtain ⟨dad, dc, hdv⟩ := hx.byt.form
  have hB : Byt (.slice dad x.pf.data.length dc) x.dR x.pf.data := hdv ▸ hx.byt
  have hcap := hB.cap.2.1
  unfold CF.own fObj
  have hwl := wlen_is x.pf.data.length c.a.toNat c.data.length
  refine wAe (vs := [_, _]) 37 _ Tryz.func82 rfl Tryz.ntmps82 rfl rfl ?_; intro W
  refine wAb (wAa (sFa rfl ?_))
  refine lq (qLd rfl rfl rfl rfl (CM.cj ⟨_, _, _, hcb, rfl⟩ _)) ?_
  refine lq (wCd rfl rfl rfl) ?_
  refine js rfl (fun h6 => ?_) (fun h6 => ?_)
  · refine wAc ?_
    refine jT (wAf rfl (wAb (wBn (p := { A := fun i => !([20].contains i), U := fun i => !([20].contains i) }) [(0, true), (1, true), (2, true), (3, true), (4, true), (5, true), (6, true), (7, true), (8, true), (9, true), (10, true), (11, true), (12, true), (13, true), (14, true), (15, true), (16, true), (17, false), (18, true), (19, true), (20, false)] M ([(x.b, .cells [.bool x.pf.dir, .int .i64 x.pf.links, x.dv, x.nm].toArray 127 (0, 0))]) ([]) (by kernel_rfl) (by kernel_rfl) (by kernel_rfl) (by kernel_rfl) rfl (by simp) (MLe.refl _) (by simp) ?_)))
    iterate 2 refine dp rfl rfl ?_
    refine dq rfl (wAj rfl rfl rfl) ?_
    refine dFa rfl rfl ?_
    refine dq rfl (qEq (qLd rfl rfl rfl rfl (CJ.loc rfl)) hdv) ?_
    refine dp rfl rfl ?_
    refine dq rfl (wAj rfl rfl rfl) ?_
    refine dFa rfl rfl ?_
    refine dq rfl (qEq (qLd rfl rfl rfl rfl (CJ.loc rfl)) hdv) ?_
    refine dq rfl (wCd rfl rfl rfl) ?_
    refine dFa rfl rfl ?_
    refine dq rfl (qLd rfl rfl rfl rfl (CM.cj ⟨_, _, _, hcb, rfl⟩ _)) ?_
    refine dFa rfl rfl ?_
    refine dq rfl (qLd rfl rfl rfl rfl (CM.cj ⟨_, _, _, hcb, rfl⟩ _)) ?_
    refine dq rfl (wCd rfl rfl rfl) ?_
    refine da rfl rfl (by omega) ?_
    refine dq rfl (qEq (v' := .int .i64 ((wKx x.pf.data.length c.a.toNat c.data.length) : Nat)) (qMax rfl rfl rfl rfl) (congrArg (Value.int .i64) (wlen_int rfl (by omega)))) ?_
    refine wJf rfl rfl rfl (hCl (wGi dad dc x.dR x.pf.data (((wKx x.pf.data.length c.a.toNat c.data.length) : Nat)) M hB (by omega) (by omega) hlen)) ?_; rintro _ _ _ ⟨hM2, R2, rfl, ⟨rfl, hB2⟩⟩
    refine ⟨_, _, MLe.refl _, hM2, fun _ h => h, by simp, ?_⟩
    obtain ⟨dad2, dc2, rfl⟩ := hB2.form
    rw [wAq] at hB2
    simp only [wAq]
    refine dq rfl (wAj rfl rfl rfl) ?_
    refine dFa rfl rfl ?_
    refine wJu rfl rfl (wBw rfl rfl rfl rfl rfl rfl rfl rfl) ?_; rintro _ _ _ ⟨rfl, rfl⟩
    refine ⟨MLe.refl _, by simp, ?_⟩
    refine wCu ?_
    refine jPn (jT ?_)
    have hne2 : wAx x.pf.data (wKx x.pf.data.length c.a.toNat c.data.length) ≠ [] := by intro e; have := congrArg List.length e; rw [wAq, List.length_nil] at this; omega
    obtain ⟨gb, cap, cur, e1, rfl, k1, k2, k3, k4⟩ := hB2.block hne2
    simp only [Value.slice.injEq, wAq] at e1
    obtain ⟨rfl, _, rfl⟩ := e1
    rw [wAq] at k1 k4
    refine wCw [(0, true), (1, true), (2, true), (3, true), (4, true), (5, true), (6, true), (7, true), (8, true), (9, false)] [(x.b, .cells [.bool x.pf.dir, .int .i64 x.pf.links, .slice (some ⟨gb, 0, none⟩) (wKx x.pf.data.length c.a.toNat c.data.length) dc2, x.nm].toArray 127 (0, 0))] (by simp) ?_
    refine dp rfl rfl ?_
    refine dq rfl (wAj rfl rfl rfl) ?_
    refine dFa rfl rfl ?_
    refine dLd rfl rfl ?_
    refine dFa rfl rfl ?_
    refine dq rfl (qLd rfl rfl rfl rfl (CM.cj ⟨_, _, _, hcb, rfl⟩ _)) ?_
    refine dq rfl (qEq (v' := .slice (some ⟨gb, c.a.toNat, none⟩) ((wKx x.pf.data.length c.a.toNat c.data.length) - c.a.toNat) (dc2 - c.a.toNat)) (qSl rfl rfl rfl (.no _) (.no _) (.of rfl (by omega) rfl) (by omega) (by simp)) (by rw [wGy (by omega)]; simp)) ?_
    refine dFa rfl rfl ?_
    refine dq rfl (qLd rfl rfl rfl rfl (CM.cj ⟨_, _, _, hcb, rfl⟩ _)) ?_
    refine wJf rfl rfl rfl (hCopyB (cs := wAn c.data) rfl rfl rfl rfl (wBd _) (by omega) hC.sm (wKe _) (by omega)) ?_; rintro _ _ _ ⟨rfl, rfl⟩
    refine ⟨_, _, MLe.refl _, MLe.refl _, fun _ h => h, by simp, ?_⟩
    refine wAs (jPn (jrn ?_))
    refine wKt (fun _ h => h.perm (List.Perm.swap _ _ _)) ?_
    refine jrs (rs := []) rfl .nil ?_
    have hcl : cur.toList.length = cur.size := rfl
    have hov : (wKq (wAx x.pf.data (wKx x.pf.data.length c.a.toNat c.data.length)) c.a.toNat c.data).length = (wKx x.pf.data.length c.a.toNat c.data.length) := by rw [wJs (by rw [wAq]; omega), wAq]
    refine ⟨{ x with dv := .slice (some ⟨gb, 0, none⟩) (wKq (wAx x.pf.data (wKx x.pf.data.length c.a.toNat c.data.length)) c.a.toNat c.data).length dc2, dR := [(gb, .cells (cur.toList.take c.a.toNat ++ wAn c.data ++ cur.toList.drop (c.a.toNat + (wAn c.data).length)).toArray 5 (0, 0))], pf := { x.pf with data := wKq (wAx x.pf.data (wKx x.pf.data.length c.a.toNat c.data.length)) c.a.toNat c.data } }, ⟨.inr ⟨gb, dc2, _, rfl, rfl, by rw [hov]; exact k1, ?_, k3, ?_⟩, hx.nmo.data _ _ _⟩, rfl, ?_, ?_⟩
    · simp only [List.size_toArray, List.length_append, List.length_take, List.length_drop, wBd]; omega
    · exact take_over (xs := wAx x.pf.data (wKx x.pf.data.length c.a.toNat c.data.length)) (by rw [wAq]; exact k4) (by rw [wAq]; omega) (by rw [wAq]; omega)
    · show _ = { x.pf with data := wDn c.a.toNat c.data x.pf.data }; rw [writeB_is (by intro e; rw [e] at h6; simp at h6)]
    unfold CF.own fObj; rw [hov]; rfl
  refine wAc (jT (wAh rfl (wAd (jrn ?_))))
  refine jrs (rs := []) rfl .nil ?_
  refine ⟨x, hx, rfl, ?_, rfl⟩
  show x.pf = { x.pf with data := wDn c.a.toNat c.data x.pf.data }
  have : c.data = [] := List.eq_nil_of_length_eq_zero (by omega)
  unfold wDn; rw [if_pos this]
theorem size1_spec (x : CF) (hx : x.Ok) (hlen : x.pf.data.length ≤ 4096) (c : CL) (ca : Option Addr) (ck : Nat) (M : Mem) (hC : CallOk M c ca ck) (cb : Nat) (hcb : M cb = some (clO c ca ck)) (h1 : 0 ≤ c.a) (h2 : c.a ≤ 4096) :
    SpecL Tryz.prog 86 #[pt x.b, pt cb] M x.own fun _ _ L' => ClP x (fun b => wAx b c.a.toNat) L' := by
  obtain ⟨dad, dc, hdv⟩ := hx.byt.form
  have hB : Byt (.slice dad x.pf.data.length dc) x.dR x.pf.data := hdv ▸ hx.byt
  have hcap := hB.cap.2.1
  unfold CF.own fObj
  refine wAe (vs := [_, _]) 14 _ Tryz.func86 rfl Tryz.ntmps86 rfl rfl ?_; intro W
  refine wBn (p := { A := fun i => !([11].contains i), U := fun i => !([11].contains i) }) [(0, true), (1, true), (2, true), (3, true), (4, true), (5, true), (6, true), (7, true), (8, false), (9, true), (10, true), (11, false)] M ([(x.b, .cells [.bool x.pf.dir, .int .i64 x.pf.links, x.dv, x.nm].toArray 127 (0, 0))]) ([]) (by kernel_rfl) (by kernel_rfl) (by kernel_rfl) (by kernel_rfl) rfl (by simp) (MLe.refl _) (by simp) ?_
  iterate 2 refine dp rfl rfl ?_
  refine dq rfl (wAj rfl rfl rfl) ?_
  refine dFa rfl rfl ?_
  refine dq rfl (qEq (qLd rfl rfl rfl rfl (CJ.loc rfl)) hdv) ?_
  refine dq rfl (qCl (clip_spec dad x.pf.data.length dc M hcap)) ?_
  refine dFa rfl rfl ?_
  refine dq rfl (qLd rfl rfl rfl rfl (CM.cj ⟨_, _, _, hcb, rfl⟩ _)) ?_
  refine wJf rfl rfl rfl (hCl (wGi dad x.pf.data.length x.dR x.pf.data c.a M hB.clip h1 h2 hlen)) ?_; rintro _ _ _ ⟨hM2, R2, rfl, ⟨rfl, hB2⟩⟩
  refine ⟨_, _, MLe.refl _, hM2, fun _ h => h, by simp, ?_⟩
  obtain ⟨dad2, dc2, rfl⟩ := hB2.form
  refine dq rfl (wAj rfl rfl rfl) ?_
  refine dFa rfl rfl ?_
  refine wJu rfl rfl (wBw rfl rfl rfl rfl rfl rfl rfl rfl) ?_; rintro _ _ _ ⟨rfl, rfl⟩
  refine ⟨MLe.refl _, by simp, ?_⟩
  refine wCu ?_
  refine jPn (jrn ?_)
  refine wKt (fun _ h => h.perm List.perm_middle) ?_
  refine jrs (rs := []) rfl .nil ?_
  exact ⟨{ x with dv := _, dR := R2, pf := { x.pf with data := wAx x.pf.data c.a.toNat } }, ⟨hB2, hx.nmo.data _ _ _⟩, rfl, rfl, rfl⟩
def wDe (k n : Nat) : Nat := min k n
def pto (k e n : Nat) : Nat := max (min k n) (min e n)
theorem pf_is (k e n : Nat) : wDe k n ≤ n ∧ wDe k n ≤ pto k e n ∧ pto k e n ≤ n := by unfold wDe pto; omega
theorem pf_int {k n : Nat} {a b : Int} (ha : a = k) (hb : b = n) : min a b = (wDe k n : Nat) := by unfold wDe; omega
theorem pt_int {k e n : Nat} {a b c : Int} (ha : a = (wDe k n : Nat)) (hb : b = e) (hc : c = n) : max a (min b c) = (pto k e n : Nat) := by unfold wDe at ha; unfold pto; omega
theorem punchB_is {k e : Nat} {b : List By} : wCr k e b = b.take (wDe k b.length) ++ List.replicate (pto k e b.length - wDe k b.length) 0 ++ b.drop (pto k e b.length) := rfl
attribute [irreducible] wDe pto
theorem wLg {k e : Nat} {b : List By} : (wCr k e b).length = b.length := by
  have := pf_is k e b.length
  rw [punchB_is]; simp only [List.length_append, List.length_take, List.length_replicate, List.length_drop]; omega
theorem punch_none {k e : Nat} {b : List By} (h : pto k e b.length = wDe k b.length) : wCr k e b = b := by
  rw [punchB_is, h]; simp
theorem take_punch {cur : List Value} {xs : List By} {k e : Nat} (h : cur.take xs.length = wAn xs) (hx : xs.length ≤ cur.length) : (cur.take (wDe k xs.length) ++ List.replicate (pto k e xs.length - wDe k xs.length) (Value.int .u8 0) ++ cur.drop (wDe k xs.length + (pto k e xs.length - wDe k xs.length))).take (wCr k e xs).length = wAn (wCr k e xs) := by
  obtain ⟨p1, p2, p3⟩ := pf_is k e xs.length
  have h1 : cur = wAn xs ++ cur.drop xs.length := by rw [← h, List.take_append_drop]
  generalize cur.drop xs.length = t at h1
  subst h1
  rw [show wDe k xs.length + (pto k e xs.length - wDe k xs.length) = pto k e xs.length by omega]
  have e1 : (wAn xs ++ t).take (wDe k xs.length) = (wAn xs).take (wDe k xs.length) := List.take_append_of_le_length (by rw [wBd]; omega)
  have e2 : (wAn xs ++ t).drop (pto k e xs.length) = (wAn xs).drop (pto k e xs.length) ++ t := List.drop_append_of_le_length (by rw [wBd]; omega)
  rw [e1, e2, ← List.append_assoc]
  have e3 : wAn (wCr k e xs) = (wAn xs).take (wDe k xs.length) ++ List.replicate (pto k e xs.length - wDe k xs.length) (Value.int .u8 0) ++ (wAn xs).drop (pto k e xs.length) := by rw [punchB_is]; unfold wAn; simp only [List.map_append, List.map_take, List.map_drop, List.map_replicate]; rfl
  rw [e3]
  refine List.take_left' ?_
  rw [← e3, wBd]
theorem punch1_none (x : CF) (hx : x.Ok) (hlen : x.pf.data.length ≤ 4096) (c : CL) (ca : Option Addr) (ck : Nat) (M : Mem) (hC : CallOk M c ca ck) (cb : Nat) (hcb : M cb = some (clO c ca ck)) (h1 : 0 ≤ c.a) (h2 : c.a ≤ c.b) (h3 : c.b ≤ 4096) (he : (pto c.a.toNat c.b.toNat x.pf.data.length) = (wDe c.a.toNat x.pf.data.length)) :
    SpecL Tryz.prog 88 #[pt x.b, pt cb] M x.own fun _ _ L' => ClP x (wCr c.a.toNat c.b.toNat) L' := by
  obtain ⟨dad, dc, hdv⟩ := hx.byt.form
  have hB : Byt (.slice dad x.pf.data.length dc) x.dR x.pf.data := hdv ▸ hx.byt
  have hcap := hB.cap.2.1
  unfold CF.own fObj
  have hpf := pf_is c.a.toNat c.b.toNat x.pf.data.length
  refine wAe (vs := [_, _]) 28 _ Tryz.func88 rfl Tryz.ntmps88 rfl rfl ?_; intro W
  refine wAb (wCw [(0, true), (1, true), (2, true), (3, true), (4, true), (5, true), (6, true), (7, true), (8, true)] [(x.b, .cells [.bool x.pf.dir, .int .i64 x.pf.links, x.dv, x.nm].toArray 127 (0, 0))] (by simp) ?_)
  refine dFa rfl rfl ?_
  refine dq rfl (qLd rfl rfl rfl rfl (CM.cj ⟨_, _, _, hcb, rfl⟩ _)) ?_
  refine dp rfl rfl ?_
  refine dq rfl (wAj rfl rfl rfl) ?_
  refine dFa rfl rfl ?_
  refine dq rfl (qEq (qLd rfl rfl rfl rfl (CJ.loc rfl)) hdv) ?_
  refine dq rfl (wCd rfl rfl rfl) ?_
  refine dq rfl (qEq (v' := .int .i64 ((wDe c.a.toNat x.pf.data.length) : Nat)) (qMin rfl rfl rfl rfl) (congrArg (Value.int .i64) (pf_int (by omega) rfl))) ?_
  refine dp rfl rfl ?_
  refine wAs (jPn (jT (wBn (p := { A := fun i => !([16].contains i), U := fun i => !([16].contains i) }) [(0, true), (1, true), (2, true), (3, true), (4, true), (5, true), (6, true), (7, true), (8, true), (9, true), (10, true), (11, true), (12, true), (13, true), (14, true), (15, true), (16, false)] M ([(x.b, .cells [.bool x.pf.dir, .int .i64 x.pf.links, x.dv, x.nm].toArray 127 (0, 0))]) ([]) (by kernel_rfl) (by kernel_rfl) (by kernel_rfl) (by kernel_rfl) rfl (by simp) (MLe.refl _) (by simp) ?_)))
  refine dp rfl rfl ?_
  refine dq rfl (wAj rfl rfl rfl) ?_
  refine dFa rfl rfl ?_
  refine dq rfl (qEq (qLd rfl rfl rfl rfl (CJ.loc rfl)) hdv) ?_
  iterate 2 refine dp rfl rfl ?_
  refine dFa rfl rfl ?_
  refine dq rfl (qLd rfl rfl rfl rfl (CM.cj ⟨_, _, _, hcb, rfl⟩ _)) ?_
  refine dp rfl rfl ?_
  refine dq rfl (wAj rfl rfl rfl) ?_
  refine dFa rfl rfl ?_
  refine dq rfl (qEq (qLd rfl rfl rfl rfl (CJ.loc rfl)) hdv) ?_
  refine dq rfl (wCd rfl rfl rfl) ?_
  refine dq rfl (qMin rfl rfl rfl rfl) ?_
  refine dq rfl (qEq (v' := .int .i64 ((pto c.a.toNat c.b.toNat x.pf.data.length) : Nat)) (qMax rfl rfl rfl rfl) (congrArg (Value.int .i64) (pt_int rfl (by omega) rfl))) ?_
  refine dq rfl (qEq (v' := .slice (slA dad (wDe c.a.toNat x.pf.data.length) dc 1) 0 (dc - (wDe c.a.toNat x.pf.data.length))) (qSl rfl rfl rfl (.no _) (.of rfl (by omega) (Int.toNat_natCast _)) (.of rfl (by omega) (Int.toNat_natCast _)) (by omega) (by simp)) (by rw [he, Nat.sub_self])) ?_
  refine wJu rfl rfl (hClear0 rfl rfl rfl) ?_; rintro _ _ _ ⟨rfl, rfl⟩
  refine ⟨MLe.refl _, by simp, ?_⟩
  refine wCu ?_
  refine jPn (jrn ?_)
  refine jrs (rs := []) rfl .nil ?_
  refine ⟨x, hx, rfl, ?_, rfl⟩
  show x.pf = { x.pf with data := wCr c.a.toNat c.b.toNat x.pf.data }; rw [punch_none he]
theorem punch1_some (x : CF) (hx : x.Ok) (hlen : x.pf.data.length ≤ 4096) (c : CL) (ca : Option Addr) (ck : Nat) (M : Mem) (hC : CallOk M c ca ck) (cb : Nat) (hcb : M cb = some (clO c ca ck)) (h1 : 0 ≤ c.a) (h2 : c.a ≤ c.b) (h3 : c.b ≤ 4096) (he : (wDe c.a.toNat x.pf.data.length) < (pto c.a.toNat c.b.toNat x.pf.data.length)) :
    SpecL Tryz.prog 88 #[pt x.b, pt cb] M x.own fun _ _ L' => ClP x (wCr c.a.toNat c.b.toNat) L' := by
  obtain ⟨dad, dc, hdv⟩ := hx.byt.form
  have hB : Byt (.slice dad x.pf.data.length dc) x.dR x.pf.data := hdv ▸ hx.byt
  have hcap := hB.cap.2.1
  have hpf := pf_is c.a.toNat c.b.toNat x.pf.data.length
  obtain ⟨gb, cap, cur, e1, e2, k1, k2, k3, k4⟩ := hB.block (fun e => absurd (congrArg List.length e) (by rw [List.length_nil]; omega))
  simp only [Value.slice.injEq, true_and] at e1
  obtain ⟨rfl, rfl⟩ := e1
  unfold CF.own fObj; rw [e2]
  refine wAe (vs := [_, _]) 28 _ Tryz.func88 rfl Tryz.ntmps88 rfl rfl ?_; intro W
  refine wAb (wCw [(0, true), (1, true), (2, true), (3, true), (4, true), (5, true), (6, true), (7, true), (8, true)] [(x.b, .cells [.bool x.pf.dir, .int .i64 x.pf.links, x.dv, x.nm].toArray 127 (0, 0))] (by simp) ?_)
  refine dFa rfl rfl ?_
  refine dq rfl (qLd rfl rfl rfl rfl (CM.cj ⟨_, _, _, hcb, rfl⟩ _)) ?_
  refine dp rfl rfl ?_
  refine dq rfl (wAj rfl rfl rfl) ?_
  refine dFa rfl rfl ?_
  refine dq rfl (qEq (qLd rfl rfl rfl rfl (CJ.loc rfl)) hdv) ?_
  refine dq rfl (wCd rfl rfl rfl) ?_
  refine dq rfl (qEq (v' := .int .i64 ((wDe c.a.toNat x.pf.data.length) : Nat)) (qMin rfl rfl rfl rfl) (congrArg (Value.int .i64) (pf_int (by omega) rfl))) ?_
  refine dp rfl rfl ?_
  refine wAs (jPn (jT (wBn (p := { A := fun i => !([16].contains i), U := fun i => !([16].contains i) }) [(0, true), (1, true), (2, true), (3, true), (4, true), (5, true), (6, true), (7, true), (8, true), (9, true), (10, true), (11, true), (12, true), (13, true), (14, true), (15, true), (16, false)] M ([(x.b, .cells [.bool x.pf.dir, .int .i64 x.pf.links, x.dv, x.nm].toArray 127 (0, 0))]) ([]) (by kernel_rfl) (by kernel_rfl) (by kernel_rfl) (by kernel_rfl) rfl (by simp) (MLe.refl _) (by simp) ?_)))
  refine dp rfl rfl ?_
  refine dq rfl (wAj rfl rfl rfl) ?_
  refine dFa rfl rfl ?_
  refine dq rfl (qEq (qLd rfl rfl rfl rfl (CJ.loc rfl)) hdv) ?_
  iterate 2 refine dp rfl rfl ?_
  refine dFa rfl rfl ?_
  refine dq rfl (qLd rfl rfl rfl rfl (CM.cj ⟨_, _, _, hcb, rfl⟩ _)) ?_
  refine dp rfl rfl ?_
  refine dq rfl (wAj rfl rfl rfl) ?_
  refine dFa rfl rfl ?_
  refine dq rfl (qEq (qLd rfl rfl rfl rfl (CJ.loc rfl)) hdv) ?_
  refine dq rfl (wCd rfl rfl rfl) ?_
  refine dq rfl (qMin rfl rfl rfl rfl) ?_
  refine dq rfl (qEq (v' := .int .i64 ((pto c.a.toNat c.b.toNat x.pf.data.length) : Nat)) (qMax rfl rfl rfl rfl) (congrArg (Value.int .i64) (pt_int rfl (by omega) rfl))) ?_
  refine dq rfl (qEq (v' := .slice (some ⟨gb, (wDe c.a.toNat x.pf.data.length), none⟩) ((pto c.a.toNat c.b.toNat x.pf.data.length) - (wDe c.a.toNat x.pf.data.length)) (dc - (wDe c.a.toNat x.pf.data.length))) (qSl rfl rfl rfl (.no _) (.of rfl (by omega) (Int.toNat_natCast _)) (.of rfl (by omega) (Int.toNat_natCast _)) (by omega) (by simp)) (by rw [wGy (by omega)]; simp)) ?_
  refine wJu rfl rfl (hClearB rfl rfl rfl (by kernel_rfl) (by omega) (by omega)) ?_; rintro _ _ _ ⟨rfl, rfl⟩
  refine ⟨MLe.refl _, by simp, ?_⟩
  refine wCu ?_
  refine jPn (jrn ?_)
  refine wKt (fun _ h => h.perm (List.Perm.swap _ _ _)) ?_
  refine jrs (rs := []) rfl .nil ?_
  have hcl : cur.toList.length = cur.size := rfl
  refine ⟨{ x with dR := [(gb, .cells (cur.toList.take (wDe c.a.toNat x.pf.data.length) ++ List.replicate ((pto c.a.toNat c.b.toNat x.pf.data.length) - (wDe c.a.toNat x.pf.data.length)) (Value.int .u8 0) ++ cur.toList.drop ((wDe c.a.toNat x.pf.data.length) + ((pto c.a.toNat c.b.toNat x.pf.data.length) - (wDe c.a.toNat x.pf.data.length)))).toArray 5 (0, 0))], pf := { x.pf with data := wCr c.a.toNat c.b.toNat x.pf.data } }, ⟨.inr ⟨gb, dc, _, ?_, rfl, by rw [wLg]; exact k1, ?_, k3, ?_⟩, hx.nmo.data _ _ _⟩, rfl, rfl, ?_⟩
  · rw [wLg]; exact hdv
  · simp only [List.size_toArray, List.length_append, List.length_take, List.length_drop, List.length_replicate]; omega
  · exact take_punch k4 (by omega)
  unfold CF.own fObj; rfl
theorem wKp (x : CF) (hx : x.Ok) (hlen : x.pf.data.length ≤ 4096) (c : CL) (ca : Option Addr) (ck : Nat) (M : Mem) (hC : CallOk M c ca ck) (cb : Nat) (hcb : M cb = some (clO c ca ck)) (h1 : 0 ≤ c.a) (h2 : c.a ≤ c.b) (h3 : c.b ≤ 4096) : SpecL Tryz.prog 88 #[pt x.b, pt cb] M x.own fun _ _ L' => ClP x (wCr c.a.toNat c.b.toNat) L' := by
  have hpf := pf_is c.a.toNat c.b.toNat x.pf.data.length
  by_cases he : (pto c.a.toNat c.b.toNat x.pf.data.length) = (wDe c.a.toNat x.pf.data.length)
  · exact punch1_none x hx hlen c ca ck M hC cb hcb h1 h2 h3 he
  exact punch1_some x hx hlen c ca ck M hC cb hcb h1 h2 h3 (by omega)
set_option maxHeartbeats 1000000 in
theorem share1_spec (x : CF) (hx : x.Ok) (hlen : x.pf.data.length ≤ 4096) (c : CL) (ca : Option Addr) (ck : Nat) (M : Mem) (hC : CallOk M c ca ck) (cb : Nat) (hcb : M cb = some (clO c ca ck)) (d : List By) (sa : Option Addr) (sc : Nat) (hsd : SM M sa (wAn d)) (db : Nat) (hdb : M db = some (.cells [.slice sa d.length sc].toArray 24 (0, 0))) (hd : (d.length : Int) = c.c) (h1 : 0 ≤ c.b) (h2 : c.c ≤ 4096) (h3 : c.b ≤ 4096 - c.c) :
    SpecL Tryz.prog 89 #[pt x.b, pt cb, pt db] M x.own fun _ _ L' => ClP x (wDn c.b.toNat d) L' := by
  obtain ⟨dad, dc, hdv⟩ := hx.byt.form
  have hB : Byt (.slice dad x.pf.data.length dc) x.dR x.pf.data := hdv ▸ hx.byt
  have hcap := hB.cap.2.1
  unfold CF.own fObj
  have hwl := wlen_is x.pf.data.length c.b.toNat d.length
  refine wAe (vs := [_, _, _]) 35 _ Tryz.func89 rfl Tryz.ntmps89 rfl rfl ?_; intro W
  refine wAb (wAa (sFa rfl ?_))
  refine lq (qLd rfl rfl rfl rfl (CM.cj ⟨_, _, _, hcb, rfl⟩ _)) ?_
  refine js rfl (fun h6 => ?_) (fun h6 => ?_)
  · refine wAc ?_
    refine jT (wAf rfl (wAb (wBn (p := { A := fun i => !([19].contains i), U := fun i => !([19].contains i) }) [(0, true), (1, true), (2, true), (3, true), (4, true), (5, true), (6, true), (7, true), (8, true), (9, true), (10, true), (11, true), (12, true), (13, true), (14, true), (15, true), (16, false), (17, true), (18, true), (19, false)] M ([(x.b, .cells [.bool x.pf.dir, .int .i64 x.pf.links, x.dv, x.nm].toArray 127 (0, 0))]) ([]) (by kernel_rfl) (by kernel_rfl) (by kernel_rfl) (by kernel_rfl) rfl (by simp) (MLe.refl _) (by simp) ?_)))
    iterate 2 refine dp rfl rfl ?_
    refine dq rfl (wAj rfl rfl rfl) ?_
    refine dFa rfl rfl ?_
    refine dq rfl (qEq (qLd rfl rfl rfl rfl (CJ.loc rfl)) hdv) ?_
    refine dp rfl rfl ?_
    refine dq rfl (wAj rfl rfl rfl) ?_
    refine dFa rfl rfl ?_
    refine dq rfl (qEq (qLd rfl rfl rfl rfl (CJ.loc rfl)) hdv) ?_
    refine dq rfl (wCd rfl rfl rfl) ?_
    refine dFa rfl rfl ?_
    refine dq rfl (qLd rfl rfl rfl rfl (CM.cj ⟨_, _, _, hcb, rfl⟩ _)) ?_
    refine dFa rfl rfl ?_
    refine dq rfl (qLd rfl rfl rfl rfl (CM.cj ⟨_, _, _, hcb, rfl⟩ _)) ?_
    refine da rfl rfl (by omega) ?_
    refine dq rfl (qEq (v' := .int .i64 ((wKx x.pf.data.length c.b.toNat d.length) : Nat)) (qMax rfl rfl rfl rfl) (congrArg (Value.int .i64) (wlen_int rfl (by omega)))) ?_
    refine wJf rfl rfl rfl (hCl (wGi dad dc x.dR x.pf.data (((wKx x.pf.data.length c.b.toNat d.length) : Nat)) M hB (by omega) (by omega) hlen)) ?_; rintro _ _ _ ⟨hM2, R2, rfl, ⟨rfl, hB2⟩⟩
    refine ⟨_, _, MLe.refl _, hM2, fun _ h => h, by simp, ?_⟩
    obtain ⟨dad2, dc2, rfl⟩ := hB2.form
    rw [wAq] at hB2
    simp only [wAq]
    refine dq rfl (wAj rfl rfl rfl) ?_
    refine dFa rfl rfl ?_
    refine wJu rfl rfl (wBw rfl rfl rfl rfl rfl rfl rfl rfl) ?_; rintro _ _ _ ⟨rfl, rfl⟩
    refine ⟨MLe.refl _, by simp, ?_⟩
    refine wCu ?_
    refine jPn (jT ?_)
    have hne2 : wAx x.pf.data (wKx x.pf.data.length c.b.toNat d.length) ≠ [] := by intro e; have := congrArg List.length e; rw [wAq, List.length_nil] at this; omega
    obtain ⟨gb, cap, cur, e1, rfl, k1, k2, k3, k4⟩ := hB2.block hne2
    simp only [Value.slice.injEq, wAq] at e1
    obtain ⟨rfl, _, rfl⟩ := e1
    rw [wAq] at k1 k4
    refine wCw [(0, true), (1, true), (2, true), (3, true), (4, true), (5, true), (6, true), (7, true), (8, false)] [(x.b, .cells [.bool x.pf.dir, .int .i64 x.pf.links, .slice (some ⟨gb, 0, none⟩) (wKx x.pf.data.length c.b.toNat d.length) dc2, x.nm].toArray 127 (0, 0))] (by simp) ?_
    refine dp rfl rfl ?_
    refine dq rfl (wAj rfl rfl rfl) ?_
    refine dFa rfl rfl ?_
    refine dLd rfl rfl ?_
    refine dFa rfl rfl ?_
    refine dq rfl (qLd rfl rfl rfl rfl (CM.cj ⟨_, _, _, hcb, rfl⟩ _)) ?_
    refine dq rfl (qEq (v' := .slice (some ⟨gb, c.b.toNat, none⟩) ((wKx x.pf.data.length c.b.toNat d.length) - c.b.toNat) (dc2 - c.b.toNat)) (qSl rfl rfl rfl (.no _) (.no _) (.of rfl (by omega) rfl) (by omega) (by simp)) (by rw [wGy (by omega)]; simp)) ?_
    refine dq rfl (qLd rfl rfl rfl rfl (CM.cj ⟨_, _, _, hdb, rfl⟩ _)) ?_
    refine wJf rfl rfl rfl (hCopyB (cs := wAn d) rfl rfl rfl rfl (wBd _) (by omega) hsd (wKe _) (by omega)) ?_; rintro _ _ _ ⟨rfl, rfl⟩
    refine ⟨_, _, MLe.refl _, MLe.refl _, fun _ h => h, by simp, ?_⟩
    refine wAs (jPn (jrn ?_))
    refine wKt (fun _ h => h.perm (List.Perm.swap _ _ _)) ?_
    refine jrs (rs := []) rfl .nil ?_
    have hcl : cur.toList.length = cur.size := rfl
    have hov : (wKq (wAx x.pf.data (wKx x.pf.data.length c.b.toNat d.length)) c.b.toNat d).length = (wKx x.pf.data.length c.b.toNat d.length) := by rw [wJs (by rw [wAq]; omega), wAq]
    refine ⟨{ x with dv := .slice (some ⟨gb, 0, none⟩) (wKq (wAx x.pf.data (wKx x.pf.data.length c.b.toNat d.length)) c.b.toNat d).length dc2, dR := [(gb, .cells (cur.toList.take c.b.toNat ++ wAn d ++ cur.toList.drop (c.b.toNat + (wAn d).length)).toArray 5 (0, 0))], pf := { x.pf with data := wKq (wAx x.pf.data (wKx x.pf.data.length c.b.toNat d.length)) c.b.toNat d } }, ⟨.inr ⟨gb, dc2, _, rfl, rfl, by rw [hov]; exact k1, ?_, k3, ?_⟩, hx.nmo.data _ _ _⟩, rfl, ?_, ?_⟩
    · simp only [List.size_toArray, List.length_append, List.length_take, List.length_drop, wBd]; omega
    · exact take_over (xs := wAx x.pf.data (wKx x.pf.data.length c.b.toNat d.length)) (by rw [wAq]; exact k4) (by rw [wAq]; omega) (by rw [wAq]; omega)
    · show _ = { x.pf with data := wDn c.b.toNat d x.pf.data }; rw [writeB_is (by intro e; rw [e] at hd; simp at hd; omega)]
    unfold CF.own fObj; rw [hov]; rfl
  refine wAc (jT (wAh rfl (wAd (jrn ?_))))
  refine jrs (rs := []) rfl .nil ?_
  refine ⟨x, hx, rfl, ?_, rfl⟩
  show x.pf = { x.pf with data := wDn c.b.toNat d x.pf.data }
  have : d = [] := List.eq_nil_of_length_eq_zero (by omega)
  unfold wDn; rw [if_pos this]
theorem turn_no (S : CS) (hS : S.Ok) (n : Nat) (hwf : WFS n S.abs) (hn : n ≤ 100) (M : Mem) (w : Wy) (na : Option Addr) (nc : Nat) (hW : WyOk M w na nc) (f : List By → List By) (fid : FuncId) (caps : List Value) (ok : Bool) (hgo : isGo Tryz.prog fid = true) (hcl : ok = true → ∀ x : CF, x.Ok → x.pf.data.length ≤ 4096 → SpecL Tryz.prog fid (pt x.b :: caps).toArray M x.own fun _ _ L' => ClP x f L') (hok : ok = false) :
  SpecL Tryz.prog 81 #[pt S.b, wyV w na nc, .bool ok, .func (.func fid) #[] caps.toArray] M S.own fun u M' L' => OpP S.b (wDv S.abs w ok f) u M' L' := by
 refine SpecL.mem fun hnd hdis => ?_
 have hVa := wBf (M := M) hnd
 have hMa := wBk hdis
 have hVw : ∀ L, SubL S.own L → Vw M L S.own := fun L h => Vw.of
 subst hok
 refine wAe (vs := [_, _, _, _]) 36 _ Tryz.func81 rfl Tryz.ntmps81 rfl rfl ?_; intro W
 refine wAb (wAa (sBx [_, _] rfl fun b6 => ?_))
 refine sAl rfl fun b8 => ?_
 refine wAc (jT (wAb (wAb (wAa (jp rfl (jp rfl (wAc (jT (jc_if rfl (fun h13 => ?_) (fun h13 => ?_))))))))))
 ·refine wAb (wAa (lq (qCl (wAt 2 M)) ?_))
  refine sSt rfl ?_
  refine wAc (jT (wAg (jTr (jrsd (rs := [_]) (S.own) (by repeat (first | exact List.Sublist.refl _ | exact List.sublist_append_left _ _ | apply List.Sublist.cons)) rfl (.cons (.agg rfl rfl rfl) .nil) ?_))))
  have hr : wDv S.abs w false f = (S.abs, wCa 2) := by
   unfold wDv; rfl
  rw [hr]; exact OpP.plain (r := (S.abs, _)) hS rfl rfl rfl rfl
 refine wAd (jT (wAb (wAa ?_)))
 cases h13
theorem turn_e (S : CS) (hS : S.Ok) (n : Nat) (hwf : WFS n S.abs) (hn : n ≤ 100) (M : Mem) (w : Wy) (na : Option Addr) (nc : Nat) (hW : WyOk M w na nc) (f : List By → List By) (fid : FuncId) (caps : List Value) (ok : Bool) (hgo : isGo Tryz.prog fid = true) (hcl : ok = true → ∀ x : CF, x.Ok → x.pf.data.length ≤ 4096 → SpecL Tryz.prog fid (pt x.b :: caps).toArray M x.own fun _ _ L' => ClP x f L') (hok : ok = true) (e : Int) (hw : wCh S.abs w = .error e) :
  SpecL Tryz.prog 81 #[pt S.b, wyV w na nc, .bool ok, .func (.func fid) #[] caps.toArray] M S.own fun u M' L' => OpP S.b (wDv S.abs w ok f) u M' L' := by
 refine SpecL.mem fun hnd hdis => ?_
 have hVa := wBf (M := M) hnd
 have hMa := wBk hdis
 have hVw : ∀ L, SubL S.own L → Vw M L S.own := fun L h => Vw.of
 subst hok
 have he := wJv hwf hw
 refine wAe (vs := [_, _, _, _]) 36 _ Tryz.func81 rfl Tryz.ntmps81 rfl rfl ?_; intro W
 refine wAb (wAa (sBx [_, _] rfl fun b6 => ?_))
 refine sAl rfl fun b8 => ?_
 refine wAc (jT (wAb (wAb (wAa (jp rfl (jp rfl (wAc (jT (jc_if rfl (fun h13 => ?_) (fun h13 => ?_))))))))))
 ·refine wAb (wAa ?_)
  cases h13
 refine wAd (jT (wAb (wAa (jp rfl (sLL rfl ?_)))))
 refine lq (qEq (wBm (R := S.own) rfl rfl rfl rfl rfl (by kernel_rfl) (SubL.sub) (wDs S hS n hwf (wDu M S.own) hVa w na nc (hW.mono hMa))) (by rw [hw]; try rfl)) ?_
 iterate 7 refine jp rfl ?_
 refine wAc (jT (wAb (wAb (wAa (jp rfl (jf rfl (decide_eq_false (by omega)) ?_))))))
 refine wAc (jT (wAh rfl (wAd (jT (wAb (wAb (wAa (jp rfl (jt rfl (decide_eq_true (by omega)) ?_)))))))))
 refine wAc (jT (wAf rfl (wAb (wAa (jp rfl (lq (qCl (wAt e M)) ?_))))))
 refine sSt rfl ?_
 refine wAc (jT (wAg (jTr (jrsd (rs := [_]) (S.own) (by repeat (first | exact List.Sublist.refl _ | exact List.sublist_append_left _ _ | apply List.Sublist.cons)) rfl (.cons (.agg rfl rfl rfl) .nil) ?_))))
 have hr : wDv S.abs w true f = (S.abs, wCa e) := by
  unfold wDv; rw [hw]; rfl
 rw [hr]; exact OpP.plain (r := (S.abs, _)) hS rfl rfl rfl rfl
theorem turn_frz (S : CS) (hS : S.Ok) (n : Nat) (hwf : WFS n S.abs) (hn : n ≤ 100) (M : Mem) (w : Wy) (na : Option Addr) (nc : Nat) (hW : WyOk M w na nc) (f : List By → List By) (fid : FuncId) (caps : List Value) (ok : Bool) (hgo : isGo Tryz.prog fid = true) (hcl : ok = true → ∀ x : CF, x.Ok → x.pf.data.length ≤ 4096 → SpecL Tryz.prog fid (pt x.b :: caps).toArray M x.own fun _ _ L' => ClP x f L') (hok : ok = true) (id : Int) (hw : wCh S.abs w = .ok id) (v : CV) (x : CF) (hv : wAm w.1 S.vols = some v) (hx : wAm id v.files = some x) (hf : wAr S.abs w.1 = true) :
  SpecL Tryz.prog 81 #[pt S.b, wyV w na nc, .bool ok, .func (.func fid) #[] caps.toArray] M S.own fun u M' L' => OpP S.b (wDv S.abs w ok f) u M' L' := by
 refine SpecL.mem fun hnd hdis => ?_
 have hVa := wBf (M := M) hnd
 have hMa := wBk hdis
 have hVw : ∀ L, SubL S.own L → Vw M L S.own := fun L h => Vw.of
 subst hok
 refine wAe (vs := [_, _, _, _]) 36 _ Tryz.func81 rfl Tryz.ntmps81 rfl rfl ?_; intro W
 refine wAb (wAa (sBx [_, _] rfl fun b6 => ?_))
 refine sAl rfl fun b8 => ?_
 refine wAc (jT (wAb (wAb (wAa (jp rfl (jp rfl (wAc (jT (jc_if rfl (fun h13 => ?_) (fun h13 => ?_))))))))))
 ·refine wAb (wAa ?_)
  cases h13
 refine wAd (jT (wAb (wAa (jp rfl (sLL rfl ?_)))))
 refine lq (qEq (v' := .tuple #[.int .u32 id, pt x.b, .int .i64 0]) (wBm (R := S.own) rfl rfl rfl rfl rfl (by kernel_rfl) (SubL.sub) (wDs S hS n hwf (wDu M S.own) hVa w na nc (hW.mono hMa))) (by rw [hw]; exact wBj hv hx)) ?_
 iterate 7 refine jp rfl ?_
 refine wAc (jT (wAb (wAb (wAa (jp rfl (jt rfl (decide_eq_true (by omega)) ?_))))))
 refine wAc (jT (wAf rfl (wAa (jp rfl (sFL rfl rfl ?_)))))
 refine lq (qEq (v' := .int .i64 170) (wBm (R := S.own) rfl rfl rfl rfl rfl (by kernel_rfl) (SubL.sub) (wDc S hS n hwf (wDu M S.own) hVa w.1 v hv)) (by rw [hf]; rfl)) ?_
 refine jp rfl (wAc (jT (wAb (wAb (wAa (jp rfl (jt rfl (decide_eq_true (by omega)) ?_)))))))
 refine wAc (jT (wAf rfl (wAb (wAa (jp rfl (lq (qCl (wAt 170 M)) ?_))))))
 refine sSt rfl ?_
 refine wAc (jT (wAg (jTr (jrsd (rs := [_]) (S.own) (by repeat (first | exact List.Sublist.refl _ | exact List.sublist_append_left _ _ | apply List.Sublist.cons)) rfl (.cons (.agg rfl rfl rfl) .nil) ?_))))
 have hr : wDv S.abs w true f = (S.abs, wCa 170) := by
  unfold wDv; rw [hw]; simp only [if_true]; rw [hf]; rfl
 rw [hr]; exact OpP.plain (r := (S.abs, _)) hS rfl rfl rfl rfl
theorem turn_ok (S : CS) (hS : S.Ok) (n : Nat) (hwf : WFS n S.abs) (hn : n ≤ 100) (M : Mem) (w : Wy) (na : Option Addr) (nc : Nat) (hW : WyOk M w na nc) (f : List By → List By) (fid : FuncId) (caps : List Value) (ok : Bool) (hgo : isGo Tryz.prog fid = true) (hcl : ok = true → ∀ x : CF, x.Ok → x.pf.data.length ≤ 4096 → SpecL Tryz.prog fid (pt x.b :: caps).toArray M x.own fun _ _ L' => ClP x f L') (hok : ok = true) (id : Int) (hw : wCh S.abs w = .ok id) (v : CV) (x : CF) (hv : wAm w.1 S.vols = some v) (hx : wAm id v.files = some x) (hf : wAr S.abs w.1 = false) :
  SpecL Tryz.prog 81 #[pt S.b, wyV w na nc, .bool ok, .func (.func fid) #[] caps.toArray] M S.own fun u M' L' => OpP S.b (wDv S.abs w ok f) u M' L' := by
 refine SpecL.mem fun hnd hdis => ?_
 have hVa := wBf (M := M) hnd
 have hMa := wBk hdis
 have hVw : ∀ L, SubL S.own L → Vw M L S.own := fun L h => Vw.of
 subst hok
 obtain ⟨v3, x3, hv3, hx3, hwv, hxnd⟩ := wEi hwf hw
 rw [hv] at hv3; cases hv3; rw [hx] at hx3; cases hx3
 have hlen : x.pf.data.length ≤ 4096 := (hwv.wf.len id x.pf (by show wAm id (wEf v.files) = _; rw [wBs, hx]; rfl)).1
 refine wAe (vs := [_, _, _, _]) 36 _ Tryz.func81 rfl Tryz.ntmps81 rfl rfl ?_; intro W
 refine wAb (wAa (sBx [_, _] rfl fun b6 => ?_))
 refine sAl rfl fun b8 => ?_
 refine wAc (jT (wAb (wAb (wAa (jp rfl (jp rfl (wAc (jT (jc_if rfl (fun h13 => ?_) (fun h13 => ?_))))))))))
 ·refine wAb (wAa ?_)
  cases h13
 refine wAd (jT (wAb (wAa (jp rfl (sLL rfl ?_)))))
 refine lq (qEq (v' := .tuple #[.int .u32 id, pt x.b, .int .i64 0]) (wBm (R := S.own) rfl rfl rfl rfl rfl (by kernel_rfl) (SubL.sub) (wDs S hS n hwf (wDu M S.own) hVa w na nc (hW.mono hMa))) (by rw [hw]; exact wBj hv hx)) ?_
 iterate 7 refine jp rfl ?_
 refine wAc (jT (wAb (wAb (wAa (jp rfl (jt rfl (decide_eq_true (by omega)) ?_))))))
 refine wAc (jT (wAf rfl (wAa (jp rfl (sFL rfl rfl ?_)))))
 refine lq (qEq (v' := .int .i64 0) (wBm (R := S.own) rfl rfl rfl rfl rfl (by kernel_rfl) (SubL.sub) (wDc S hS n hwf (wDu M S.own) hVa w.1 v hv)) (by rw [hf]; rfl)) ?_
 refine jp rfl (wAc (jT (wAb (wAb (wAa (jp rfl (jf rfl (decide_eq_false (by omega)) ?_)))))))
 refine wAc (jT (wAh rfl (wAd (jT (wAb ?_)))))
 obtain ⟨R, hp1, hp2⟩ := CS.focX hv hx
 refine jc_weak (L' := x.own ++ (R ++ _)) (fun _ h => h.perm (foc_pick hp1)) ?_
 refine wAa (jp rfl (jp rfl (wCe rfl rfl (wKh rfl rfl rfl rfl rfl hgo (hcl rfl x ((hS.v hv).x hx) hlen)) ?_))); rintro _ M2 _ ⟨hM2, R2, rfl, ⟨x2, hok2, hb2, hpf2, rfl⟩⟩
 refine jl_weak (fun _ h => h.perm (foc_back (hp2 x2))) ?_
 refine wAc (jT (wAb (wAa (lq (wBe (cs := [_, _, _, _, _, _, _, _]) rfl rfl rfl (by rfl)) ?_))))
 refine sSt rfl ?_
 refine wAc (jT (wAg (jrsd (rs := [_]) ((S.setX w.1 id x2).own) (by repeat (first | exact List.Sublist.refl _ | exact List.sublist_append_left _ _ | apply List.Sublist.cons)) rfl (.cons (.agg rfl rfl rfl) .nil) ?_)))
 have hr : wDv S.abs w true f = ((S.setX w.1 id x2).abs, {}) := by
  unfold wDv; rw [hw]; simp only [if_true]; rw [hf, wFc (f := fun x => { x with data := f x.data }) hv hx hpf2]; rfl
 rw [hr]; exact OpP.plain (r := (_, _)) (hS.setX hv hx hb2 hok2) rfl rfl rfl rfl
theorem wGa (S : CS) (hS : S.Ok) (n : Nat) (hwf : WFS n S.abs) (hn : n ≤ 100) (M : Mem) (w : Wy) (na : Option Addr) (nc : Nat) (hW : WyOk M w na nc) (f : List By → List By) (fid : FuncId) (caps : List Value) (ok : Bool) (hgo : isGo Tryz.prog fid = true) (hcl : ok = true → ∀ x : CF, x.Ok → x.pf.data.length ≤ 4096 → SpecL Tryz.prog fid (pt x.b :: caps).toArray M x.own fun _ _ L' => ClP x f L') : SpecL Tryz.prog 81 #[pt S.b, wyV w na nc, .bool ok, .func (.func fid) #[] caps.toArray] M S.own fun u M' L' => OpP S.b (wDv S.abs w ok f) u M' L' := by
 cases hok : ok with
 | false => exact turn_no S hS n hwf hn M w na nc hW f fid caps false hgo (fun h => by cases h) rfl
 | true =>
  subst hok
  cases hw : wCh S.abs w with
  | error e => exact turn_e S hS n hwf hn M w na nc hW f fid caps true hgo hcl rfl e hw
  | ok id =>
   obtain ⟨v, x, hv, hx, hwv, hxd⟩ := wEi hwf hw
   cases hf : wAr S.abs w.1 with
   | true => exact turn_frz S hS n hwf hn M w na nc hW f fid caps true hgo hcl rfl id hw v x hv hx hf
   | false => exact turn_ok S hS n hwf hn M w na nc hW f fid caps true hgo hcl rfl id hw v x hv hx hf
theorem write_spec (S : CS) (hS : S.Ok) (n : Nat) (hwf : WFS n S.abs) (hn : n ≤ 100) (M : Mem) (c : CL) (ca : Option Addr) (ck : Nat) (hC : CallOk M c ca ck) (w : Wy) (na : Option Addr) (nc : Nat) (hW : WyOk M w na nc) (o : Wy) (oa : Option Addr) (oc : Nat) (hO : WyOk M o oa oc) :
  SpecL Tryz.prog 42 #[pt S.b, clV c ca ck, wyV w na nc, wyV o oa oc] M S.own fun u M' L' => OpP S.b (wJg S.abs c w) u M' L' := by
 refine SpecL.mem fun hnd hdis => ?_
 have hVa := wBf (M := M) hnd
 have hMa := wBk hdis
 have hVw : ∀ L, SubL S.own L → Vw M L S.own := fun L h => Vw.of
 have hcb := hC.big
 refine wAe (vs := [_, _, _, _]) 30 _ Tryz.func42 rfl Tryz.ntmps42 rfl rfl ?_; intro W
 refine wAb (wAa (sBx [_, _, _, _, _, _, _] rfl fun b5 => ?_))
 refine sBx [_, _] rfl fun b6 => ?_
 refine sBx [_, _] rfl fun b7 => ?_
 refine sAl rfl fun b8 => ?_
 refine wAc (jT (wAb (wAa (jp rfl (sLL rfl ?_)))))
 refine sFL rfl rfl ?_
 refine js rfl (fun h13 => ?_) (fun h13 => ?_)
 ·refine jp rfl (sFL rfl rfl ?_)
  refine js rfl (fun h17 => ?_) (fun h17 => ?_)
  ·refine jp rfl (jp rfl (sFL rfl rfl ?_))
   refine lq (wCd rfl rfl rfl) ?_
   refine sFL rfl rfl ?_
   refine ja rfl (by omega) ?_
   refine jp rfl (jp rfl (jp rfl ?_))
   refine wGk b5 (fun x hx => by obtain ⟨p, hp, rfl⟩ := List.mem_map.1 hx; exact List.mem_map_of_mem (SubL.sub (R := S.own) p hp)) ?_
   intro M1 hM1 e5
   refine wCe rfl rfl (wKh rfl rfl rfl rfl rfl (by kernel_rfl) (wGa S hS n hwf hn M1 w na nc (hW.mono hM1) (wDn c.a.toNat c.data) 82 [pt b5] _ (by kernel_rfl) (fun hh x hx hl => by first | cases hh | exact wKn x hx hl c ca ck M1 (hC.mono hM1) b5 e5 (by omega) (by omega) (of_decide_eq_true hh)))) ?_; rintro _ M2 _ ⟨hM2, R3, rfl, ⟨S2, dv2, nv2, R1, R2, hk1, hk2, rfl, hk3, hk4, rfl⟩⟩
   obtain ⟨da2, dc2, rfl⟩ := hk3.form
   obtain ⟨na2, nc2, rfl⟩ := Nms.nform hk4
   refine sSt rfl ?_
   refine wAc (jT (wAg (wFu (rs := [_]) (S2.own ++ (R1 ++ R2)) rfl (.cons (.agg rfl rfl rfl) .nil) ?_)))
   have hr : wJg S.abs c w = wDv S.abs w (decide ((c.data.length : Int) ≤ 4096 - c.a)) (wDn c.a.toNat c.data) := by unfold wJg; rw [decide_eq_true (by omega : 0 ≤ c.a), decide_eq_true (by omega : c.a ≤ 4096)]; rfl
   rw [hr]; exact ⟨S2, _, _, R1, R2, hk1, hk2, rfl, hk3, hk4, rfl⟩
  iterate 11 refine jp rfl ?_
  refine wGk b5 (fun x hx => by obtain ⟨p, hp, rfl⟩ := List.mem_map.1 hx; exact List.mem_map_of_mem (SubL.sub (R := S.own) p hp)) ?_
  intro M1 hM1 e5
  refine wCe rfl rfl (wKh rfl rfl rfl rfl rfl (by kernel_rfl) (wGa S hS n hwf hn M1 w na nc (hW.mono hM1) (wDn c.a.toNat c.data) 82 [pt b5] _ (by kernel_rfl) (fun hh x hx hl => by first | cases hh | exact wKn x hx hl c ca ck M1 (hC.mono hM1) b5 e5 (by omega) (by omega) (of_decide_eq_true hh)))) ?_; rintro _ M2 _ ⟨hM2, R3, rfl, ⟨S2, dv2, nv2, R1, R2, hk1, hk2, rfl, hk3, hk4, rfl⟩⟩
  obtain ⟨da2, dc2, rfl⟩ := hk3.form
  obtain ⟨na2, nc2, rfl⟩ := Nms.nform hk4
  refine sSt rfl ?_
  refine wAc (jT (wAg (wFu (rs := [_]) (S2.own ++ (R1 ++ R2)) rfl (.cons (.agg rfl rfl rfl) .nil) ?_)))
  have hr : wJg S.abs c w = wDv S.abs w false (wDn c.a.toNat c.data) := by unfold wJg; rw [decide_eq_true (by omega : 0 ≤ c.a), decide_eq_false (by omega : ¬ (c.a ≤ 4096))]; rfl
  rw [hr]; exact ⟨S2, _, _, R1, R2, hk1, hk2, rfl, hk3, hk4, rfl⟩
 iterate 15 refine jp rfl ?_
 refine wGk b5 (fun x hx => by obtain ⟨p, hp, rfl⟩ := List.mem_map.1 hx; exact List.mem_map_of_mem (SubL.sub (R := S.own) p hp)) ?_
 intro M1 hM1 e5
 refine wCe rfl rfl (wKh rfl rfl rfl rfl rfl (by kernel_rfl) (wGa S hS n hwf hn M1 w na nc (hW.mono hM1) (wDn c.a.toNat c.data) 82 [pt b5] _ (by kernel_rfl) (fun hh x hx hl => by first | cases hh | exact wKn x hx hl c ca ck M1 (hC.mono hM1) b5 e5 (by omega) (by omega) (of_decide_eq_true hh)))) ?_; rintro _ M2 _ ⟨hM2, R3, rfl, ⟨S2, dv2, nv2, R1, R2, hk1, hk2, rfl, hk3, hk4, rfl⟩⟩
 obtain ⟨da2, dc2, rfl⟩ := hk3.form
 obtain ⟨na2, nc2, rfl⟩ := Nms.nform hk4
 refine sSt rfl ?_
 refine wAc (jT (wAg (wFu (rs := [_]) (S2.own ++ (R1 ++ R2)) rfl (.cons (.agg rfl rfl rfl) .nil) ?_)))
 have hr : wJg S.abs c w = wDv S.abs w false (wDn c.a.toNat c.data) := by unfold wJg; rw [decide_eq_false (by omega : ¬ (0 ≤ c.a))]; rfl
 rw [hr]; exact ⟨S2, _, _, R1, R2, hk1, hk2, rfl, hk3, hk4, rfl⟩
end Go.Proofs.YtokljhkplbkggaaGreatDoor
