/- Bytes of one's own: taken, made longer, written over, cleared. No statement of the seat is proved here. -/
import Derived.Test.YtdjaehgadehnfaaGreatDoorHp
import Derived.Lib.AppendZerosOnto
namespace Go.Proofs.YtdjaehgadehnfaaGreatDoor
set_option linter.unusedVariables false
set_option linter.unusedSimpArgs false
open Go.RowKit Go.MapKept

theorem Byt.of_own {v : Value} {R : Lc} {xs : List By} {n : Nat} (h : Own v R 5 1 n (bcells xs)) : Byt v R xs := by
  have hl := h.1
  rw [bcells_len, Nat.mul_one] at hl
  rcases h.2 with ⟨rfl, h0, rfl⟩ | ⟨g, cap, cur, rfl, rfl, h1, h2, h3, h4⟩
  · exact .inl ⟨rfl, rfl, List.eq_nil_of_length_eq_zero (by omega)⟩
  · subst hl
    exact .inr ⟨g, cap, cur, rfl, rfl, h1, by omega, h2, by rw [Nat.mul_one] at h4; exact h4⟩
theorem Byt.take {a : Option Addr} {c : Nat} {R : Lc} {xs : List By} (h : Byt (.slice a xs.length c) R xs) {n : Nat} (hn : n ≤ xs.length) : Byt (.slice a n c) R (xs.take n) := by
  rcases h with ⟨h1, rfl, rfl⟩ | ⟨g, cap, cur, h1, rfl, h2, h3, h4, h5⟩
  · simp only [List.length_nil, Nat.le_zero_eq] at hn; subst hn
    exact .inl ⟨h1, rfl, rfl⟩
  · simp only [Value.slice.injEq, true_and] at h1
    obtain ⟨rfl, rfl⟩ := h1
    have hl : (xs.take n).length = n := by rw [List.length_take]; omega
    refine .inr ⟨g, c, cur, by rw [hl], rfl, by rw [hl]; omega, h3, h4, ?_⟩
    rw [hl, show n = min n xs.length by omega, ← List.take_take, h5]
    unfold bcells; rw [List.map_take, show min n xs.length = n by omega]
theorem Byt.clip {a : Option Addr} {c : Nat} {R : Lc} {xs : List By} (h : Byt (.slice a xs.length c) R xs) : Byt (.slice a xs.length xs.length) R xs := by
  rcases h with ⟨h1, rfl, rfl⟩ | ⟨g, cap, cur, h1, rfl, h2, h3, h4, h5⟩
  · simp only [Value.slice.injEq] at h1; obtain ⟨rfl, _, _⟩ := h1; exact .inl ⟨rfl, rfl, rfl⟩
  · simp only [Value.slice.injEq, true_and] at h1
    obtain ⟨rfl, rfl⟩ := h1
    exact .inr ⟨g, xs.length, cur, rfl, rfl, Nat.le_refl _, by omega, by omega, h5⟩
/-- the cells that are seen -/
theorem Byt.sm {v : Value} {R : Lc} {xs : List By} {M : Mem} (h : Byt v R xs) (hR : ∀ p ∈ R, M p.1 = some p.2) : ∃ a c, v = .slice a xs.length c ∧ xs.length ≤ c ∧ c ≤ maxLen ∧ SM M a (bcells xs) := by
  rcases h with ⟨rfl, rfl, rfl⟩ | ⟨g, cap, cur, rfl, rfl, h2, h3, h4, h5⟩
  · exact ⟨none, 0, rfl, Nat.le_refl _, Nat.zero_le _, .inl rfl⟩
  · refine ⟨_, cap, rfl, h2, h4, .inr ⟨g, 0, rfl, fun i u hu => ⟨cur, _, (0, 0), hR (g, .cells cur 5 (0, 0)) (List.mem_singleton.2 rfl), ?_⟩⟩⟩
    rw [← h5, List.getElem?_take] at hu
    split at hu
    · simpa using hu
    · cases hu
theorem sizedB_len {b : List By} {n : Nat} : (sizedB b n).length = n := by
  unfold sizedB; split
  · rw [List.length_take]; omega
  · rw [List.length_append, List.length_replicate]; omega
theorem overB_len {b d : List By} {k : Nat} (h : k + d.length ≤ b.length) : (overB b k d).length = b.length := by
  unfold overB; simp only [List.length_append, List.length_take, List.length_drop]; omega
section
variable {P : Program} {ops : Array Oper} {N : Fs} {F : Fr} {E : Ent} {M : Mem} {L : Lc} {o : Oper}
theorem zeros_toList (m : Nat) : (Builtin.zeroCells (Value.int .u8 0).cells m).toList = List.replicate m (Value.int .u8 0) := by
  simp only [Builtin.zeroCells, Array.toList_map, Array.toList_range]
  apply List.ext_getElem
  · simp [Value.cells]
  · intro i h1 h2
    simp [Value.cells, Nat.mod_one]
/-- noughts appended to bytes of one's own -/
theorem hByZeros {x y : Operand} {t tn : TypeId} {kn : IntKind} {a : Option Addr} {c : Nat} {R L2 : Lc} {xs : List By} {m : Int} (hg : gd ops F o = some true)
    (ho : o.op = .call { callee := .builtin .append, args := #[x, y], argTypes := #[t, tn] }) (hx : ev F x = some (.slice a xs.length c)) (hy : ev F y = some (.int .i64 m)) [ht : Und P t (.slice 5)] [htn : Und P tn (.int kn)] [hl : Lay P 5 1 1 [.int .u8 0]] (hzz : (P.info? 5).bind (·.zero) = some (.int .u8 0))
    (hown : Byt (.slice a xs.length c) R xs) [hp : Pick R L L2] (h0 : 0 < m) (hbig : xs.length + m ≤ 1000000) :
    HF P ops N F E M L o (fun v' M' L' => M = M' ∧ ∃ R', L' = R' ++ L2 ∧ Byt v' R' (xs ++ List.replicate m.toNat 0)) := hf_of hg fun ac hw0 ha hw => by
  obtain ⟨mm, rfl⟩ : ∃ k : Nat, m = k := ⟨m.toNat, by omega⟩
  rw [Int.toNat_natCast]
  obtain ⟨ti, zv, hi, hi2, hi3, hz, hz2⟩ := hl.info
  have hzv : zv = .int .u8 0 := by rw [hi] at hzz; have : ti.zero = some (.int .u8 0) := hzz; rw [hz] at this; cases this; rfl
  subst hzv
  have hw' := hw.perm hp.perm
  have hbc : ∀ k : Nat, bcells (xs ++ List.replicate k 0) = bcells xs ++ List.replicate k (Value.int .u8 0) := fun k => by unfold bcells; rw [List.map_append, List.map_replicate]; rfl
  have hnew : ∀ (w : World) (cap : Nat) (olds : List Value), olds = bcells xs → xs.length + mm ≤ cap → cap ≤ maxLen →
      Byt (.slice (some ⟨w.heap.size, 0, none⟩) (xs.length + mm) cap) [(w.heap.size, .cells (olds.toArray ++ Builtin.zeroCells (Value.int .u8 0).cells mm ++ Builtin.zeroCells (Value.int .u8 0).cells (cap - (xs.length + mm))) 5 (0, 0))] (xs ++ List.replicate mm 0) := fun w cap olds ho2 h1 h2 => by
    have hlen : (xs ++ List.replicate mm (0 : By)).length = xs.length + mm := by simp
    refine .inr ⟨_, cap, _, by rw [hlen], rfl, by rw [hlen]; exact h1, ?_, h2, ?_⟩
    · rw [ho2, ← Array.length_toList]; simp only [Array.toList_append, zeros_toList, List.length_append, List.length_replicate, bcells_len]; omega
    · rw [hlen, hbc, ho2]; simp only [Array.toList_append, zeros_toList]
      exact List.take_left' (by simp [bcells_len])
  rcases hown with ⟨h1, rfl, rfl⟩ | ⟨g, cap, cur, h1, rfl, h2, h3, h4, h5⟩
  · simp only [Value.slice.injEq] at h1; obtain ⟨rfl, hl0, rfl⟩ := h1
    have hr := Go.Lib.run_append_grow_zeros (P := P) hw0 t tn o.type 5 ti (.int .u8 0) .i64 kn ht.h htn.h hi hz none 0 0 [] (by simp [Builtin.firstCells, loadCells, loadCellsFrom]) mm (by omega) (by omega) (by omega) (by omega) (by rw [hi3]; omega) (growslice_fits (by omega) (by rw [hi3]; simp at hbig; omega))
    have hge := grownCap_ge hw0 (0 + mm) 0 5
    have hle := grownCap_le_maxLen hw0 (0 + mm) 0 5 (by unfold maxLen; simp at hbig; omega)
    have hd : St E M ([] ++ L2) hw0.drew := { hw' with }
    refine ⟨_, _, M, _, .inl ?_, hd.alloc _, rfl, [_], rfl, hnew hw0 _ [] rfl hge hle⟩
    simp [execOp, ho, resolve, invoke, builtin, ha.ev hx, ha.ev hy, hr]
  · simp only [Value.slice.injEq, true_and] at h1
    obtain ⟨rfl, rfl⟩ := h1
    have hb : hw0.heap[g]? = some (.cells cur 5 (0, 0)) := (hw'.locs (g, .cells cur 5 (0, 0)) (by simp)).1
    have hlen : (xs ++ List.replicate mm (0 : By)).length = xs.length + mm := by simp
    by_cases hroom : xs.length + mm ≤ c
    · have hst := run_storeCells_at P g xs.length 5 (List.replicate mm (Value.int .u8 0)) 0 cur hw0 hb (by simp; omega) (fun v hv => by rw [(List.mem_replicate.1 hv).2]; rfl)
      simp only [Nat.add_zero, List.length_replicate] at hst
      have hww : IntKind.i64.wrap (mm : Int) = mm := by rw [IntKind.wrap_i64]; omega
      have hneg : ¬ ((mm : Int) < 0) := by omega
      have h48i : ¬ (281474976710656 < (mm : Int) * (ti.bytes : Int)) := by rw [hi3]; omega
      have hns : ¬ (mm * ti.size = 0) := by rw [hi2]; omega
      refine ⟨.slice (some ⟨g, 0, none⟩) (xs.length + mm) c, _, M, [(g, .cells (cur.toList.take xs.length ++ List.replicate mm (Value.int .u8 0) ++ cur.toList.drop (xs.length + mm)).toArray 5 (0, 0))] ++ L2, .inl ?_, hw'.put ⟨⟨[], L2, rfl, rfl⟩⟩, rfl, _, rfl, ?_⟩
      · simp [execOp, ho, resolve, invoke, builtin, ha.ev hx, ha.ev hy, Builtin.append_, run_underlying ht.h, run_underlying htn.h, sizeOf, typeInfo, zeroValue, hi, hi2, hz, asInt, asIntOf, hww, hneg, h48i, hroom, Addr.add_lit, zeros_toList, hst, show mm ≠ 0 by omega]
      · refine .inr ⟨g, c, _, by rw [hlen], rfl, by rw [hlen]; exact hroom, ?_, h4, ?_⟩
        · simp; omega
        · rw [hlen, hbc, ← h5]
          simp only [List.append_assoc]
          rw [← List.append_assoc]
          exact List.take_left' (by simp; omega)
    · have hold : (Builtin.firstCells ti.size xs.length (.slice (some ⟨g, 0, none⟩) xs.length c)).run P hw0.drew = .ok (bcells xs).toArray hw0.drew := by
        refine run_firstCells_some (P := P) hw0.drew ti.size xs.length ⟨g, 0, none⟩ xs.length c (bcells xs) (by rw [hi2, bcells_len, Nat.mul_one]) (fun j v hv => ?_)
        have hadd : (⟨g, 0, none⟩ : Addr).add j = ⟨g, j, none⟩ := by unfold Addr.add; split <;> simp_all
        rw [hadd]
        have hb2 : hw0.drew.heap[g]? = some (.cells cur 5 (0, 0)) := hb
        rw [← h5, List.getElem?_take] at hv
        split at hv
        · simp [World.cell?, hb2]; simpa using hv
        · cases hv
      have hr := Go.Lib.run_append_grow_zeros (P := P) hw0 t tn o.type 5 ti (.int .u8 0) .i64 kn ht.h htn.h hi hz (some ⟨g, 0, none⟩) xs.length c (bcells xs) hold mm (by omega) (by omega) (by omega) (by omega) (by rw [hi3]; omega) (growslice_fits (by omega) (by rw [hi3]; omega))
      have hge := grownCap_ge hw0 (xs.length + mm) c 5
      have hle := grownCap_le_maxLen hw0 (xs.length + mm) c 5 (by unfold maxLen; omega)
      have hd : St E M ([(g, Obj.cells cur 5 (0, 0))] ++ L2) hw0.drew := { hw' with }
      refine ⟨_, _, M, _, .inl ?_, (hd.fewer (L' := L2) (by simp)).alloc _, rfl, [_], rfl, hnew hw0 _ (bcells xs) rfl hge hle⟩
      simp [execOp, ho, resolve, invoke, builtin, ha.ev hx, ha.ev hy, hr]
/-- a nought's copy: nothing is copied -/
theorem hClear0 {x : Operand} {t e : TypeId} {a : Option Addr} {c : Nat} {sz by_ : Nat} {z : List Value} (hg : gd ops F o = some true)
    (ho : o.op = .call { callee := .builtin .clear, args := #[x], argTypes := #[t] }) (hx : ev F x = some (.slice a 0 c)) [ht : Und P t (.slice e)] [hl : Lay P e sz by_ z] :
    HF P ops N F E M L o (fun _ M' L'' => M = M' ∧ L'' = L) := hf_of hg fun ac w ha hw => by
  obtain ⟨ti, zv, hi, hi2, hi3, hz, hz2⟩ := hl.info
  refine ⟨.tuple #[], _, M, L, .inl ?_, hw, rfl, rfl⟩
  cases a <;> simp [execOp, ho, resolve, invoke, builtin, ha.ev hx, Builtin.clear_, run_underlying ht.h, zeroValue, typeInfo, hi, hz, Builtin.zeroCells, storeCells]
/-- clear of a part of a block of one's own, byte by byte -/
theorem hClearB {x : Operand} {t : TypeId} {g off n c : Nat} {cur : Array Value} {L2 : Lc} (hg : gd ops F o = some true)
    (ho : o.op = .call { callee := .builtin .clear, args := #[x], argTypes := #[t] }) (hx : ev F x = some (.slice (some ⟨g, off, none⟩) n c)) [ht : Und P t (.slice 5)] (hzz : (P.info? 5).bind (·.zero) = some (.int .u8 0))
    (h0 : 0 < n) (hfit : off + n ≤ cur.size) [hp : Rm g (.cells cur 5 (0, 0)) L L2] :
    HF P ops N F E M L o (fun _ M' L'' => M = M' ∧ L'' = (g, .cells (cur.toList.take off ++ List.replicate n (Value.int .u8 0) ++ cur.toList.drop (off + n)).toArray 5 (0, 0)) :: L2) := hf_of hg fun ac w ha hw => by
  have hw' := hw.perm hp.perm
  have hb : w.heap[g]? = some (.cells cur 5 (0, 0)) := (hw'.locs (g, .cells cur 5 (0, 0)) (by simp)).1
  have hst := run_storeCells_at P g off 5 (List.replicate n (Value.int .u8 0)) 0 cur w hb (by simp; omega) (fun v hv => by rw [(List.mem_replicate.1 hv).2]; rfl)
  simp only [Nat.add_zero, List.length_replicate] at hst
  obtain ⟨ti, hi, hz⟩ : ∃ ti, P.info? 5 = some ti ∧ ti.zero = some (.int .u8 0) := by
    cases hi : P.info? 5 with
    | none => rw [hi] at hzz; cases hzz
    | some ti => rw [hi] at hzz; exact ⟨ti, rfl, hzz⟩
  obtain ⟨k, rfl⟩ : ∃ k, n = k + 1 := ⟨n - 1, by omega⟩
  refine ⟨.tuple #[], _, M, _, .inl ?_, hw'.put ⟨⟨[], L2, rfl, rfl⟩⟩, rfl, rfl⟩
  simp [execOp, ho, resolve, invoke, builtin, ha.ev hx, Builtin.clear_, run_underlying ht.h, zeroValue, typeInfo, hi, hz, zeros_toList, hst]
/-- copy into bytes of one's own -/
theorem hCopyB {x y : Operand} {t u : TypeId} {g off dn dc : Nat} {sa : Option Addr} {sn sc : Nat} {cur : Array Value} {cs : List Value} {L2 : Lc} {by_ : Nat} {z : List Value} (hg : gd ops F o = some true)
    (ho : o.op = .call { callee := .builtin .copy, args := #[x, y], argTypes := #[t, u] }) (hx : ev F x = some (.slice (some ⟨g, off, none⟩) dn dc)) (hy : ev F y = some (.slice sa sn sc)) [ht : Und P t (.slice 5)] [hl : Lay P 5 1 by_ z]
    (hn : cs.length = sn) (hd : sn ≤ dn) (hcs : SM M sa cs) (h1 : ∀ v ∈ cs, v.oneCell' = true) (hfit : off + sn ≤ cur.size) [hp : Rm g (.cells cur 5 (0, 0)) L L2] :
    HF P ops N F E M L o (fun _ M' L'' => M = M' ∧ L'' = (g, .cells (cur.toList.take off ++ cs ++ cur.toList.drop (off + cs.length)).toArray 5 (0, 0)) :: L2) := by
  refine HF.weakL hp.perm (HF.imp (hCopy (l := cur.toList) (L' := (g, .cells (cur.toList.take off ++ cs ++ cur.toList.drop (off + cs.length)).toArray 5 (0, 0)) :: L2) hg ho hx hy (by omega) (hcs.sj _) h1 (at_ := ⟨List.Mem.head _⟩) (by rw [hn]; exact hfit) (hp := ⟨[], L2, rfl, rfl⟩)) fun _ _ _ ⟨_, h2, h3⟩ => ⟨h2, h3⟩)
end
/-- a call that reads blocks of one's own, and gives others -/
theorem SpecL.lendM {P : Program} {f : FuncId} {args : Array Value} {M : Mem} {R : Lc} {post : Value → Lc → Prop} (h : (R.map (·.1)).Nodup → (∀ p ∈ R, M p.1 = none) → SpecL P f args (addL M R) [] (fun v M' L' => M' = addL M R ∧ post v L')) : SpecL P f args M R (fun v M' L' => M' = M ∧ ∃ L1, L' = R ++ L1 ∧ post v L1) := by
  refine SpecL.mem fun hn hR => ?_
  have := SpecL.lend (L := []) h
  rw [List.append_nil] at this
  refine this.mono fun v M' L' ⟨M1, L1, ⟨hM1, hp⟩, hL, hM, _⟩ => ?_
  subst hM1
  refine ⟨?_, L1, hL, hp⟩
  rw [hM]; funext b
  unfold subL
  split
  · rename_i hb; obtain ⟨p, hp, rfl⟩ := List.mem_map.1 hb; exact (hR p hp).symm
  · rename_i hb; exact addL_off hb
theorem foc_pick {A L L2 R R' : Lc} [hp : Pick R L L2] (h : R.Perm (A ++ R')) : L.Perm (A ++ (R' ++ L2)) := by
  rw [← List.append_assoc]; exact hp.perm.trans (h.append_right _)
theorem foc_back {A L2 S R' : Lc} (h : S.Perm (A ++ R')) : (A ++ (R' ++ L2)).Perm (S ++ L2) := by
  rw [← List.append_assoc]; exact (h.symm.append_right _)
end Go.Proofs.YtdjaehgadehnfaaGreatDoor
