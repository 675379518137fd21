/- THE WALKING LAYER, fourth part: slices, calls. No statement of the seat is proved here. -/
import Derived.Test.YtdjaehgadehnfaaGreatDoorHc
namespace Go.Proofs.YtdjaehgadehnfaaGreatDoor
set_option linter.unusedVariables false
set_option linter.unusedSimpArgs false
open Go.RowKit

/-! ### a slice of one's own, to be appended to -/
/-- v has n elements, flat 'xs', at the head of the one block of R (or is nil, and R is empty). -/
def Own (v : Value) (R : Lc) (e : TypeId) (size n : Nat) (xs : List Value) : Prop :=
  xs.length = n * size ∧
  ((v = .slice none 0 0 ∧ n = 0 ∧ R = []) ∨
   ∃ g cap cur, v = .slice (some ⟨g, 0, none⟩) n cap ∧ R = [(g, .cells cur e (0, 0))] ∧ n ≤ cap ∧ cap ≤ maxLen ∧ cur.size = cap * size ∧ cur.toList.take (n * size) = xs)

theorem Own.nil (e : TypeId) (size : Nat) : Own (.slice none 0 0) [] e size 0 [] := ⟨by simp, .inl ⟨rfl, rfl, rfl⟩⟩

/-- A part of the caller's own, put in front. -/
class Pick (R : Lc) (L : Lc) (L2 : outParam Lc) : Prop where
  perm : L.Perm (R ++ L2)
instance (priority := high) Pick.head {R L : Lc} : Pick R (R ++ L) L := ⟨List.Perm.refl _⟩
instance Pick.self {R : Lc} : Pick R R [] := ⟨by simp⟩
instance Pick.nil {L : Lc} : Pick [] L L := ⟨List.Perm.refl _⟩
instance Pick.cons {R L L2 : Lc} {p : Nat × Obj} [h : Pick R L L2] : Pick R (p :: L) (p :: L2) := ⟨((List.Perm.cons p h.perm).trans (List.perm_middle.symm))⟩
instance Pick.app {R A L L2 : Lc} [h : Pick R L L2] : Pick R (A ++ L) (A ++ L2) := ⟨by
  have h1 := (List.Perm.append_left A h.perm)
  refine h1.trans ?_
  rw [← List.append_assoc, ← List.append_assoc]
  exact List.Perm.append_right _ List.perm_append_comm⟩
instance (priority := high) Pick.one {p : Nat × Obj} {L : Lc} : Pick [p] (p :: L) L := ⟨List.Perm.refl _⟩

section
variable {P : Program} {ops : Array Oper} {N : Fs} {F : Fr} {E : Ent} {M : Mem} {L : Lc} {o : Oper}

/-- in the world: 'ownsRow' of the kit -/
theorem Own.row {v : Value} {R L2 : Lc} {e : TypeId} {size n : Nat} {xs : List Value} (h : Own v R e size n xs) {w : World} (hw : St E M (R ++ L2) w) : w.ownsRow 0 e size v n xs := by
  refine ⟨h.1, ?_⟩
  rcases h.2 with ⟨rfl, rfl, _⟩ | ⟨g, cap, cur, rfl, rfl, h1, h2, h3, h4⟩
  · exact .inl ⟨rfl, rfl⟩
  · exact .inr ⟨g, cap, cur, rfl, Nat.zero_le _, (hw.locs (g, .cells cur e (0, 0)) (by simp)).1, h1, h2, h3, h4⟩

/-- Behind a law that ends in 'grownBy': the new row, the rest as it was. -/
theorem St.grown {v v' : Value} {R L2 : Lc} {e : TypeId} {size n n' : Nat} {xs xs' : List Value} {w w' : World} (hw : St E M (R ++ L2) w) (h : Own v R e size n xs) (h' : w'.ownsRow 0 e size v' n' xs') (hg : w.grownBy w' v.ownBlock)
    (hold : ∀ g, v'.ownBlock = some g → g < w.heap.size → v.ownBlock = some g) : ∃ R', Own v' R' e size n' xs' ∧ St E M (R' ++ L2) w' := by
  have hblk : ∀ g, v.ownBlock = some g → ∃ ob, R = [(g, ob)] := fun g hg => by
    rcases h.2 with ⟨rfl, rfl, _⟩ | ⟨g', cap, cur, rfl, rfl, _⟩
    · simp [Value.ownBlock] at hg
    · simp [Value.ownBlock] at hg; subst hg; exact ⟨_, rfl⟩
  have hR : ∀ p ∈ R, v.ownBlock = some p.1 := fun p hp => by
    rcases h.2 with ⟨rfl, rfl, rfl⟩ | ⟨g', cap, cur, rfl, rfl, _⟩
    · cases hp
    · rw [List.mem_singleton.1 hp]; rfl
  have keep : ∀ k, k < w.heap.size → v.ownBlock ≠ some k → w'.heap[k]? = w.heap[k]? := fun k hk hne => hg.block k hk (fun e => hne e.symm)
  have hnd := hw.nodup
  rw [List.map_append] at hnd
  have hnd2 := (List.nodup_append.1 hnd).2.1
  have hdis : ∀ p ∈ L2, v.ownBlock ≠ some p.1 := fun p hp he => by
    obtain ⟨ob, rfl⟩ := hblk p.1 he
    exact (List.nodup_append.1 hnd).2.2 p.1 (by simp) p.1 (List.mem_map.2 ⟨p, hp, rfl⟩) rfl
  have hloc : ∀ p ∈ L2, w'.heap[p.1]? = some p.2 ∧ (E.W.heap.size ≤ p.1 ∨ p.1 ∈ E.X) ∧ M p.1 = none := fun p hp => by
    have := hw.locs p (by simp [hp])
    exact ⟨by rw [keep p.1 (heap_lt this.1) (hdis p hp)]; exact this.1, this.2⟩
  have hag : ∀ b ob, M b = some ob → w'.heap[b]? = some ob := fun b ob hb => by
    have hb' := hw.agree b ob hb
    rw [keep b (heap_lt hb') (fun e => by
      obtain ⟨o2, hR2⟩ := hblk b e
      have := (hw.locs (b, o2) (by rw [hR2]; simp)).2.2
      rw [hb] at this; cases this)]
    exact hb'
  have hsame : ∀ k, k < E.W.heap.size → k ∉ E.X → w'.heap[k]? = E.W.heap[k]? := fun k hk hx => by
    rw [keep k (Nat.lt_of_lt_of_le hk hw.size) (fun e => by
      obtain ⟨o2, hR2⟩ := hblk k e
      have := (hw.locs (k, o2) (by rw [hR2]; simp)).2.1
      exact this.elim (fun h => by simp only at h; omega) hx)]
    exact hw.same k hk hx
  rcases h'.2 with ⟨rfl, rfl⟩ | ⟨g, cap, cur, rfl, _, hgg, h1, h2, h3, h4⟩
  · refine ⟨[], ⟨h'.1, .inl ⟨rfl, rfl, rfl⟩⟩, ?_⟩
    exact ⟨hg.os.trans hw.os, hg.tape.trans hw.tape, hg.output.trans hw.output, Nat.le_trans hw.size hg.size, hsame, hw.fresh, hag, fun p hp => hloc p (by simpa using hp), by simpa using hnd2⟩
  · refine ⟨[(g, .cells cur e (0, 0))], ⟨h'.1, .inr ⟨g, cap, cur, rfl, rfl, h1, h2, h3, h4⟩⟩, ?_⟩
    have hg2 : ∀ p ∈ L2, p.1 ≠ g := fun p hp he => by
      have h5 := heap_lt (hw.locs p (by simp [hp])).1
      exact hdis p hp (by rw [he]; exact hold g rfl (by omega))
    refine ⟨hg.os.trans hw.os, hg.tape.trans hw.tape, hg.output.trans hw.output, Nat.le_trans hw.size hg.size, hsame, hw.fresh, hag, fun p hp => ?_, ?_⟩
    · rcases List.mem_cons.1 hp with rfl | hp
      · refine ⟨hgg, ?_⟩
        by_cases hlt : g < w.heap.size
        · obtain ⟨o2, hR2⟩ := hblk g (hold g rfl hlt)
          exact (hw.locs (g, o2) (by rw [hR2]; simp)).2
        · refine ⟨.inl (Nat.le_trans hw.size (Nat.le_of_not_lt hlt)), ?_⟩
          cases hm : M g with
          | none => rfl
          | some x => exact absurd (heap_lt (hw.agree _ _ hm)) hlt
      · exact hloc p hp
    · simp only [List.cons_append, List.nil_append, List.map_cons]
      refine List.nodup_cons.2 ⟨fun hm => ?_, hnd2⟩
      obtain ⟨p, hp, he⟩ := List.mem_map.1 hm
      exact hg2 p hp he

/-- the cells of a slice that quiet operations see -/
def SJ (M : Mem) (L : Lc) (a : Option Addr) (news : List Value) : Prop := news = [] ∨ ∃ b off, a = some ⟨b, off, none⟩ ∧ ∀ i v, news[i]? = some v → CJ M L b (off + i) v

theorem HF.imp {K K' : Value → Mem → Lc → Prop} (h : HF P ops N F E M L o K) (hk : ∀ v M' L', K v M' L' → K' v M' L') : HF P ops N F E M L o K' := fun a w ha hw =>
  ⟨(h a w ha hw).1, fun Q => Oper.wpIn_mono (fun a' w' ⟨v, M', L', e, hs, hK⟩ => ⟨v, M', L', e, hs, hk v M' L' hK⟩) ((h a w ha hw).2 Q)⟩
/-- append of some cells to a slice of one's own -/
theorem hAppendN {x y : Operand} {t e : TypeId} {v : Value} {R L2 : Lc} {size bytes n m c : Nat} {z xs news : List Value} {ad : Addr} (hg : gd ops F o = some true)
    (ho : o.op = .call { callee := .builtin .append, args := #[x, y], argTypes := #[t, t] }) (hx : ev F x = some v) (hy : ev F y = some (.slice (some ad) m c)) [ht : Und P t (.slice e)] [hl : Lay P e size bytes z]
    (hown : Own v R e size n xs) [hp : Pick R L L2] (hl1 : news.length = m * size) (hnews : ∀ i v, news[i]? = some v → CJ M L ad.block (ad.off + i) v) (hspot : ad.spot = none) (hz0 : Nat.blt 0 size = true) (h1 : ∀ u ∈ news, u.oneCell' = true) (hbig : n + m ≤ 1000000000) (hby : bytes ≤ 100000) :
    HF P ops N F E M L o (fun v' M' L' => M = M' ∧ ∃ R', L' = R' ++ L2 ∧ Own v' R' e size (n + m) (xs ++ news) ∧ (v' = .slice none 0 0 ↔ v = .slice none 0 0 ∧ m = 0) ∧ ((∀ p ∈ R, E.W.heap.size ≤ p.1) → ∀ p ∈ R', E.W.heap.size ≤ p.1)) := hf_of hg fun a w ha hw => by
  obtain ⟨ti, zv, hi, hi2, hi3, hz, hz2⟩ := hl.info
  have hw' := hw.perm hp.perm
  have hown' := hown.row hw'
  have hadd : ∀ j, ad.add j = ⟨ad.block, ad.off + j, none⟩ := fun j => by
    obtain ⟨b, of, sp⟩ := ad; simp only at hspot; subst hspot; unfold Addr.add; split <;> simp_all
  have hsz : 0 < size := by simpa [Nat.blt_eq] using hz0
  obtain ⟨v', w', hr, h2, h3, h4⟩ := run_append_own (P := P) w 0 t o.type e ti zv size bytes ht.h hi hz hi2 hi3 (by rw [hz2]; simpa using hl.len) hsz v n xs hown' ad m c news hl1
    (fun j u hu => by rw [hadd]; exact (hnews j u hu).cell hw.js) h1 (by unfold maxLen; omega) (by
      have : (n + m) * bytes ≤ 1000000000 * 100000 := Nat.mul_le_mul hbig hby
      omega) (Nat.zero_le _)
  have hold : ∀ g, v'.ownBlock = some g → g < w.heap.size → v.ownBlock = some g := by
    intro g hg1 hlt
    have h63 : ((n + m : Nat) : Int) ≤ 9223372036854775807 := by omega
    have hby2 : (n + m) * bytes ≤ 140737488355328 := by
      have : (n + m) * bytes ≤ 1000000000 * 100000 := Nat.mul_le_mul hbig hby
      omega
    have hcell : ∀ j u, news[j]? = some u → w.cell? (ad.add j) = some u := fun j u hu => by rw [hadd]; exact (hnews j u hu).cell hw.js
    rcases hown'.2 with ⟨rfl, rfl⟩ | ⟨g0, cap, cur, rfl, _, hg0, hnc, hcm, hcs, htake⟩
    · by_cases hm : m = 0
      · have := h4.2 ⟨rfl, hm⟩; subst this; simp [Value.ownBlock] at hg1
      · have hr2 := run_append_nil (P := P) w t o.type e ti zv ht.h hi hz ad m c news (by rw [hi2]; exact hl1) hcell (by omega) (by omega) (by rw [hi3]; simp only [Nat.zero_add] at hby2; omega)
        rw [hr2] at hr; cases hr
        simp [Value.ownBlock] at hg1; omega
    · by_cases hroom : n + m ≤ cap
      · have hr2 := run_append_room (P := P) w t o.type e ti ht.h hi g0 n cap cur hg0 ad m c news (by rw [hi2]; exact hl1) hcell h1 hroom (by rw [hl1, hi2, hcs, ← Nat.add_mul]; exact Nat.mul_le_mul_right _ hroom)
        rw [hr2] at hr; cases hr
        simpa [Value.ownBlock] using hg1
      · have holds : ∀ j u, xs[j]? = some u → w.cell? ((⟨g0, 0, none⟩ : Addr).add j) = some u := hown'.cells (g := g0) rfl
        have hr2 := run_append_grow (P := P) w t o.type e ti zv ht.h hi hz ⟨g0, 0, none⟩ n cap xs (by rw [hi2]; exact hown'.1) holds ad m c news (by rw [hi2]; exact hl1) hcell (by omega) h63 (growslice_fits (by omega) (by rw [hi3]; exact hby2))
        rw [hr2] at hr; cases hr
        simp [Value.ownBlock] at hg1; omega
  obtain ⟨R', hR1, hR2⟩ := hw'.grown hown h2 h3 hold
  have hnew : (∀ p ∈ R, E.W.heap.size ≤ p.1) → ∀ p ∈ R', E.W.heap.size ≤ p.1 := fun hR p hp => by
    rcases hR1.2 with ⟨rfl, _, rfl⟩ | ⟨g, cap, cur, rfl, rfl, _⟩
    · cases hp
    · rw [List.mem_singleton.1 hp]
      by_cases hlt : g < w.heap.size
      · have hv := hold g rfl hlt
        rcases hown.2 with ⟨rfl, _, _⟩ | ⟨g2, cap2, cur2, rfl, rfl, _⟩
        · simp [Value.ownBlock] at hv
        · simp [Value.ownBlock] at hv; subst hv; exact hR (_, Obj.cells cur2 e (0, 0)) (List.mem_singleton.2 rfl)
      · exact Nat.le_trans hw'.size (Nat.le_of_not_lt hlt)
  refine ⟨v', w', M, R' ++ L2, .inl ?_, hR2, rfl, R', rfl, hR1, h4, hnew⟩
  simp [execOp, ho, resolve, invoke, builtin, ha.ev hx, ha.ev hy, hr]
/-- append of some cells to a slice of one's own -/
theorem hAppend {x y : Operand} {t e : TypeId} {v : Value} {R L2 : Lc} {size bytes n m c : Nat} {z xs news : List Value} {ad : Addr} (hg : gd ops F o = some true)
    (ho : o.op = .call { callee := .builtin .append, args := #[x, y], argTypes := #[t, t] }) (hx : ev F x = some v) (hy : ev F y = some (.slice (some ad) m c)) [ht : Und P t (.slice e)] [hl : Lay P e size bytes z]
    (hown : Own v R e size n xs) [hp : Pick R L L2] (hl1 : news.length = m * size) (hnews : ∀ i v, news[i]? = some v → CJ M L ad.block (ad.off + i) v) (hspot : ad.spot = none) (hz0 : Nat.blt 0 size = true) (h1 : ∀ u ∈ news, u.oneCell' = true) (hbig : n + m ≤ 1000000000) (hby : bytes ≤ 100000) :
    HF P ops N F E M L o (fun v' M' L' => M = M' ∧ ∃ R', L' = R' ++ L2 ∧ Own v' R' e size (n + m) (xs ++ news) ∧ (v' = .slice none 0 0 ↔ v = .slice none 0 0 ∧ m = 0)) :=
  HF.imp (hAppendN hg ho hx hy hown hl1 hnews hspot hz0 h1 hbig hby) fun v' M' L' ⟨e1, R', e2, e3, e4, _⟩ => ⟨e1, R', e2, e3, e4⟩
/-- append of nothing -/
theorem hAppend0 {x y : Operand} {t e : TypeId} {v : Value} {R : Lc} {size bytes n c : Nat} {z xs : List Value} {ya : Option Addr} (hg : gd ops F o = some true)
    (ho : o.op = .call { callee := .builtin .append, args := #[x, y], argTypes := #[t, t] }) (hx : ev F x = some v) (hy : ev F y = some (.slice ya 0 c)) [ht : Und P t (.slice e)] [hl : Lay P e size bytes z]
    (hown : Own v R e size n xs) : HF P ops N F E M L o (fun v' M' L' => M = M' ∧ L' = L ∧ v' = v) := hf_of hg fun a w ha hw => by
  obtain ⟨ti, zv, hi, hi2, hi3, hz, hz2⟩ := hl.info
  refine ⟨v, w, M, L, .inl ?_, hw, rfl, rfl, rfl⟩
  have hfc : ∀ w : World, (Builtin.firstCells ti.size 0 (.slice ya 0 c)).run P w = .ok #[] w := fun w => by
    cases ya <;> simp [Builtin.firstCells, loadCells, loadCellsFrom]
  rcases hown.2 with ⟨rfl, rfl, _⟩ | ⟨g, cap, cur, rfl, rfl, h1, h2, h3, h4⟩
  · simp [execOp, ho, resolve, invoke, builtin, ha.ev hx, ha.ev hy, Builtin.append_, run_underlying ht.h, sizeOf, typeInfo, hi, Builtin.lenOf, hfc]
  · simp [execOp, ho, resolve, invoke, builtin, ha.ev hx, ha.ev hy, Builtin.append_, run_underlying ht.h, sizeOf, typeInfo, hi, Builtin.lenOf, hfc, h1, storeCells]

/-! ### calls -/
def isGo (P : Program) (f : FuncId) : Bool := match P.funcs[f]? with
  | some fn => !(fn.name == "runtime.NumGoroutine") && fn.body.isSome
  | none => false

theorem run_callFunc {f : FuncId} (h : isGo P f = true) (args : Array Value) (w : World) : (callFunc f args).run P w = .ok (.enter f args) w := by
  unfold isGo at h
  split at h
  · rename_i fn hf
    simp only [Bool.and_eq_true, Bool.not_eq_true'] at h
    have hn : fn.name ≠ "runtime.NumGoroutine" := by simpa using h.1
    have hb : fn.body ≠ none := fun e => by simp [e] at h
    simp [callFunc, hf, hn, hb]
  · cases h

theorem run_callOp {x : Operand} {xs : List Operand} {T : Array TypeId} {f : FuncId} {first captured vs all : List Value} {a : Act} (ho : o.op = .call { callee := .value x, args := xs.toArray, argTypes := T }) (ha : Has N F a) (hx : ev F x = some (.func (.func f) first.toArray captured.toArray)) (hv : evs F xs = some vs)
    (hall : first ++ vs ++ captured = all) (hgo : isGo P f = true) (w : World) : (execOp a.eval o).run P w = .ok (.enter f all.toArray) w := by
  have h1 := ha.evs hv
  have h2 : xs.toArray.map a.eval = vs.toArray := by rw [← h1]; simp
  subst hall
  simp [execOp, ho, resolve, h2, ha.ev hx, Deferred.ofValue, invoke, run_callFunc hgo]

/-- a callee is entered -/
theorem St.into {R L2 : Lc} {w : World} (hw' : St E M (R ++ L2) w) : St ⟨w, R.map (·.1), M⟩ M R w :=
  { os := rfl, tape := rfl, output := rfl, size := Nat.le_refl _, same := fun _ _ _ => rfl, fresh := fun _ _ => rfl, agree := hw'.agree
    locs := fun p hp => ⟨(hw'.locs p (by simp [hp])).1, .inr (List.mem_map.2 ⟨p, hp, rfl⟩), (hw'.locs p (by simp [hp])).2.2⟩
    nodup := by have := hw'.nodup; rw [List.map_append] at this; exact (List.nodup_append.1 this).1 }
/-- .. and is left -/
theorem St.back {R L2 R' : Lc} {w w' : World} {M' : Mem} (hw' : St E M (R ++ L2) w) (h : St ⟨w, R.map (·.1), M⟩ M' R' w') : St E M' (R' ++ L2) w' ∧ MLe M M' := by
    have hnd := hw'.nodup
    rw [List.map_append] at hnd
    have hX : ∀ k ∈ R.map (·.1), E.W.heap.size ≤ k ∨ k ∈ E.X := fun k hk => by
      obtain ⟨p, hp, rfl⟩ := List.mem_map.1 hk
      exact (hw'.locs p (by simp [hp])).2.1
    have hL2 : ∀ p ∈ L2, p.1 < w.heap.size ∧ p.1 ∉ R.map (·.1) := fun p hp =>
      ⟨heap_lt (hw'.locs p (by simp [hp])).1, fun hm => (List.nodup_append.1 hnd).2.2 p.1 hm p.1 (List.mem_map.2 ⟨p, hp, rfl⟩) rfl⟩
    have hR' : ∀ p ∈ R', w.heap.size ≤ p.1 ∨ p.1 ∈ R.map (·.1) := fun p hp => (h.locs p hp).2.1
    refine ⟨?_, fun b ob hb => ?_⟩
    · exact
        { os := h.os.trans hw'.os, tape := h.tape.trans hw'.tape, output := h.output.trans hw'.output, size := Nat.le_trans hw'.size h.size
          same := fun k hk hx => (h.same k (Nat.lt_of_lt_of_le hk hw'.size) (fun hm => (hX k hm).elim (fun h => by omega) hx)).trans (hw'.same k hk hx)
          fresh := fun k hk => (h.fresh k (Nat.lt_of_lt_of_le hk hw'.size)).trans (hw'.fresh k hk)
          agree := h.agree
          locs := fun p hp => by
            rcases List.mem_append.1 hp with hp | hp
            · refine ⟨(h.locs p hp).1, ?_, (h.locs p hp).2.2⟩
              rcases hR' p hp with h1 | h1
              · exact .inl (Nat.le_trans hw'.size h1)
              · exact hX _ h1
            · obtain ⟨h1, h2⟩ := hL2 p hp
              have h3 := hw'.locs p (by simp [hp])
              exact ⟨by rw [h.same p.1 h1 h2]; exact h3.1, h3.2.1, by rw [h.fresh p.1 h1]; exact h3.2.2⟩
          nodup := by
            rw [List.map_append]
            refine List.nodup_append.2 ⟨h.nodup, (List.nodup_append.1 hnd).2.1, fun a ha b hb hab => ?_⟩
            obtain ⟨p, hp, rfl⟩ := List.mem_map.1 ha
            obtain ⟨q, hq, rfl⟩ := List.mem_map.1 hb
            obtain ⟨h1, h2⟩ := hL2 q hq
            rcases hR' p hp with h3 | h3
            · omega
            · rw [hab] at h3; exact h2 h3 }
    · rw [h.fresh b (heap_lt (hw'.agree b ob hb))]; exact hb

/-- a call, by its contract; R: what of the caller's own it is handed -/
theorem hCallN {x : Operand} {xs : List Operand} {T : Array TypeId} {f : FuncId} {first captured vs all : List Value} {R L2 : Lc} {post : Value → Mem → Lc → Prop} (hg : gd ops F o = some true)
    (ho : o.op = .call { callee := .value x, args := xs.toArray, argTypes := T }) (hx : ev F x = some (.func (.func f) first.toArray captured.toArray)) (hv : evs F xs = some vs) (hall : first ++ vs ++ captured = all) (hgo : isGo P f = true)
    (hs : SpecL P f all.toArray M R post) [hp : Pick R L L2] : HF P ops N F E M L o (fun v M' L' => MLe M M' ∧ ∃ R', L' = R' ++ L2 ∧ post v M' R' ∧ ∀ p ∈ R', p.1 ∈ R.map (·.1) ∨ E.W.heap.size ≤ p.1) := fun a w ha hw =>
  ⟨gd_spec ha hg, fun Q => by
    have hw' := hw.perm hp.perm
    refine ⟨fun _ _ => trivial, ?_⟩
    rw [Oper.semAt_eq _ _ _ (fun c hc => by rw [ho] at hc; cases hc), run_callOp ho ha hx hv hall hgo w]
    refine ⟨wide_depth _ _, calls_in _ _ ((hs w hw'.into).mono fun e w' hh => ?_)⟩
    obtain ⟨v, M', R', rfl, hpost, h⟩ := hh
    obtain ⟨h1, h2⟩ := hw'.back h
    exact ⟨v, M', R' ++ L2, rfl, h1, h2, R', rfl, hpost, fun p hp => (h.locs p hp).2.1.symm.imp id (Nat.le_trans hw'.size)⟩⟩

/-- a call, by its contract; R: what of the caller's own it is handed -/
theorem hCall {x : Operand} {xs : List Operand} {T : Array TypeId} {f : FuncId} {first captured vs all : List Value} {R L2 : Lc} {post : Value → Mem → Lc → Prop} (hg : gd ops F o = some true)
    (ho : o.op = .call { callee := .value x, args := xs.toArray, argTypes := T }) (hx : ev F x = some (.func (.func f) first.toArray captured.toArray)) (hv : evs F xs = some vs) (hall : first ++ vs ++ captured = all) (hgo : isGo P f = true)
    (hs : SpecL P f all.toArray M R post) [hp : Pick R L L2] : HF P ops N F E M L o (fun v M' L' => MLe M M' ∧ ∃ R', L' = R' ++ L2 ∧ post v M' R') :=
  HF.imp (hCallN hg ho hx hv hall hgo hs) fun v M' L' ⟨e1, R', e2, e3, _⟩ => ⟨e1, R', e2, e3⟩

/-- a call that tells one value -/
theorem qCall {x : Operand} {xs : List Operand} {T : Array TypeId} {f : FuncId} {first captured vs all : List Value} {v : Value} (hg : gd ops F o = some true)
    (ho : o.op = .call { callee := .value x, args := xs.toArray, argTypes := T }) (hx : ev F x = some (.func (.func f) first.toArray captured.toArray)) (hv : evs F xs = some vs) (hall : first ++ vs ++ captured = all) (hgo : isGo P f = true)
    (hs : SpecL P f all.toArray M [] (fun u _ _ => u = v)) : QF P ops N F M L o v := fun a ha =>
  .inl ⟨gd_spec ha hg, fun w hw => by
    have hin : St ⟨w, ([] : Lc).map (·.1), M⟩ M [] w :=
      { os := rfl, tape := rfl, output := rfl, size := Nat.le_refl _, same := fun _ _ _ => rfl, fresh := fun _ _ => rfl, agree := hw.agree
        locs := fun p hp => by cases hp
        nodup := by simp }
    rw [run_callOp ho ha hx hv hall hgo w]
    refine ⟨Below.refl _ _, (hs w hin).mono fun e w' hh => ?_⟩
    obtain ⟨u, M', R', rfl, rfl, h⟩ := hh
    exact ⟨rfl, ⟨h.os, h.tape, h.output, h.size, fun k hk => h.same k hk (by simp)⟩⟩⟩
end
end Go.Proofs.YtdjaehgadehnfaaGreatDoor
