/- What every call keeps. No statement of the seat is proved here. -/
import Derived.Test.YtdjaehgadehnfaaGreatDoorHp
import Derived.Test.YtdjaehgadehnfaaGreatDoorCtq
namespace Go.Proofs.YtdjaehgadehnfaaGreatDoor
set_option linter.unusedVariables false
set_option linter.unusedSimpArgs false
open Go.RowKit

theorem WFS.put {n : Nat} {S : PS} {vol : Int} {v v' : PV} (h : WFS n S) (hv : getA vol S.vols = some v) (h' : WFV (n + 1) v') : WFS (n + 1) { S with vols := putA vol v' S.vols } := by
  refine ⟨?_, h.low, by have := h.most; simp only; omega, fun k u hk => ?_, fun k u hk => ?_⟩
  · simp only; rw [keysA_put, if_pos (List.mem_map.2 ⟨_, getA_mem hv, rfl⟩)]; exact h.nd
  · simp only at hk ⊢
    rw [getA_put] at hk
    split at hk
    · rename_i e; rw [e]; exact h.rng _ _ hv
    · exact h.rng k u hk
  · simp only at hk
    rw [getA_put] at hk
    split at hk
    · cases hk; exact h'
    · exact (h.vol k u hk).more (Nat.le_succ n)
theorem WFS.updVF {n : Nat} {S : PS} {vol : Int} {v : PV} {f : Fls → Fls} (h : WFS n S) (hv : getA vol S.vols = some v) (h' : WFV (n + 1) { v with files := f v.files }) : WFS (n + 1) (updVF S vol f) := by
  unfold Go.Proofs.YtdjaehgadehnfaaGreatDoor.updVF updV; rw [hv]; exact h.put hv h'
theorem WFV.turn {n : Nat} {v : PV} {fs : Fls} (h : WFV n v) (hf : WFF fs) (hr : ∀ d x, getA d fs = some x → ∃ x0, getA d v.files = some x0 ∧ 0 ≤ x.links ∧ x.links ≤ x0.links + 1) (hz : ∀ d x q, getA d fs = some x → q ∈ x.names → q.1.size ≤ 64) : WFV (n + 1) { v with files := fs } :=
  ⟨hf, h.two, by have := h.most; simp only; omega, fun d x hd => by
    obtain ⟨x0, h1, h2, h3⟩ := hr d x hd
    have := h.rng d x0 h1
    exact ⟨this.1, this.2.1, h2, by omega⟩, hz⟩
theorem nmPut_back {fs : Fls} {d k : Int} {s : Str} {e : Int} {z : PF} (he : getA e (nmPut fs d s k) = some z) : ∃ z0, getA e fs = some z0 ∧ z.dir = z0.dir ∧ z.data = z0.data ∧ z.links = z0.links ∧ (z.names = z0.names ∨ e = d ∧ z.names = putA s k z0.names) := by
  unfold nmPut at he
  rw [getA_upd] at he
  split at he
  · rename_i ed
    cases hx : getA e fs with
    | none => rw [hx] at he; cases he
    | some x => rw [hx] at he; cases he; exact ⟨x, rfl, rfl, rfl, rfl, .inr ⟨ed, rfl⟩⟩
  · exact ⟨z, he, rfl, rfl, rfl, .inl rfl⟩
theorem lnk_back {fs : Fls} {id n : Int} {e : Int} {z : PF} (he : getA e (lnk fs id n) = some z) : ∃ z0, getA e fs = some z0 ∧ z.dir = z0.dir ∧ z.data = z0.data ∧ z.names = z0.names ∧ z.links = z0.links + if e = id then n else 0 := by
  unfold lnk at he
  rw [getA_upd] at he
  split at he
  · rename_i ed
    cases hx : getA e fs with
    | none => rw [hx] at he; cases he
    | some x => rw [hx] at he; cases he; exact ⟨x, rfl, rfl, rfl, rfl, by rw [if_pos ed]⟩
  · rename_i ed; exact ⟨z, he, rfl, rfl, rfl, by rw [if_neg ed]; omega⟩
theorem mem_putG {α : Type} {l : List (Str × α)} {k : Str} {v : α} : ∀ p ∈ putA k v l, p = (k, v) ∨ p ∈ l := by
  induction l with
  | nil => intro p hp; rw [putA, List.mem_singleton] at hp; exact .inl hp
  | cons q l ih =>
    intro p hp
    rw [putA] at hp
    split at hp
    · rcases List.mem_cons.1 hp with h | h
      · exact .inl h
      · exact .inr (List.mem_cons_of_mem _ h)
    · rcases List.mem_cons.1 hp with h | h
      · exact .inr (by rw [h]; exact List.mem_cons_self ..)
      · exact (ih p h).imp id (List.mem_cons_of_mem _)
theorem needOf_eq {id : Int} {x y : PF} (h1 : x.dir = y.dir) (h2 : x.links = y.links) : needOf id x = needOf id y := by unfold needOf; rw [h1, h2]

/-- bytes of a file are turned -/
theorem WFV.data {n : Nat} {v : PV} (h : WFV n v) {id : Int} {g : List By → List By} (hg : ∀ x, getA id v.files = some x → (g x.data).length ≤ 4096) : WFV (n + 1) { v with files := updF v.files id fun x => { x with data := g x.data } } := by
  have back : ∀ e z, getA e (updF v.files id fun x => { x with data := g x.data }) = some z → ∃ z0, getA e v.files = some z0 ∧ z.dir = z0.dir ∧ z.names = z0.names ∧ z.links = z0.links := fun e z he => by
    rw [getA_upd] at he
    split at he
    · cases hx : getA e v.files with
      | none => rw [hx] at he; cases he
      | some x => rw [hx] at he; cases he; exact ⟨x, rfl, rfl, rfl, rfl⟩
    · exact ⟨z, he, rfl, rfl, rfl⟩
  refine h.turn ⟨h.wf.toWFB.upd (fun _ => rfl) (fun _ => rfl) hg, fun d x hd => ?_, fun d x hd hx => ?_⟩ (fun d x hd => ?_) fun d x q hd hq => ?_
  · obtain ⟨z0, a1, a2, a3, a4⟩ := back d x hd
    rw [refs_same (f := fun x => { x with data := g x.data }) (fun _ => rfl), h.wf.need d z0 a1, needOf_eq a2 a4]
  · obtain ⟨z0, a1, a2, a3, a4⟩ := back d x hd
    rw [a4]; exact h.wf.pos d z0 a1 (by rw [← a2]; exact hx)
  · obtain ⟨z0, a1, a2, a3, a4⟩ := back d x hd
    have := h.rng d z0 a1
    exact ⟨z0, a1, by omega, by omega⟩
  · obtain ⟨z0, a1, a2, a3, a4⟩ := back d x hd
    rw [a3] at hq; exact h.nmz d z0 q a1 hq
/-- a file or directory comes -/
theorem Ins.leafN {fs : Fls} {t d : Int} {x : PF} (hx : getA d fs = some x) (h0 : x.names = []) (h : Ins fs t d) : t = d := by
  cases h with
  | here => rfl
  | down h1 h2 => rw [hx] at h1; cases h1; rw [h0] at h2; cases h2
theorem WFV.make {n : Nat} {v : PV} (h : WFV n v) {d : Int} {xd : PF} {s : Str} (dir : Bool) (hd : getA d v.files = some xd) (hdir : xd.dir = true) (hs : getA s xd.names = none) (hlen : xd.names.length < 32) (hsz : s.size ≤ 64) :
    WFV (n + 1) { v with next := v.next + 1, files := nmPut (v.files ++ [(v.next, { dir := dir, links := 1, data := [], names := [] })]) d s v.next } := by
  have hnx : getA v.next v.files = none := by
    cases hx : getA v.next v.files with
    | none => rfl
    | some x => have := (h.rng _ _ hx).2.1; omega
  have get : ∀ e, getA e (v.files ++ [(v.next, ({ dir := dir, links := 1, data := [], names := [] } : PF))]) = if e = v.next then some { dir := dir, links := 1, data := [], names := [] } else getA e v.files := fun e => by
    rw [← putA_new (getA_none.1 hnx), getA_put]
  have hdn : d ≠ v.next := fun e => by rw [e, hnx] at hd; cases hd
  have hd2 : getA d (v.files ++ [(v.next, ({ dir := dir, links := 1, data := [], names := [] } : PF))]) = some xd := by rw [get, if_neg hdn]; exact hd
  have hk2 : getA v.next (v.files ++ [(v.next, ({ dir := dir, links := 1, data := [], names := [] } : PF))]) = some { dir := dir, links := 1, data := [], names := [] } := by rw [get, if_pos rfl]
  have hB := (h.wf.toWFB.come (id := v.next) (x := { dir := dir, links := 1, data := [], names := [] }) hnx rfl rfl).put hd2 hdir hs hk2 (fun _ hi => hdn (hi.leafN hk2 rfl)) hlen
  have back : ∀ e z, getA e (nmPut (v.files ++ [(v.next, ({ dir := dir, links := 1, data := [], names := [] } : PF))]) d s v.next) = some z → (e = v.next ∧ z.dir = dir ∧ z.links = 1 ∧ z.names = []) ∨ (e ≠ v.next ∧ ∃ z0, getA e v.files = some z0 ∧ z.dir = z0.dir ∧ z.links = z0.links ∧ (z.names = z0.names ∨ e = d ∧ z.names = putA s v.next z0.names)) := fun e z he => by
    obtain ⟨z0, a1, a2, a3, a4, a5⟩ := nmPut_back he
    rw [get] at a1
    split at a1
    · rename_i e1
      cases a1
      refine .inl ⟨e1, a2, a4, ?_⟩
      rcases a5 with a5 | ⟨a5, _⟩
      · exact a5
      · exact absurd (a5.symm.trans e1) hdn
    · rename_i e1; exact .inr ⟨e1, z0, a1, a2, a4, a5⟩
  have href : ∀ m, refs m (nmPut (v.files ++ [(v.next, ({ dir := dir, links := 1, data := [], names := [] } : PF))]) d s v.next) = refs m v.files + if m = v.next then 1 else 0 := fun m => by
    rw [refs_nmPut hd2 hs, refs_come rfl]
  have h2 := h.two
  refine ⟨⟨hB, fun e z he => ?_, fun e z he hz => ?_⟩, by simp only; omega, by have := h.most; simp only; omega, fun e z he => ?_, fun e z q he hq => ?_⟩
  · rw [href]
    rcases back e z he with ⟨rfl, b1, b2, b3⟩ | ⟨b0, z0, b1, b2, b3, b4⟩
    · rw [h.wf.toWFB.fresh hnx, if_pos rfl]
      unfold needOf; rw [if_neg (by omega), b1, b2]; cases dir <;> rfl
    · rw [if_neg b0, Nat.add_zero, h.wf.need e z0 b1, needOf_eq b2 b3]
  · rcases back e z he with ⟨rfl, b1, b2, b3⟩ | ⟨b0, z0, b1, b2, b3, b4⟩
    · omega
    · rw [b3]; exact h.wf.pos e z0 b1 (by rw [← b2]; exact hz)
  · rcases back e z he with ⟨rfl, b1, b2, b3⟩ | ⟨b0, z0, b1, b2, b3, b4⟩
    · refine ⟨by omega, by simp only; omega, by omega, by omega⟩
    · have := h.rng e z0 b1
      refine ⟨this.1, by simp only; omega, by omega, by omega⟩
  · rcases back e z he with ⟨rfl, b1, b2, b3⟩ | ⟨b0, z0, b1, b2, b3, b4⟩
    · rw [b3] at hq; cases hq
    · rcases b4 with b4 | ⟨_, b4⟩
      · rw [b4] at hq; exact h.nmz e z0 q b1 hq
      · rw [b4] at hq
        rcases mem_putG q hq with rfl | hq
        · exact hsz
        · exact h.nmz e z0 q b1 hq
/-- a link more -/
theorem WFV.link {n : Nat} {v : PV} (h : WFV n v) {d id : Int} {xd x : PF} {s : Str} (hd : getA d v.files = some xd) (hdir : xd.dir = true) (hs : getA s xd.names = none) (hlen : xd.names.length < 32) (hsz : s.size ≤ 64) (hx : getA id v.files = some x) (hxd : x.dir = false) :
    WFV (n + 1) { v with files := lnk (nmPut v.files d s id) id 1 } := by
  have hB := h.wf.toWFB.put hd hdir hs hx (fun e => by rw [hxd] at e; cases e) hlen
  have hroot : id ≠ 1 := fun e => by
    obtain ⟨r, hr, hrd⟩ := h.wf.root
    rw [e, hr] at hx; cases hx; rw [hrd] at hxd; cases hxd
  have back : ∀ e z, getA e (lnk (nmPut v.files d s id) id 1) = some z → ∃ z0, getA e v.files = some z0 ∧ z.dir = z0.dir ∧ z.data = z0.data ∧ (z.links = z0.links + if e = id then 1 else 0) ∧ (z.names = z0.names ∨ e = d ∧ z.names = putA s id z0.names) := fun e z he => by
    obtain ⟨z1, a1, a2, a3, a4, a5⟩ := lnk_back he
    obtain ⟨z0, b1, b2, b3, b4, b5⟩ := nmPut_back a1
    exact ⟨z0, b1, a2.trans b2, a3.trans b3, by rw [a5, b4], by rw [a4]; exact b5⟩
  have hB2 : WFB (lnk (nmPut v.files d s id) id 1) := hB.upd (fun _ => rfl) (fun _ => rfl) (fun y hy => (hB.len id y hy).1)
  have href : ∀ m, refs m (lnk (nmPut v.files d s id) id 1) = refs m v.files + if m = id then 1 else 0 := fun m => by
    unfold lnk; rw [refs_same (f := fun x => { x with links := x.links + 1 }) (fun _ => rfl), refs_nmPut hd hs]
  refine h.turn ⟨hB2, fun e z he => ?_, fun e z he hz => ?_⟩ (fun e z he => ?_) fun e z q he hq => ?_
  · obtain ⟨z0, b1, b2, b3, b4, b5⟩ := back e z he
    have hn := h.wf.need e z0 b1
    rw [href]
    by_cases e1 : e = id
    · subst e1
      rw [hx] at b1; cases b1
      rw [if_pos rfl] at b4 ⊢
      unfold needOf at hn ⊢
      rw [if_neg hroot] at hn ⊢
      rw [b2, hxd]; rw [hxd] at hn
      simp only [Bool.false_eq_true, if_false] at hn ⊢
      omega
    · rw [if_neg e1] at b4 ⊢
      rw [Nat.add_zero, hn, needOf_eq b2 (by omega)]
  · obtain ⟨z0, b1, b2, b3, b4, b5⟩ := back e z he
    have := h.wf.pos e z0 b1 (by rw [← b2]; exact hz)
    split at b4 <;> omega
  · obtain ⟨z0, b1, b2, b3, b4, b5⟩ := back e z he
    have := h.rng e z0 b1
    exact ⟨z0, b1, by split at b4 <;> omega, by split at b4 <;> omega⟩
  · obtain ⟨z0, b1, b2, b3, b4, b5⟩ := back e z he
    rcases b5 with b5 | ⟨_, b5⟩
    · rw [b5] at hq; exact h.nmz e z0 q b1 hq
    · rw [b5] at hq
      rcases mem_putG q hq with rfl | hq
      · exact hsz
      · exact h.nmz e z0 q b1 hq
theorem names_del_mem {s : Str} {l : List (Str × Int)} {q : Str × Int} (h : q ∈ delA s l) : q ∈ l := (List.mem_filter.1 h).1
/-- a link less -/
theorem WFV.unlink {n : Nat} {v : PV} (h : WFV n v) {d id : Int} {xd x : PF} {s : Str} (hd : getA d v.files = some xd) (hs : getA s xd.names = some id) (hx : getA id v.files = some x) (hxd : x.dir = false) :
    WFV (n + 1) { v with files := dropLink (nmDel v.files d s) id } := by
  have hB := h.wf.toWFB.del (d := d) (s := s)
  have hroot : id ≠ 1 := fun e => by
    obtain ⟨r, hr, hrd⟩ := h.wf.root
    rw [e, hr] at hx; cases hx; rw [hrd] at hxd; cases hxd
  have href0 : ∀ m, refs m (lnk (nmDel v.files d s) id (-1)) + (if m = id then 1 else 0) = refs m v.files := fun m => by
    unfold lnk; rw [refs_same (f := fun x => { x with links := x.links + -1 }) (fun _ => rfl)]; exact refs_nmDel h.wf.toWFB hd hs
  have hB2 : WFB (lnk (nmDel v.files d s) id (-1)) := hB.upd (fun _ => rfl) (fun _ => rfl) (fun y hy => (hB.len id y hy).1)
  have back0 : ∀ e z, getA e (lnk (nmDel v.files d s) id (-1)) = some z → ∃ z0, getA e v.files = some z0 ∧ z.dir = z0.dir ∧ z.data = z0.data ∧ (z.links = z0.links + if e = id then -1 else 0) ∧ (∀ q ∈ z.names, q ∈ z0.names) := fun e z he => by
    obtain ⟨z1, a1, a2, a3, a4, a5⟩ := lnk_back he
    obtain ⟨z0, b1, b2, b3, b4, b5⟩ := nmDel_back a1
    refine ⟨z0, b1, a2.trans b2, a3.trans b3, by rw [a5, b4], fun q hq => ?_⟩
    rw [a4] at hq
    rcases b5 with ⟨_, b5⟩ | ⟨_, b5⟩
    · rw [b5] at hq; exact hq
    · rw [b5] at hq; exact names_del_mem hq
  obtain ⟨x1, hx1, c1, c2, c3, c4⟩ := nmDel_fwd (d := d) (s := s) hx
  have hlk : linksAt (nmDel v.files d s) id = x.links := by unfold linksAt; rw [hx1]; exact c2
  have hne := h.wf.need id x hx
  have hpos := h.wf.pos id x hx hxd
  have hneed : (refs id v.files : Int) = x.links := by
    rw [hne]; unfold needOf; rw [if_neg hroot, hxd]; rfl
  have hrid := href0 id
  rw [if_pos rfl] at hrid
  obtain ⟨x2, hx2, hx2l⟩ : ∃ x2, getA id (lnk (nmDel v.files d s) id (-1)) = some x2 ∧ x2.names = [] := by
    refine ⟨{ x1 with links := x1.links + -1 }, by unfold lnk; rw [getA_upd, if_pos rfl, hx1]; rfl, ?_⟩
    have := h.wf.leaf id x hx hxd
    show x1.names = []
    rw [c4]
    split <;> rw [this]
    rfl
  unfold dropLink
  rw [hlk]
  by_cases hz : x.links - 1 = 0
  · rw [if_pos hz]
    have hr0 : refs id (lnk (nmDel v.files d s) id (-1)) = 0 := by omega
    have back : ∀ e z, getA e (delA id (lnk (nmDel v.files d s) id (-1))) = some z → e ≠ id ∧ getA e (lnk (nmDel v.files d s) id (-1)) = some z := fun e z he => by
      rw [getA_del] at he
      split at he
      · cases he
      · rename_i h; exact ⟨h, he⟩
    have href : ∀ m, refs m (delA id (lnk (nmDel v.files d s) id (-1))) = refs m (lnk (nmDel v.files d s) id (-1)) := fun m => by
      have := refs_del (k := m) hB2.nd hx2
      rw [hx2l] at this
      have e0 : cntN m ([] : List (Str × Int)) = 0 := rfl
      omega
    refine h.turn ⟨hB2.gone hx2 hroot hr0, fun e z he => ?_, fun e z he hz2 => ?_⟩ (fun e z he => ?_) fun e z q he hq => ?_
    · obtain ⟨g1, g2⟩ := back e z he
      obtain ⟨z0, b1, b2, b3, b4, b5⟩ := back0 e z g2
      have h1 := href0 e
      rw [if_neg g1] at h1 b4
      rw [href, show refs e (lnk (nmDel v.files d s) id (-1)) = refs e v.files by omega, h.wf.need e z0 b1, needOf_eq b2 (by omega)]
    · obtain ⟨g1, g2⟩ := back e z he
      obtain ⟨z0, b1, b2, b3, b4, b5⟩ := back0 e z g2
      rw [if_neg g1] at b4
      have := h.wf.pos e z0 b1 (by rw [← b2]; exact hz2)
      omega
    · obtain ⟨g1, g2⟩ := back e z he
      obtain ⟨z0, b1, b2, b3, b4, b5⟩ := back0 e z g2
      rw [if_neg g1] at b4
      have := h.rng e z0 b1
      exact ⟨z0, b1, by omega, by omega⟩
    · obtain ⟨g1, g2⟩ := back e z he
      obtain ⟨z0, b1, b2, b3, b4, b5⟩ := back0 e z g2
      exact h.nmz e z0 q b1 (b5 q hq)
  · rw [if_neg hz]
    refine h.turn ⟨hB2, fun e z he => ?_, fun e z he hz2 => ?_⟩ (fun e z he => ?_) fun e z q he hq => ?_
    · obtain ⟨z0, b1, b2, b3, b4, b5⟩ := back0 e z he
      have h1 := href0 e
      have hn := h.wf.need e z0 b1
      by_cases e1 : e = id
      · subst e1
        rw [hx] at b1; cases b1
        rw [if_pos rfl] at h1 b4
        unfold needOf
        rw [if_neg hroot, b2, hxd]
        simp only [Bool.false_eq_true, if_false]
        omega
      · rw [if_neg e1] at h1 b4
        rw [show refs e (lnk (nmDel v.files d s) id (-1)) = refs e v.files by omega, hn, needOf_eq b2 (by omega)]
    · obtain ⟨z0, b1, b2, b3, b4, b5⟩ := back0 e z he
      have := h.wf.pos e z0 b1 (by rw [← b2]; exact hz2)
      by_cases e1 : e = id
      · subst e1
        rw [hx] at b1; cases b1
        rw [if_pos rfl] at b4
        omega
      · rw [if_neg e1] at b4; omega
    · obtain ⟨z0, b1, b2, b3, b4, b5⟩ := back0 e z he
      have := h.rng e z0 b1
      refine ⟨z0, b1, ?_, by split at b4 <;> omega⟩
      by_cases e1 : e = id
      · subst e1
        rw [hx] at b1; cases b1
        rw [if_pos rfl] at b4
        omega
      · rw [if_neg e1] at b4; omega
    · obtain ⟨z0, b1, b2, b3, b4, b5⟩ := back0 e z he
      exact h.nmz e z0 q b1 (b5 q hq)
/-- a name is moved -/
theorem WFV.move {n : Nat} {v : PV} (h : WFV n v) {d t id : Int} {xd xt x : PF} {s s2 : Str} (hd : getA d v.files = some xd) (hs : getA s xd.names = some id) (hx : getA id v.files = some x) (ht : getA t v.files = some xt) (htd : xt.dir = true) (hs2 : getA s2 xt.names = none) (hlen : xt.names.length < 32 ∨ t = d) (hsz : s2.size ≤ 64)
    (hins : x.dir = true → ¬ Ins v.files t id) : WFV (n + 1) { v with files := nmPut (nmDel v.files d s) t s2 id } := by
  have hB := h.wf.toWFB.del (d := d) (s := s)
  obtain ⟨x1, hx1, c1, c2, c3, c4⟩ := nmDel_fwd (d := d) (s := s) hx
  obtain ⟨t1, ht1, d1, d2, d3, d4⟩ := nmDel_fwd (d := d) (s := s) ht
  have hl32 := (h.wf.len t xt ht).2
  have hn2 : getA s2 t1.names = none := by
    rw [d4]; split
    · rw [getA_del]; split
      · rfl
      · exact hs2
    · exact hs2
  have hlt : t1.names.length < 32 := by
    rw [d4]
    split
    · rename_i e
      subst e
      have e2 := Option.some.inj (ht.symm.trans hd)
      rw [← e2] at hs
      have h5 : (delA s xt.names).length < xt.names.length := by
        obtain ⟨A, B, e1, hA⟩ := getA_split hs
        rw [e1, delA_mid (by rw [← e1]; exact h.wf.nmd t xt ht)]
        simp only [List.length_append, List.length_cons]; omega
      omega
    · rename_i e
      rcases hlen with hlen | hlen
      · exact hlen
      · exact absurd hlen e
  have hB2 := hB.put ht1 (d1.trans htd) hn2 hx1 (fun e hi => hins (c1.symm.trans e) hi.of_nmDel) hlt
  have href : ∀ m, refs m (nmPut (nmDel v.files d s) t s2 id) = refs m v.files := fun m => by
    rw [refs_nmPut ht1 hn2]; have := refs_nmDel (m := m) h.wf.toWFB hd hs; omega
  have back : ∀ e z, getA e (nmPut (nmDel v.files d s) t s2 id) = some z → ∃ z0, getA e v.files = some z0 ∧ z.dir = z0.dir ∧ z.links = z0.links ∧ (∀ q ∈ z.names, q ∈ z0.names ∨ q.1 = s2) := fun e z he => by
    obtain ⟨z1, a1, a2, a3, a4, a5⟩ := nmPut_back he
    obtain ⟨z0, b1, b2, b3, b4, b5⟩ := nmDel_back a1
    have sub : ∀ q ∈ z1.names, q ∈ z0.names := fun q hq => by
      rcases b5 with ⟨_, b5⟩ | ⟨_, b5⟩
      · rw [b5] at hq; exact hq
      · rw [b5] at hq; exact names_del_mem hq
    refine ⟨z0, b1, a2.trans b2, a4.trans b4, fun q hq => ?_⟩
    rcases a5 with a5 | ⟨_, a5⟩
    · rw [a5] at hq; exact .inl (sub q hq)
    · rw [a5] at hq
      rcases mem_putG q hq with rfl | hq
      · exact .inr rfl
      · exact .inl (sub q hq)
  refine h.turn ⟨hB2, fun e z he => ?_, fun e z he hz => ?_⟩ (fun e z he => ?_) fun e z q he hq => ?_
  · obtain ⟨z0, b1, b2, b3, b4⟩ := back e z he
    rw [href, h.wf.need e z0 b1, needOf_eq b2 b3]
  · obtain ⟨z0, b1, b2, b3, b4⟩ := back e z he
    rw [b3]; exact h.wf.pos e z0 b1 (by rw [← b2]; exact hz)
  · obtain ⟨z0, b1, b2, b3, b4⟩ := back e z he
    have := h.rng e z0 b1
    exact ⟨z0, b1, by omega, by omega⟩
  · obtain ⟨z0, b1, b2, b3, b4⟩ := back e z he
    rcases b4 q hq with hq | hq
    · exact h.nmz e z0 q b1 hq
    · rw [hq]; exact hsz
/-- an empty directory goes -/
theorem WFV.unmake {n : Nat} {v : PV} (h : WFV n v) {d id : Int} {xd x : PF} {s : Str} (hd : getA d v.files = some xd) (hs : getA s xd.names = some id) (hx : getA id v.files = some x) (hxd : x.dir = true) (h0 : x.names = []) :
    WFV (n + 1) { v with files := delA id (nmDel v.files d s) } := by
  have hB := h.wf.toWFB.del (d := d) (s := s)
  have hr := refs_pos hd hs
  have hne := h.wf.need id x hx
  have hroot : id ≠ 1 := fun e => by
    unfold needOf at hne; rw [if_pos e] at hne; omega
  have hone : refs id v.files = 1 := by unfold needOf at hne; rw [if_neg hroot, if_pos hxd] at hne; omega
  have href0 : ∀ m, refs m (nmDel v.files d s) + (if m = id then 1 else 0) = refs m v.files := fun m => refs_nmDel h.wf.toWFB hd hs
  obtain ⟨x1, hx1, c1, c2, c3, c4⟩ := nmDel_fwd (d := d) (s := s) hx
  have hx0 : x1.names = [] := by
    rw [c4]; split <;> rw [h0]
    rfl
  have hr0 : refs id (nmDel v.files d s) = 0 := by have := href0 id; rw [if_pos rfl] at this; omega
  have back : ∀ e z, getA e (delA id (nmDel v.files d s)) = some z → e ≠ id ∧ ∃ z0, getA e v.files = some z0 ∧ z.dir = z0.dir ∧ z.links = z0.links ∧ (∀ q ∈ z.names, q ∈ z0.names) := fun e z he => by
    rw [getA_del] at he
    split at he
    · cases he
    · rename_i h1
      obtain ⟨z0, b1, b2, b3, b4, b5⟩ := nmDel_back he
      refine ⟨h1, z0, b1, b2, b4, fun q hq => ?_⟩
      rcases b5 with ⟨_, b5⟩ | ⟨_, b5⟩
      · rw [b5] at hq; exact hq
      · rw [b5] at hq; exact names_del_mem hq
  have href : ∀ m, refs m (delA id (nmDel v.files d s)) = refs m (nmDel v.files d s) := fun m => by
    have := refs_del (k := m) hB.nd hx1
    rw [hx0] at this
    have e0 : cntN m ([] : List (Str × Int)) = 0 := rfl
    omega
  refine h.turn ⟨hB.gone hx1 hroot hr0, fun e z he => ?_, fun e z he hz => ?_⟩ (fun e z he => ?_) fun e z q he hq => ?_
  · obtain ⟨g1, z0, b1, b2, b3, b4⟩ := back e z he
    have h1 := href0 e
    rw [if_neg g1] at h1
    rw [href, show refs e (nmDel v.files d s) = refs e v.files by omega, h.wf.need e z0 b1, needOf_eq b2 b3]
  · obtain ⟨g1, z0, b1, b2, b3, b4⟩ := back e z he
    rw [b3]; exact h.wf.pos e z0 b1 (by rw [← b2]; exact hz)
  · obtain ⟨g1, z0, b1, b2, b3, b4⟩ := back e z he
    have := h.rng e z0 b1
    exact ⟨z0, b1, by omega, by omega⟩
  · obtain ⟨g1, z0, b1, b2, b3, b4⟩ := back e z he
    exact h.nmz e z0 q b1 (b4 q hq)
end Go.Proofs.YtdjaehgadehnfaaGreatDoor
