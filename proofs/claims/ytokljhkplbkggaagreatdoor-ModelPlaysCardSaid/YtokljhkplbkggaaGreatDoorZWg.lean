/- What every call keeps, whole. No statement of the seat is proved here. -/
import Derived.Test.YtokljhkplbkggaaGreatDoorZOpsa
import Derived.Test.YtokljhkplbkggaaGreatDoorZQs
import Derived.Test.YtokljhkplbkggaaGreatDoorZTurn
import Derived.Test.YtokljhkplbkggaaGreatDoorZPlay
namespace Go.Proofs.YtokljhkplbkggaaGreatDoor
set_option linter.unusedSimpArgs false
set_option linter.unusedVariables false
set_option linter.unusedSectionVars false
open Go.RowKit
theorem WFS.put {n : Nat} {S : PS} {vol : Int} {v v' : PV} (h : WFS n S) (hv : wAm vol S.vols = some v) (h' : WFV (n + 1) v') : WFS (n + 1) { S with vols := wBq vol v' S.vols } := by
 refine ⟨?_, h.low, by have := h.most; simp only; omega, fun k u hk => ?_, fun k u hk => ?_⟩
 ·simp only; rw [keysA_put, if_pos (List.mem_map.2 ⟨_, wDy hv, rfl⟩)]; exact h.nd
 ·simp only at hk ⊢
  rw [wFb] at hk
  split at hk
  ·rename_i e; rw [e]; exact h.rng _ _ hv
  exact h.rng k u hk
 simp only at hk
 rw [wFb] at hk
 split at hk
 ·cases hk; exact h'
 exact (h.vol k u hk).more (Nat.le_succ n)
theorem WFS.updVF {n : Nat} {S : PS} {vol : Int} {v : PV} {f : Fls → Fls} (h : WFS n S) (hv : wAm vol S.vols = some v) (h' : WFV (n + 1) { v with files := f v.files }) : WFS (n + 1) (updVF S vol f) := by
 unfold Go.Proofs.YtokljhkplbkggaaGreatDoor.updVF updV; rw [hv]; exact h.put hv h'
theorem WFV.turn {n : Nat} {v : PV} {fs : Fls} (h : WFV n v) (hf : WFF fs) (hr : ∀ d x, wAm d fs = some x → ∃ x0, wAm d v.files = some x0 ∧ 0 ≤ x.links ∧ x.links ≤ x0.links + 1) (hz : ∀ d x q, wAm d fs = some x → q ∈ x.names → q.1.size ≤ 64) : WFV (n + 1) { v with files := fs } :=
 ⟨hf, h.two, by have := h.most; simp only; omega, fun d x hd => by
  obtain ⟨x0, h1, h2, h3⟩ := hr d x hd
  have := h.rng d x0 h1
  exact ⟨this.1, this.2.1, h2, by omega⟩, hz⟩
theorem nmPut_back {fs : Fls} {d k : Int} {s : Str} {e : Int} {z : PF} (he : wAm e (wEb fs d s k) = some z) : ∃ z0, wAm e fs = some z0 ∧ z.dir = z0.dir ∧ z.data = z0.data ∧ z.links = z0.links ∧ (z.names = z0.names ∨ e = d ∧ z.names = wBq s k z0.names) := by
 unfold wEb at he
 rw [wFn] at he
 split at he
 ·rename_i ed
  cases hx : wAm e fs with
  | none => rw [hx] at he; cases he
  | some x => rw [hx] at he; cases he; exact ⟨x, rfl, rfl, rfl, rfl, .inr ⟨ed, rfl⟩⟩
 exact ⟨z, he, rfl, rfl, rfl, .inl rfl⟩
theorem lnk_back {fs : Fls} {id n : Int} {e : Int} {z : PF} (he : wAm e (lnk fs id n) = some z) : ∃ z0, wAm e fs = some z0 ∧ z.dir = z0.dir ∧ z.data = z0.data ∧ z.names = z0.names ∧ z.links = z0.links + if e = id then n else 0 := by
 unfold lnk at he
 rw [wFn] at he
 split at he
 ·rename_i ed
  cases hx : wAm e fs with
  | none => rw [hx] at he; cases he
  | some x => rw [hx] at he; cases he; exact ⟨x, rfl, rfl, rfl, rfl, by rw [if_pos ed]⟩
 rename_i ed; exact ⟨z, he, rfl, rfl, rfl, by rw [if_neg ed]; omega⟩
theorem mem_putG {α : Type} {l : List (Str × α)} {k : Str} {v : α} : ∀ p ∈ wBq k v l, p = (k, v) ∨ p ∈ l := by
 induction l with
 | nil => intro p hp; rw [wBq, List.mem_singleton] at hp; exact .inl hp
 | cons q l ih =>
  intro p hp
  rw [wBq] at hp
  split at hp
  ·rcases List.mem_cons.1 hp with h | h
   ·exact .inl h
   exact .inr (List.mem_cons_of_mem _ h)
  rcases List.mem_cons.1 hp with h | h
  ·exact .inr (by rw [h]; exact List.mem_cons_self ..)
  exact (ih p h).imp id (List.mem_cons_of_mem _)
theorem wGr {id : Int} {x y : PF} (h1 : x.dir = y.dir) (h2 : x.links = y.links) : wKk id x = wKk id y := by unfold wKk; rw [h1, h2]
theorem WFV.data {n : Nat} {v : PV} (h : WFV n v) {id : Int} {g : List By → List By} (hg : ∀ x, wAm id v.files = some x → (g x.data).length ≤ 4096) : WFV (n + 1) { v with files := updF v.files id fun x => { x with data := g x.data } } := by
 have back : ∀ e z, wAm e (updF v.files id fun x => { x with data := g x.data }) = some z → ∃ z0, wAm e v.files = some z0 ∧ z.dir = z0.dir ∧ z.names = z0.names ∧ z.links = z0.links := fun e z he => by
  rw [wFn] at he
  split at he
  ·cases hx : wAm e v.files with
   | none => rw [hx] at he; cases he
   | some x => rw [hx] at he; cases he; exact ⟨x, rfl, rfl, rfl, rfl⟩
  exact ⟨z, he, rfl, rfl, rfl⟩
 refine h.turn ⟨h.wf.toWFB.upd (fun _ => rfl) (fun _ => rfl) hg, fun d x hd => ?_, fun d x hd hx => ?_⟩ (fun d x hd => ?_) fun d x q hd hq => ?_
 ·obtain ⟨z0, a1, a2, a3, a4⟩ := back d x hd
  rw [refs_same (f := fun x => { x with data := g x.data }) (fun _ => rfl), h.wf.need d z0 a1, wGr a2 a4]
 ·obtain ⟨z0, a1, a2, a3, a4⟩ := back d x hd
  rw [a4]; exact h.wf.pos d z0 a1 (by rw [← a2]; exact hx)
 ·obtain ⟨z0, a1, a2, a3, a4⟩ := back d x hd
  have := h.rng d z0 a1
  exact ⟨z0, a1, by omega, by omega⟩
 obtain ⟨z0, a1, a2, a3, a4⟩ := back d x hd
 rw [a3] at hq; exact h.nmz d z0 q a1 hq
theorem Ins.leafN {fs : Fls} {t d : Int} {x : PF} (hx : wAm d fs = some x) (h0 : x.names = []) (h : Ins fs t d) : t = d := by
 cases h with
 | here => rfl
 | down h1 h2 => rw [hx] at h1; cases h1; rw [h0] at h2; cases h2
theorem WFV.make {n : Nat} {v : PV} (h : WFV n v) {d : Int} {xd : PF} {s : Str} (dir : Bool) (hd : wAm d v.files = some xd) (hdir : xd.dir = true) (hs : wAm s xd.names = none) (hlen : xd.names.length < 32) (hsz : s.size ≤ 64) :
  WFV (n + 1) { v with next := v.next + 1, files := wEb (v.files ++ [(v.next, { dir := dir, links := 1, data := [], names := [] })]) d s v.next } := by
 have hnx : wAm v.next v.files = none := by
  cases hx : wAm v.next v.files with
  | none => rfl
  | some x => have := (h.rng _ _ hx).2.1; omega
 have get : ∀ e, wAm e (v.files ++ [(v.next, ({ dir := dir, links := 1, data := [], names := [] } : PF))]) = if e = v.next then some { dir := dir, links := 1, data := [], names := [] } else wAm e v.files := fun e => by
  rw [← wEy (getA_none.1 hnx), wFb]
 have hdn : d ≠ v.next := fun e => by rw [e, hnx] at hd; cases hd
 have hd2 : wAm d (v.files ++ [(v.next, ({ dir := dir, links := 1, data := [], names := [] } : PF))]) = some xd := by rw [get, if_neg hdn]; exact hd
 have hk2 : wAm v.next (v.files ++ [(v.next, ({ dir := dir, links := 1, data := [], names := [] } : PF))]) = some { dir := dir, links := 1, data := [], names := [] } := by rw [get, if_pos rfl]
 have hB := (h.wf.toWFB.come (id := v.next) (x := { dir := dir, links := 1, data := [], names := [] }) hnx rfl rfl).put hd2 hdir hs hk2 (fun _ hi => hdn (hi.leafN hk2 rfl)) hlen
 have back : ∀ e z, wAm e (wEb (v.files ++ [(v.next, ({ dir := dir, links := 1, data := [], names := [] } : PF))]) d s v.next) = some z → (e = v.next ∧ z.dir = dir ∧ z.links = 1 ∧ z.names = []) ∨ (e ≠ v.next ∧ ∃ z0, wAm e v.files = some z0 ∧ z.dir = z0.dir ∧ z.links = z0.links ∧ (z.names = z0.names ∨ e = d ∧ z.names = wBq s v.next z0.names)) := fun e z he => by
  obtain ⟨z0, a1, a2, a3, a4, a5⟩ := nmPut_back he
  rw [get] at a1
  split at a1
  ·rename_i e1
   cases a1
   refine .inl ⟨e1, a2, a4, ?_⟩
   rcases a5 with a5 | ⟨a5, _⟩
   ·exact a5
   exact absurd (a5.symm.trans e1) hdn
  rename_i e1; exact .inr ⟨e1, z0, a1, a2, a4, a5⟩
 have href : ∀ m, wFx m (wEb (v.files ++ [(v.next, ({ dir := dir, links := 1, data := [], names := [] } : PF))]) d s v.next) = wFx m v.files + if m = v.next then 1 else 0 := fun m => by
  rw [refs_nmPut hd2 hs, refs_come rfl]
 have h2 := h.two
 refine ⟨⟨hB, fun e z he => ?_, fun e z he hz => ?_⟩, by simp only; omega, by have := h.most; simp only; omega, fun e z he => ?_, fun e z q he hq => ?_⟩
 ·rw [href]
  rcases back e z he with ⟨rfl, b1, b2, b3⟩ | ⟨b0, z0, b1, b2, b3, b4⟩
  ·rw [h.wf.toWFB.fresh hnx, if_pos rfl]
   unfold wKk; rw [if_neg (by omega), b1, b2]; cases dir <;> rfl
  rw [if_neg b0, Nat.add_zero, h.wf.need e z0 b1, wGr b2 b3]
 ·rcases back e z he with ⟨rfl, b1, b2, b3⟩ | ⟨b0, z0, b1, b2, b3, b4⟩
  ·omega
  rw [b3]; exact h.wf.pos e z0 b1 (by rw [← b2]; exact hz)
 ·rcases back e z he with ⟨rfl, b1, b2, b3⟩ | ⟨b0, z0, b1, b2, b3, b4⟩
  ·refine ⟨by omega, by simp only; omega, by omega, by omega⟩
  have := h.rng e z0 b1
  refine ⟨this.1, by simp only; omega, by omega, by omega⟩
 rcases back e z he with ⟨rfl, b1, b2, b3⟩ | ⟨b0, z0, b1, b2, b3, b4⟩
 ·rw [b3] at hq; cases hq
 rcases b4 with b4 | ⟨_, b4⟩
 ·rw [b4] at hq; exact h.nmz e z0 q b1 hq
 rw [b4] at hq
 rcases mem_putG q hq with rfl | hq
 ·exact hsz
 exact h.nmz e z0 q b1 hq
theorem WFV.link {n : Nat} {v : PV} (h : WFV n v) {d id : Int} {xd x : PF} {s : Str} (hd : wAm d v.files = some xd) (hdir : xd.dir = true) (hs : wAm s xd.names = none) (hlen : xd.names.length < 32) (hsz : s.size ≤ 64) (hx : wAm id v.files = some x) (hxd : x.dir = false) :
  WFV (n + 1) { v with files := lnk (wEb v.files d s id) id 1 } := by
 have hB := h.wf.toWFB.put hd hdir hs hx (fun e => by rw [hxd] at e; cases e) hlen
 have hroot : id ≠ 1 := fun e => by
  obtain ⟨r, hr, hrd⟩ := h.wf.root
  rw [e, hr] at hx; cases hx; rw [hrd] at hxd; cases hxd
 have back : ∀ e z, wAm e (lnk (wEb v.files d s id) id 1) = some z → ∃ z0, wAm e v.files = some z0 ∧ z.dir = z0.dir ∧ z.data = z0.data ∧ (z.links = z0.links + if e = id then 1 else 0) ∧ (z.names = z0.names ∨ e = d ∧ z.names = wBq s id z0.names) := fun e z he => by
  obtain ⟨z1, a1, a2, a3, a4, a5⟩ := lnk_back he
  obtain ⟨z0, b1, b2, b3, b4, b5⟩ := nmPut_back a1
  exact ⟨z0, b1, a2.trans b2, a3.trans b3, by rw [a5, b4], by rw [a4]; exact b5⟩
 have hB2 : WFB (lnk (wEb v.files d s id) id 1) := hB.upd (fun _ => rfl) (fun _ => rfl) (fun y hy => (hB.len id y hy).1)
 have href : ∀ m, wFx m (lnk (wEb v.files d s id) id 1) = wFx m v.files + if m = id then 1 else 0 := fun m => by
  unfold lnk; rw [refs_same (f := fun x => { x with links := x.links + 1 }) (fun _ => rfl), refs_nmPut hd hs]
 refine h.turn ⟨hB2, fun e z he => ?_, fun e z he hz => ?_⟩ (fun e z he => ?_) fun e z q he hq => ?_
 ·obtain ⟨z0, b1, b2, b3, b4, b5⟩ := back e z he
  have hn := h.wf.need e z0 b1
  rw [href]
  by_cases e1 : e = id
  ·subst e1
   rw [hx] at b1; cases b1
   rw [if_pos rfl] at b4 ⊢
   unfold wKk at hn ⊢
   rw [if_neg hroot] at hn ⊢
   rw [b2, hxd]; rw [hxd] at hn
   simp only [Bool.false_eq_true, if_false] at hn ⊢
   omega
  rw [if_neg e1] at b4 ⊢
  rw [Nat.add_zero, hn, wGr b2 (by omega)]
 ·obtain ⟨z0, b1, b2, b3, b4, b5⟩ := back e z he
  have := h.wf.pos e z0 b1 (by rw [← b2]; exact hz)
  split at b4 <;> omega
 ·obtain ⟨z0, b1, b2, b3, b4, b5⟩ := back e z he
  have := h.rng e z0 b1
  exact ⟨z0, b1, by split at b4 <;> omega, by split at b4 <;> omega⟩
 obtain ⟨z0, b1, b2, b3, b4, b5⟩ := back e z he
 rcases b5 with b5 | ⟨_, b5⟩
 ·rw [b5] at hq; exact h.nmz e z0 q b1 hq
 rw [b5] at hq
 rcases mem_putG q hq with rfl | hq
 ·exact hsz
 exact h.nmz e z0 q b1 hq
theorem wHu {s : Str} {l : List (Str × Int)} {q : Str × Int} (h : q ∈ wBc s l) : q ∈ l := (List.mem_filter.1 h).1
theorem WFV.unlink {n : Nat} {v : PV} (h : WFV n v) {d id : Int} {xd x : PF} {s : Str} (hd : wAm d v.files = some xd) (hs : wAm s xd.names = some id) (hx : wAm id v.files = some x) (hxd : x.dir = false) :
  WFV (n + 1) { v with files := wFy (wCg v.files d s) id } := by
 have hB := h.wf.toWFB.del (d := d) (s := s)
 have hroot : id ≠ 1 := fun e => by
  obtain ⟨r, hr, hrd⟩ := h.wf.root
  rw [e, hr] at hx; cases hx; rw [hrd] at hxd; cases hxd
 have href0 : ∀ m, wFx m (lnk (wCg v.files d s) id (-1)) + (if m = id then 1 else 0) = wFx m v.files := fun m => by
  unfold lnk; rw [refs_same (f := fun x => { x with links := x.links + -1 }) (fun _ => rfl)]; exact refs_nmDel h.wf.toWFB hd hs
 have hB2 : WFB (lnk (wCg v.files d s) id (-1)) := hB.upd (fun _ => rfl) (fun _ => rfl) (fun y hy => (hB.len id y hy).1)
 have back0 : ∀ e z, wAm e (lnk (wCg v.files d s) id (-1)) = some z → ∃ z0, wAm e v.files = some z0 ∧ z.dir = z0.dir ∧ z.data = z0.data ∧ (z.links = z0.links + if e = id then -1 else 0) ∧ (∀ q ∈ z.names, q ∈ z0.names) := fun e z he => by
  obtain ⟨z1, a1, a2, a3, a4, a5⟩ := lnk_back he
  obtain ⟨z0, b1, b2, b3, b4, b5⟩ := wEr a1
  refine ⟨z0, b1, a2.trans b2, a3.trans b3, by rw [a5, b4], fun q hq => ?_⟩
  rw [a4] at hq
  rcases b5 with ⟨_, b5⟩ | ⟨_, b5⟩
  ·rw [b5] at hq; exact hq
  rw [b5] at hq; exact wHu hq
 obtain ⟨x1, hx1, c1, c2, c3, c4⟩ := wHm (d := d) (s := s) hx
 have hlk : wGt (wCg v.files d s) id = x.links := by unfold wGt; rw [hx1]; exact c2
 have hne := h.wf.need id x hx
 have hpos := h.wf.pos id x hx hxd
 have hneed : (wFx id v.files : Int) = x.links := by
  rw [hne]; unfold wKk; rw [if_neg hroot, hxd]; rfl
 have hrid := href0 id
 rw [if_pos rfl] at hrid
 obtain ⟨x2, hx2, hx2l⟩ : ∃ x2, wAm id (lnk (wCg v.files d s) id (-1)) = some x2 ∧ x2.names = [] := by
  refine ⟨{ x1 with links := x1.links + -1 }, by unfold lnk; rw [wFn, if_pos rfl, hx1]; rfl, ?_⟩
  have := h.wf.leaf id x hx hxd
  show x1.names = []
  rw [c4]
  split <;> rw [this]
  rfl
 unfold wFy
 rw [hlk]
 by_cases hz : x.links - 1 = 0
 ·rw [if_pos hz]
  have hr0 : wFx id (lnk (wCg v.files d s) id (-1)) = 0 := by omega
  have back : ∀ e z, wAm e (wBc id (lnk (wCg v.files d s) id (-1))) = some z → e ≠ id ∧ wAm e (lnk (wCg v.files d s) id (-1)) = some z := fun e z he => by
   rw [wFo] at he
   split at he
   ·cases he
   rename_i h; exact ⟨h, he⟩
  have href : ∀ m, wFx m (wBc id (lnk (wCg v.files d s) id (-1))) = wFx m (lnk (wCg v.files d s) id (-1)) := fun m => by
   have := refs_del (k := m) hB2.nd hx2
   rw [hx2l] at this
   have e0 : cntN m ([] : List (Str × Int)) = 0 := rfl
   omega
  refine h.turn ⟨hB2.gone hx2 hroot hr0, fun e z he => ?_, fun e z he hz2 => ?_⟩ (fun e z he => ?_) fun e z q he hq => ?_
  ·obtain ⟨g1, g2⟩ := back e z he
   obtain ⟨z0, b1, b2, b3, b4, b5⟩ := back0 e z g2
   have h1 := href0 e
   rw [if_neg g1] at h1 b4
   rw [href, show wFx e (lnk (wCg v.files d s) id (-1)) = wFx e v.files by omega, h.wf.need e z0 b1, wGr b2 (by omega)]
  ·obtain ⟨g1, g2⟩ := back e z he
   obtain ⟨z0, b1, b2, b3, b4, b5⟩ := back0 e z g2
   rw [if_neg g1] at b4
   have := h.wf.pos e z0 b1 (by rw [← b2]; exact hz2)
   omega
  ·obtain ⟨g1, g2⟩ := back e z he
   obtain ⟨z0, b1, b2, b3, b4, b5⟩ := back0 e z g2
   rw [if_neg g1] at b4
   have := h.rng e z0 b1
   exact ⟨z0, b1, by omega, by omega⟩
  obtain ⟨g1, g2⟩ := back e z he
  obtain ⟨z0, b1, b2, b3, b4, b5⟩ := back0 e z g2
  exact h.nmz e z0 q b1 (b5 q hq)
 rw [if_neg hz]
 refine h.turn ⟨hB2, fun e z he => ?_, fun e z he hz2 => ?_⟩ (fun e z he => ?_) fun e z q he hq => ?_
 ·obtain ⟨z0, b1, b2, b3, b4, b5⟩ := back0 e z he
  have h1 := href0 e
  have hn := h.wf.need e z0 b1
  by_cases e1 : e = id
  ·subst e1
   rw [hx] at b1; cases b1
   rw [if_pos rfl] at h1 b4
   unfold wKk
   rw [if_neg hroot, b2, hxd]
   simp only [Bool.false_eq_true, if_false]
   omega
  rw [if_neg e1] at h1 b4
  rw [show wFx e (lnk (wCg v.files d s) id (-1)) = wFx e v.files by omega, hn, wGr b2 (by omega)]
 ·obtain ⟨z0, b1, b2, b3, b4, b5⟩ := back0 e z he
  have := h.wf.pos e z0 b1 (by rw [← b2]; exact hz2)
  by_cases e1 : e = id
  ·subst e1
   rw [hx] at b1; cases b1
   rw [if_pos rfl] at b4
   omega
  rw [if_neg e1] at b4; omega
 ·obtain ⟨z0, b1, b2, b3, b4, b5⟩ := back0 e z he
  have := h.rng e z0 b1
  refine ⟨z0, b1, ?_, by split at b4 <;> omega⟩
  by_cases e1 : e = id
  ·subst e1
   rw [hx] at b1; cases b1
   rw [if_pos rfl] at b4
   omega
  rw [if_neg e1] at b4; omega
 obtain ⟨z0, b1, b2, b3, b4, b5⟩ := back0 e z he
 exact h.nmz e z0 q b1 (b5 q hq)
theorem WFV.move {n : Nat} {v : PV} (h : WFV n v) {d t id : Int} {xd xt x : PF} {s s2 : Str} (hd : wAm d v.files = some xd) (hs : wAm s xd.names = some id) (hx : wAm id v.files = some x) (ht : wAm t v.files = some xt) (htd : xt.dir = true) (hs2 : wAm s2 xt.names = none) (hlen : xt.names.length < 32 ∨ t = d) (hsz : s2.size ≤ 64)
  (hins : x.dir = true → ¬ Ins v.files t id) : WFV (n + 1) { v with files := wEb (wCg v.files d s) t s2 id } := by
 have hB := h.wf.toWFB.del (d := d) (s := s)
 obtain ⟨x1, hx1, c1, c2, c3, c4⟩ := wHm (d := d) (s := s) hx
 obtain ⟨t1, ht1, d1, d2, d3, d4⟩ := wHm (d := d) (s := s) ht
 have hl32 := (h.wf.len t xt ht).2
 have hn2 : wAm s2 t1.names = none := by
  rw [d4]; split
  ·rw [wFo]; split
   ·rfl
   exact hs2
  exact hs2
 have hlt : t1.names.length < 32 := by
  rw [d4]
  split
  ·rename_i e
   subst e
   have e2 := Option.some.inj (ht.symm.trans hd)
   rw [← e2] at hs
   have h5 : (wBc s xt.names).length < xt.names.length := by
    obtain ⟨A, B, e1, hA⟩ := wCf hs
    rw [e1, wLr (by rw [← e1]; exact h.wf.nmd t xt ht)]
    simp only [List.length_append, List.length_cons]; omega
   omega
  rename_i e
  rcases hlen with hlen | hlen
  ·exact hlen
  exact absurd hlen e
 have hB2 := hB.put ht1 (d1.trans htd) hn2 hx1 (fun e hi => hins (c1.symm.trans e) hi.of_nmDel) hlt
 have href : ∀ m, wFx m (wEb (wCg v.files d s) t s2 id) = wFx m v.files := fun m => by
  rw [refs_nmPut ht1 hn2]; have := refs_nmDel (m := m) h.wf.toWFB hd hs; omega
 have back : ∀ e z, wAm e (wEb (wCg v.files d s) t s2 id) = some z → ∃ z0, wAm e v.files = some z0 ∧ z.dir = z0.dir ∧ z.links = z0.links ∧ (∀ q ∈ z.names, q ∈ z0.names ∨ q.1 = s2) := fun e z he => by
  obtain ⟨z1, a1, a2, a3, a4, a5⟩ := nmPut_back he
  obtain ⟨z0, b1, b2, b3, b4, b5⟩ := wEr a1
  have sub : ∀ q ∈ z1.names, q ∈ z0.names := fun q hq => by
   rcases b5 with ⟨_, b5⟩ | ⟨_, b5⟩
   ·rw [b5] at hq; exact hq
   rw [b5] at hq; exact wHu hq
  refine ⟨z0, b1, a2.trans b2, a4.trans b4, fun q hq => ?_⟩
  rcases a5 with a5 | ⟨_, a5⟩
  ·rw [a5] at hq; exact .inl (sub q hq)
  rw [a5] at hq
  rcases mem_putG q hq with rfl | hq
  ·exact .inr rfl
  exact .inl (sub q hq)
 refine h.turn ⟨hB2, fun e z he => ?_, fun e z he hz => ?_⟩ (fun e z he => ?_) fun e z q he hq => ?_
 ·obtain ⟨z0, b1, b2, b3, b4⟩ := back e z he
  rw [href, h.wf.need e z0 b1, wGr b2 b3]
 ·obtain ⟨z0, b1, b2, b3, b4⟩ := back e z he
  rw [b3]; exact h.wf.pos e z0 b1 (by rw [← b2]; exact hz)
 ·obtain ⟨z0, b1, b2, b3, b4⟩ := back e z he
  have := h.rng e z0 b1
  exact ⟨z0, b1, by omega, by omega⟩
 obtain ⟨z0, b1, b2, b3, b4⟩ := back e z he
 rcases b4 q hq with hq | hq
 ·exact h.nmz e z0 q b1 hq
 rw [hq]; exact hsz
theorem WFV.unmake {n : Nat} {v : PV} (h : WFV n v) {d id : Int} {xd x : PF} {s : Str} (hd : wAm d v.files = some xd) (hs : wAm s xd.names = some id) (hx : wAm id v.files = some x) (hxd : x.dir = true) (h0 : x.names = []) :
  WFV (n + 1) { v with files := wBc id (wCg v.files d s) } := by
 have hB := h.wf.toWFB.del (d := d) (s := s)
 have hr := refs_pos hd hs
 have hne := h.wf.need id x hx
 have hroot : id ≠ 1 := fun e => by
  unfold wKk at hne; rw [if_pos e] at hne; omega
 have hone : wFx id v.files = 1 := by unfold wKk at hne; rw [if_neg hroot, if_pos hxd] at hne; omega
 have href0 : ∀ m, wFx m (wCg v.files d s) + (if m = id then 1 else 0) = wFx m v.files := fun m => refs_nmDel h.wf.toWFB hd hs
 obtain ⟨x1, hx1, c1, c2, c3, c4⟩ := wHm (d := d) (s := s) hx
 have hx0 : x1.names = [] := by
  rw [c4]; split <;> rw [h0]
  rfl
 have hr0 : wFx id (wCg v.files d s) = 0 := by have := href0 id; rw [if_pos rfl] at this; omega
 have back : ∀ e z, wAm e (wBc id (wCg v.files d s)) = some z → e ≠ id ∧ ∃ z0, wAm e v.files = some z0 ∧ z.dir = z0.dir ∧ z.links = z0.links ∧ (∀ q ∈ z.names, q ∈ z0.names) := fun e z he => by
  rw [wFo] at he
  split at he
  ·cases he
  rename_i h1
  obtain ⟨z0, b1, b2, b3, b4, b5⟩ := wEr he
  refine ⟨h1, z0, b1, b2, b4, fun q hq => ?_⟩
  rcases b5 with ⟨_, b5⟩ | ⟨_, b5⟩
  ·rw [b5] at hq; exact hq
  rw [b5] at hq; exact wHu hq
 have href : ∀ m, wFx m (wBc id (wCg v.files d s)) = wFx m (wCg v.files d s) := fun m => by
  have := refs_del (k := m) hB.nd hx1
  rw [hx0] at this
  have e0 : cntN m ([] : List (Str × Int)) = 0 := rfl
  omega
 refine h.turn ⟨hB.gone hx1 hroot hr0, fun e z he => ?_, fun e z he hz => ?_⟩ (fun e z he => ?_) fun e z q he hq => ?_
 ·obtain ⟨g1, z0, b1, b2, b3, b4⟩ := back e z he
  have h1 := href0 e
  rw [if_neg g1] at h1
  rw [href, show wFx e (wCg v.files d s) = wFx e v.files by omega, h.wf.need e z0 b1, wGr b2 b3]
 ·obtain ⟨g1, z0, b1, b2, b3, b4⟩ := back e z he
  rw [b3]; exact h.wf.pos e z0 b1 (by rw [← b2]; exact hz)
 ·obtain ⟨g1, z0, b1, b2, b3, b4⟩ := back e z he
  have := h.rng e z0 b1
  exact ⟨z0, b1, by omega, by omega⟩
 obtain ⟨g1, z0, b1, b2, b3, b4⟩ := back e z he
 exact h.nmz e z0 q b1 (b4 q hq)
def toCS (S : PS) : CS := { next := S.next, b := 0, mb := 0, mo := .map #[] 0, vols := S.vols.map fun p => (p.1, { frozen := p.2.frozen, next := p.2.next, b := 0, mb := 0, mo := .map #[] 0, files := p.2.files.map fun q => (q.1, { pf := q.2, b := 0, dv := .slice none 0 0, dR := [], nm := .map none, nR := [] }) }) }
theorem abs_toCS (S : PS) : (toCS S).abs = S := by
 obtain ⟨n, vols⟩ := S
 unfold toCS CS.abs
 simp only [List.map_map, PS.mk.injEq, true_and]
 refine (List.map_congr_left (g := id) fun p _ => ?_).trans (List.map_id _)
 obtain ⟨k, f, nx, fs⟩ := p
 simp only [Function.comp, CV.abs, wEf, List.map_map, id, Prod.mk.injEq, PV.mk.injEq, true_and]
 exact (List.map_congr_left (g := id) fun q _ => rfl).trans (List.map_id _)
theorem lastN_mem {w : Wy} (h : w.2 ≠ []) : wAi w ∈ w.2 := by
 unfold wAi
 cases e : w.2.getLast? with
 | none => exact absurd (List.getLast?_eq_none_iff.1 e) h
 | some a => exact List.mem_of_getLast? e
theorem WFS.add {n : Nat} {S : PS} {v : PV} (h : WFS n S) (hv : WFV (n + 1) v) : WFS (n + 1) (addS S v).1 := by
 have hnx : wAm (S.next + 1) S.vols = none := by
  cases hx : wAm (S.next + 1) S.vols with
  | none => rfl
  | some x => have := (h.rng _ _ hx).2; omega
 have get : ∀ e, wAm e (S.vols ++ [(S.next + 1, v)]) = if e = S.next + 1 then some v else wAm e S.vols := fun e => by
  rw [← wEy (getA_none.1 hnx), wFb]
 have hl := h.low
 have hm := h.most
 unfold addS
 refine ⟨?_, by simp only; omega, by simp only; omega, fun k u hk => ?_, fun k u hk => ?_⟩
 ·simp only
  rw [wBg, List.map_append]
  refine List.nodup_append.2 ⟨h.nd, by simp, fun a ha b hb => ?_⟩
  simp only [List.map_cons, List.map_nil, List.mem_singleton] at hb
  rw [hb]; intro e; exact getA_none.1 hnx (by rw [← e]; exact ha)
 ·simp only at hk ⊢
  rw [get] at hk
  split at hk
  ·omega
  have := h.rng k u hk; omega
 simp only at hk
 rw [get] at hk
 split at hk
 ·cases hk; exact hv
 exact (h.vol k u hk).more (Nat.le_succ n)
theorem WFV.root (n : Nat) : WFV (n + 1) { frozen := false, next := 2, files := [(1, { dir := true, links := 1, data := [], names := [] })] } := by
 have get : ∀ d x, wAm d ([(1, ({ dir := true, links := 1, data := [], names := [] } : PF))] : Fls) = some x → d = 1 ∧ x = { dir := true, links := 1, data := [], names := [] } := fun d x h => by
  rw [wAm] at h
  split at h
  ·rename_i e; cases h; exact ⟨e, rfl⟩
  cases h
 refine ⟨⟨⟨by simp [wBg], ⟨_, rfl, rfl⟩, fun d x s k h hs => ?_, fun d x h hx => ?_, fun d x h => ?_, ⟨fun _ => 0, fun d x s k y h hs => ?_⟩, fun d x h => ?_⟩, fun d x h => ?_, fun d x h hx => ?_⟩, by simp, by simp only; omega, fun d x h => ?_, fun d x q h hq => ?_⟩
 all_goals (obtain ⟨rfl, rfl⟩ := get _ _ h)
 ·cases hs
 ·cases hx
 ·simp [wBg]
 ·cases hs
 ·simp
 ·rfl
 ·cases hx
 ·simp only; omega
 cases hq
theorem WFV.frz {n : Nat} {v : PV} (h : WFV n v) (b : Bool) : WFV n { v with frozen := b } := ⟨h.wf, h.two, h.most, h.rng, h.nmz⟩
theorem sized_le {b : List By} {n : Nat} (h : n ≤ 4096) : (wAx b n).length ≤ 4096 := by rw [wAq]; exact h
theorem write_le {k : Nat} {d b : List By} (h1 : k + d.length ≤ 4096) (h2 : b.length ≤ 4096) : (wDn k d b).length ≤ 4096 := by
 unfold wDn
 split
 ·exact h2
 rw [wJs (by rw [wAq]; omega), wAq]; omega
section
variable {n : Nat} (S : CS) (h : WFS n S.abs) (c : CL) (w o : Wy)
include h
theorem turn_wfs (ok : Bool) (g : List By → List By) (hg : ok = true → ∀ b, b.length ≤ 4096 → (g b).length ≤ 4096) : WFS (n + 1) (wDv S.abs w ok g).1 := by
 unfold wDv
 cases hok : ok with
 | false => exact h.more (Nat.le_succ n)
 | true =>
  simp only [if_true]
  cases hw : wCh S.abs w with
  | error e => exact h.more (Nat.le_succ n)
  | ok id =>
   obtain ⟨v, x, hv, hx, hwv, hxd⟩ := wEi h hw
   simp only
   split
   ·exact h.more (Nat.le_succ n)
   try dsimp only
   refine WFS.updVF (v := v.abs) h (by rw [wBp, hv]; rfl) ?_
   exact hwv.data fun y hy => hg hok y.data (hwv.wf.len id y hy).1
theorem create_wfs (hw : ∀ s ∈ w.2, s.size ≤ 64) : WFS (n + 1) (wDg S.abs c w).1 := by
 unfold wDg
 cases hf : wBo S.abs w w.1 none with
 | error e => exact h.more (Nat.le_succ n)
 | ok d =>
  obtain ⟨hone, ho1, hop, v, xd, hv, hxd, hdd, hno, hlen⟩ := wEq h hf
  have hva : wAm w.1 S.abs.vols = some v.abs := by rw [wBp, hv]; rfl
  simp only
  split
  ·exact h.more (Nat.le_succ n)
  rw [hva]
  simp only
  refine h.put hva ((h.vol _ _ hva).make (d := d) (xd := xd.pf) (decide (c.kind = 6)) (by show wAm d (wEf v.files) = _; rw [wBs, hxd]; rfl) hdd hno ?_ (hw _ (lastN_mem hone)))
  rcases hlen with hlen | hlen
  ·exact hlen
  cases hlen
theorem link_wfs (ho : ∀ s ∈ o.2, s.size ≤ 64) : WFS (n + 1) (wGc S.abs w o).1 := by
 unfold wGc
 cases hw : wCh S.abs w with
 | error e => exact h.more (Nat.le_succ n)
 | ok id =>
  obtain ⟨v, x, hv, hx, hwv, hxd⟩ := wEi h hw
  have hva : wAm w.1 S.abs.vols = some v.abs := by rw [wBp, hv]; rfl
  simp only
  cases hf : wBo S.abs o w.1 none with
  | error e => exact h.more (Nat.le_succ n)
  | ok d =>
   obtain ⟨hone, ho1, hop, v2, xd, hv2, hxd2, hdd, hno, hlen⟩ := wEq h hf
   rw [ho1, hv] at hv2; cases hv2
   simp only
   split
   ·exact h.more (Nat.le_succ n)
   try dsimp only
   refine WFS.updVF h hva ?_
   refine hwv.link (d := d) (id := id) (xd := xd.pf) (x := x.pf) (by show wAm d (wEf v.files) = _; rw [wBs, hxd2]; rfl) hdd hno ?_ (ho _ (lastN_mem hone)) (by show wAm id (wEf v.files) = _; rw [wBs, hx]; rfl) hxd
   rcases hlen with hlen | hlen
   ·exact hlen
   cases hlen
theorem unlink_wfs : WFS (n + 1) (wDo S.abs w).1 := by
 unfold wDo
 cases hw : wCh S.abs w with
 | error e => exact h.more (Nat.le_succ n)
 | ok id =>
  obtain ⟨v, x, hv, hx, hwv, hxd⟩ := wEi h hw
  have hva : wAm w.1 S.abs.vols = some v.abs := by rw [wBp, hv]; rfl
  obtain ⟨hne, d, v2, xd, hpl, hv2, hxd2, hdd, hl⟩ := file_place h hw
  rw [hv] at hv2; cases hv2
  simp only
  split
  ·exact h.more (Nat.le_succ n)
  rw [hpl]; simp only
  try dsimp only
  refine WFS.updVF h hva ?_
  exact hwv.unlink (d := d) (id := id) (xd := xd.pf) (x := x.pf) (by show wAm d (wEf v.files) = _; rw [wBs, hxd2]; rfl) hl (by show wAm id (wEf v.files) = _; rw [wBs, hx]; rfl) hxd
theorem rename_wfs (ho : ∀ s ∈ o.2, s.size ≤ 64) : WFS (n + 1) (wBv insB S.abs w o).1 := by
 unfold wBv
 split
 ·exact h.more (Nat.le_succ n)
 rename_i hne
 cases hw : wBb S.abs w.1 w.2 with
 | error e => exact h.more (Nat.le_succ n)
 | ok id =>
  obtain ⟨v, x, hv, hx, hwv⟩ := wGo h hw
  have hva : wAm w.1 S.abs.vols = some v.abs := by rw [wBp, hv]; rfl
  obtain ⟨d, v2, xd, hpl, hv2, hxd, hdd, hl⟩ := wHg h hne hw
  rw [hv] at hv2; cases hv2
  simp only
  rw [hpl]; simp only
  cases hf : wBo S.abs o w.1 (some d) with
  | error e => exact h.more (Nat.le_succ n)
  | ok t =>
   obtain ⟨hone, ho1, hop, v2, xt, hv2, hxt, htd, hno, hlen⟩ := wEq h hf
   rw [ho1, hv] at hv2; cases hv2
   simp only
   split
   ·exact h.more (Nat.le_succ n)
   rename_i hins
   split
   ·exact h.more (Nat.le_succ n)
   try dsimp only
   refine WFS.updVF h hva ?_
   refine hwv.move (d := d) (t := t) (id := id) (xd := xd.pf) (xt := xt.pf) (x := x.pf) (by show wAm d (wEf v.files) = _; rw [wBs, hxd]; rfl) hl (by show wAm id (wEf v.files) = _; rw [wBs, hx]; rfl) (by show wAm t (wEf v.files) = _; rw [wBs, hxt]; rfl) htd hno ?_ (ho _ (lastN_mem hone)) fun hxd2 hi => hins ?_
   ·rcases hlen with hlen | hlen
    ·exact .inl hlen
    cases hlen; exact .inr rfl
   have h1 : wGu S.abs w.1 id = true := by rw [wCn hv hx]; exact hxd2
   have h2 : insB S.abs w.1 t id = true := by unfold insB; rw [hva]; exact wJb hi
   rw [h1, h2]; rfl
theorem unmake_wfs : WFS (n + 1) (wCc S.abs w).1 := by
 unfold wCc
 cases hw : wBb S.abs w.1 w.2 with
 | error e => exact h.more (Nat.le_succ n)
 | ok id =>
  obtain ⟨v, x, hv, hx, hwv⟩ := wGo h hw
  have hva : wAm w.1 S.abs.vols = some v.abs := by rw [wBp, hv]; rfl
  simp only
  rw [wCn hv hx]
  split
  ·rename_i hd
   split
   ·exact h.more (Nat.le_succ n)
   rename_i hne
   split
   ·exact h.more (Nat.le_succ n)
   have hne1 : w.2 ≠ [] := fun e => hne (.inl e)
   have hl0 : x.pf.names = [] := by
    have h1 : ¬ 0 < (wDx S.abs w.1 id).length := fun e => hne (.inr e)
    unfold wDx at h1; rw [wFv hv hx] at h1
    exact List.eq_nil_of_length_eq_zero (by simp only at h1; omega)
   obtain ⟨d, v2, xd, hpl, hv2, hxd, hdd, hl⟩ := wHg h hne1 hw
   rw [hv] at hv2; cases hv2
   rw [hpl]; simp only
   try dsimp only
   refine WFS.updVF h hva ?_
   exact hwv.unmake (d := d) (id := id) (xd := xd.pf) (x := x.pf) (by show wAm d (wEf v.files) = _; rw [wBs, hxd]; rfl) hl (by show wAm id (wEf v.files) = _; rw [wBs, hx]; rfl) hd hl0
  exact h.more (Nat.le_succ n)
theorem same_wfs {r : PS × RP} (e : r.1 = S.abs) : WFS (n + 1) r.1 := by rw [e]; exact h.more (Nat.le_succ n)
theorem op_wfs (hw : ∀ s ∈ w.2, s.size ≤ 64) (ho : ∀ s ∈ o.2, s.size ≤ 64) (k : Nat) : WFS (n + 1) (opI insB S.abs c w o k).1 := by
 unfold opI
 split
 ·exact h.add (WFV.root n)
 ·unfold wHi
  split
  ·cases hv : wAm c.a S.abs.vols with
   | none => exact h.more (Nat.le_succ n)
   | some v => exact h.add (((h.vol _ _ hv).more (Nat.le_succ n)).frz _)
  exact h.more (Nat.le_succ n)
 ·unfold wEa
  split
  ·cases hv : wAm c.a S.abs.vols with
   | none => exact h.more (Nat.le_succ n)
   | some v => exact h.put hv (((h.vol _ _ hv).more (Nat.le_succ n)).frz _)
  exact h.more (Nat.le_succ n)
 ·unfold wEu
  cases hv : wAm c.a S.abs.vols with
  | none => exact h.more (Nat.le_succ n)
  | some v =>
   have back : ∀ k u, wAm k (wBc c.a S.abs.vols) = some u → wAm k S.abs.vols = some u := fun k u hk => by
    rw [wFo] at hk
    split at hk
    ·cases hk
    exact hk
   exact ⟨delA_nodup h.nd, h.low, by have := h.most; simp only; omega, fun k u hk => h.rng k u (back k u hk), fun k u hk => (h.vol k u (back k u hk)).more (Nat.le_succ n)⟩
 ·exact create_wfs S h c w hw
 ·exact create_wfs S h c w hw
 ·unfold wJg
  refine turn_wfs S h w _ _ fun hok b hb => write_le ?_ hb
  simp only [Bool.and_eq_true, decide_eq_true_eq] at hok
  omega
 ·refine same_wfs S h ?_
  unfold wHk
  split
  ·split <;> rfl
  rfl
 ·unfold sizeS inI
  refine turn_wfs S h w _ _ fun hok b hb => sized_le ?_
  simp only [Bool.and_eq_true, decide_eq_true_eq] at hok
  omega
 ·unfold wJp
  exact turn_wfs S h w _ _ fun hok b hb => by rw [wLg]; exact hb
 ·unfold wDd
  split
  ·rename_i hok
   unfold wGp at hok
   simp only [Bool.and_eq_true, decide_eq_true_eq] at hok
   cases hw2 : wCh S.abs w with
   | error e => exact h.more (Nat.le_succ n)
   | ok id =>
    refine turn_wfs S h o _ _ fun _ b hb => write_le ?_ hb
    rw [List.length_take, List.length_drop, wAq]; omega
  exact h.more (Nat.le_succ n)
 ·exact link_wfs S h w o ho
 ·exact unlink_wfs S h w
 ·exact rename_wfs S h w o ho
 ·exact unmake_wfs S h w
 ·refine same_wfs S h ?_
  unfold wHv
  split
  ·rfl
  split <;> rfl
 ·refine same_wfs S h ?_
  unfold statS
  split
  ·rfl
  split <;> rfl
 ·refine same_wfs S h ?_
  unfold reapS
  split <;> rfl
 exact h.more (Nat.le_succ n)
end
theorem partF_names {s : Str} {w : Wy} (h : wAy s = some w) : ∀ t ∈ w.2, wFq t = true := by
 unfold wAy wLh at h
 split at h
 ·split at h
  ·split at h
   ·split at h
    ·cases h
    split at h
    ·rename_i h2
     cases h
     exact List.all_eq_true.1 h2.2.2.2
    cases h
   cases h
  cases h
 cases h
theorem okName_size {t : Str} (h : wFq t = true) : t.size ≤ 64 := by
 unfold wFq at h
 simp only [Bool.and_eq_true, decide_eq_true_eq] at h
 omega
theorem do_wfs {n : Nat} {S : PS} (h : WFS n S) (c : CL) : WFS (n + 1) (doI insB wAy S c).1 := by
 rw [← abs_toCS S] at h ⊢
 unfold doI
 split
 ·exact h.more (Nat.le_succ n)
 split
 ·exact op_wfs _ h c _ _ (fun s hs => by cases hs) (fun s hs => by cases hs) _
 cases hp : wAy c.path with
 | none => exact h.more (Nat.le_succ n)
 | some w =>
  have hw : ∀ s ∈ w.2, s.size ≤ 64 := fun s hs => okName_size (partF_names hp s hs)
  simp only
  split
  ·exact op_wfs _ h c _ _ hw (fun s hs => by cases hs) _
  cases hp2 : wAy c.other with
  | none => exact h.more (Nat.le_succ n)
  | some o =>
   exact op_wfs _ h c _ _ hw (fun s hs => okName_size (partF_names hp2 s hs)) _
theorem run_wfs : ∀ (l : List CL) {n : Nat} {S : PS} (h : WFS n S), WFS (n + l.length) (wKj insB wAy S l).1
 | [], n, S, h => h
 | c :: l, n, S, h => by
  have := run_wfs l (do_wfs h c)
  rw [wKj, List.length_cons, show n + (l.length + 1) = n + 1 + l.length by omega]
  exact this
theorem play_wfs (l : List CL) (k : Nat) (hk : k ≤ l.length) : WFS k (wKj insB wAy PS0 (l.take k)).1 := by
 have := run_wfs (l.take k) WFS.zero
 rw [List.length_take, Nat.zero_add, Nat.min_eq_left hk] at this
 exact this
end Go.Proofs.YtokljhkplbkggaaGreatDoor
