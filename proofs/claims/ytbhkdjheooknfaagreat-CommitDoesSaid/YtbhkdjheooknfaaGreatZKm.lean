/- Walks: the document's counts of a pool's blocks, the main way. -/
import Derived.Test.YtbhkdjheooknfaaGreatZKk
namespace Go.Proofs.YtbhkdjheooknfaaGreat
set_option linter.unusedSimpArgs false
set_option linter.unusedVariables false
set_option linter.unusedSectionVars false
open Go.RowKit
def wJt (p : Po) (xs : List It) : List Int := wEk p.root p.dead (xs.map wCm)
def mkAll (p : Po) (xs : List It) : Prop := xs.length ≤ 16 ∧ (∀ x ∈ xs, 1 ≤ x.key.id ∧ x.key.id < p.next) ∧ ∀ r ∈ wJt p xs, wGx p.st r = true
def MkMain (p : Po) (xs : List It) (u : Value) (M' : Mem) : Prop := (mkAll p xs ∧ ∃ R N a c v2, u = .tuple #[.slice a (List.length R) c, v2, .bool true] ∧ List.length R = 256 ∧ SM M' a (wAw R) ∧ Fin p.st (wJt p xs) R N) ∨ (¬ mkAll p xs ∧ u = mkNo)
theorem Fin.start (s : Sto) : Fin s [] zI zI := (Frj.start s).fin
theorem Fin.step {s : Sto} {rs : List Int} {r : Int} {R N R' N' : List Int} {T : Nat} (h : Fin s rs R N) (hl : R.length = 256) (hr : 0 ≤ r ∧ r < 256) (hp : MrP s (rs ++ [r]) r.toNat (R.set r.toNat (R.getD r.toNat 0 + 1)) N R' N' T) : Fin s (rs ++ [r]) R' N' := by
 have hg := fun j => set_get (N := R) (k := r.toNat) (v := R.getD r.toNat 0 + 1) (by omega) j
 refine ⟨fun j hj => ?_, fun n => ⟨fun hn => ?_, fun hn => ?_⟩⟩
 ·have h1 := hp.eq j hj
  have h2 := h.eq j hj
  rw [hg j] at h1
  rw [List.count_append, List.count_singleton]
  by_cases e : j = r.toNat
  ·rw [if_pos e, ← e] at h1
   rw [if_pos (by simp; omega)]; push_cast; omega
  rw [if_neg e] at h1
  rw [if_neg (by simp; omega)]; push_cast; omega
 ·rcases hp.new n hn with h1 | h1
  ·exact ((h.on n).1 h1).mono fun z hz => by simp [hz]
  exact h1.1
 induction hn with
 | root hz =>
  rcases List.mem_append.1 hz with hz | hz
  ·exact hp.sub _ ((h.on _).2 (.root hz))
  rw [List.mem_singleton.1 hz]; exact hp.me
 | kid hn0 hnd hl0 hx ih =>
  rcases hp.new _ ih with h1 | h1
  ·exact hp.sub _ ((h.on _).2 (.kid ((h.on _).1 h1) hnd hl0 hx))
  exact h1.2 _ _ hnd hl0 _ hx
theorem rmarks14_vol (p : Po) (bv wv lw : Value) (na da : Option Addr) (nc dc : Nat) (M : Mem) (hS : ST M (.agg #[bv, wv, .slice na p.st.now.length nc, lw]) p.st) (hd : SM M da (wAw p.dead)) (hf : fewP p) (hr : -9223372036854775808 ≤ p.root ∧ p.root ≤ 9223372036854775807) (hst : wDr p.st) (hdl : p.dead.length ≤ 40) (hrt : wGx p.st p.root = true) (lev : Nat) (xs0 xs : List It) (hnd : wCu p.st p.root.toNat = some ((lev : Int), xs0)) (htr : wHa p.st lev xs0) (hxs : xs = allL p.st lev xs0) (hvi : (xs.all fun x => decide (wCy x)) = false) :
  SpecL Tryz.prog 57 #[.agg #[bv, wv, .slice na p.st.now.length nc, lw, .int .u32 p.gen, .int .i64 p.root, .int .u32 p.next, .slice da p.dead.length dc]] M [] fun u _ L' => u = mkNo ∧ L' = [] := by
 obtain ⟨f1, f2⟩ := hf
 have hno := wBy hnd
 have hlv := hno.lev
 have hsm := wKi (s := p.st) (l := lev) (xs := xs0) (by omega) hno.len
 have hxl : xs.length ≤ 100000 := by rw [hxs]; unfold allL; omega
 have hvl : ∀ x ∈ xs, x.val.length ≤ 1000 := fun x hx => by rw [hxs] at hx; have := allL_val hnd x hx; omega
 have hrr := (rt_tree hrt).1
 refine wAe (vs := [_]) 117 _ Tryz.func57 rfl Tryz.ntmps57 rfl rfl ?_; intro W
 refine wAb (wAa (wAv rfl rfl (wBw (cs := [_, _, _, _, _, _, _, _]) rfl rfl rfl rfl) ?_)); rintro _ _ _ ⟨b1, rfl, rfl, rfl⟩
 refine jp rfl (jp rfl (jp rfl (wAc (jT (wAb (wAb (wAa (sFa rfl ?_))))))))
 refine sLL rfl ?_
 refine wAi rfl rfl (wAy rfl rfl rfl rfl rfl (by kernel_rfl) (rmay8_true p.st _ M hS f1 hst)) ?_
 refine jp rfl (jp rfl (sFL rfl rfl ?_))
 refine wAi rfl rfl (wBe rfl rfl rfl) ?_
 refine jf rfl (decide_eq_false (by omega)) ?_
 refine jp rfl (wAc (jT (wAk rfl (wAd (jT (wAb (wBn [(0, true), (1, true), (2, false), (3, true), (4, false), (5, true)] [(b1, .cells [bv, wv, .slice na p.st.now.length nc, lw, .int .u32 p.gen, .int .i64 p.root, .int .u32 p.next, .slice da p.dead.length dc].toArray 32 (0, 0))] (by kernel_rfl) (by kernel_rfl) (by kernel_rfl) rfl (by simp) ?_)))))))
 refine dFa rfl rfl ?_
 refine dLL rfl rfl ?_
 refine wDy rfl rfl rfl (wEa rfl rfl rfl rfl (by omega) (by rfl)) ?_; rintro _ _ _ ⟨b25, rfl, rfl, rfl⟩
 refine ⟨_, _, MLe.refl _, MLe.refl _, fun _ h => h, fun _ h => by first | exact List.mem_cons_of_mem _ h | exact List.mem_cons_of_mem _ (List.mem_cons_of_mem _ h), ?_⟩
 refine wBh rfl rfl rfl (wAq (cs := [_, _, _, _, _]) rfl rfl rfl (by rfl)) ?_
 refine wDy rfl rfl rfl (wBw (cs := [_, _, _, _, _]) rfl rfl rfl rfl) ?_; rintro _ _ _ ⟨b27, rfl, rfl, rfl⟩
 refine ⟨_, _, MLe.refl _, MLe.refl _, fun _ h => h, fun _ h => by first | exact List.mem_cons_of_mem _ h | exact List.mem_cons_of_mem _ (List.mem_cons_of_mem _ h), ?_⟩
 refine dp rfl rfl ?_
 refine wBg (jPn (jT (wAb (wAb ?_))))
 rw [show (List.replicate (256 : Int).toNat [Value.int .i64 0, .slice none 0 0, .int .u8 0, .int .u32 0, .int .u32 0, .int .u8 0, .int .u32 0, .int .u32 0, .bool false, .bool false]).flatten = (List.replicate 256 spn0).flatMap wCj from spn_zero 256]
 rw [show (256 : Int).toNat = 256 from rfl]
 refine wAa (jp rfl (sFL rfl rfl ?_))
 refine wAv rfl rfl (wAt rfl rfl rfl rfl rfl (by kernel_rfl) (learn_rt (kb := b27) (g := b25) hst p.root M _ hS (SpI.zero M p.st) hr)) ?_; rintro _ M1 _ ⟨hM1, _, rfl, ⟨xlv, xa, xn, xc, xp, xd, ss, rfl, hSI, hE, rfl, hlr⟩⟩
 simp only [List.cons_append, List.nil_append]
 have hq := lrq_rt hlr
 obtain ⟨xpf, xpl, xpi⟩ := xp
 obtain rfl : xpi = true := hq.1.trans hrt
 refine wAi rfl rfl (qField rfl rfl rfl rfl rfl) ?_
 refine jp rfl (wAc (jT (wAk rfl (wAd (jT (wAb (wAa (sLL rfl ?_))))))))
 refine wAv rfl rfl (wAt rfl rfl rfl rfl rfl (by kernel_rfl) (rall14_walk bv wv (.slice na p.st.now.length nc) lw (.slice da p.dead.length dc) p.gen p.root p.next xs M1 hxl hvl (by rw [hxs]; exact ritems_all p.st hst lev p.root xs0 _ M1 (hS.mono hM1) (by omega) hnd htr))) ?_; rintro _ M2 _ ⟨hM2, _, rfl, ⟨hal, rfl⟩⟩
 simp only [nA]
 unfold AllP at hal
 rw [if_neg (by rw [hvi]; decide)] at hal
 subst hal
 refine jp rfl (jp rfl (jp rfl (jp rfl (jp rfl (wAc (jT (wAb (wAb (wAa ?_)))))))))
 iterate 7 refine jp rfl ?_
 refine wAc (jT (wAg rfl (wAb (wAa (jp rfl (jp rfl (jp rfl (wAc (jT (wAf (jTr (wAu (L' := []) (List.nil_sublist _) ?_))))))))))))
 refine jr3 rfl rfl rfl rfl ?_
 exact ⟨rfl, rfl⟩
theorem rep_zI {n : Nat} : (List.replicate n [Value.int .i64 0]).flatten = (List.replicate n (0 : Int)).map (Value.int .i64) := by
 induction n with
 | zero => rfl
 | succ n ih => rw [List.replicate_succ, List.flatten_cons, ih, List.replicate_succ, List.map_cons]; rfl
def rtsK (p : Po) (xs : List It) (k : Nat) : List Int := (p.root :: p.dead) ++ (xs.take k).map (fun x => (wCm x).root)
theorem rtsK_len (p : Po) (xs : List It) {k : Nat} (hk : k ≤ xs.length) : (rtsK p xs k).length = 1 + p.dead.length + k := by unfold rtsK; simp; omega
theorem rtsK_step (p : Po) {xs : List It} {k : Nat} (hk : k < xs.length) : rtsK p xs (k + 1) = rtsK p xs k ++ [(wCm xs[k]).root] := by unfold rtsK; rw [List.take_succ_eq_append_getElem hk, List.map_append, List.append_assoc]; rfl
theorem rtsK_all (p : Po) (xs : List It) : rtsK p xs xs.length = wJt p xs := by unfold rtsK wJt wEk; rw [List.take_length, List.map_map]; rfl
theorem mk_not {p : Po} {xs : List It} {k : Nat} (hk : k < xs.length) (h : ¬ (1 ≤ xs[k].key.id ∧ xs[k].key.id < p.next)) : ¬ mkAll p xs := fun hm => h (hm.2.1 _ (List.getElem_mem hk))
set_option maxHeartbeats 4000000 in
theorem rmarks14_main (p : Po) (bv wv lw : Value) (na da : Option Addr) (nc dc : Nat) (M : Mem) (hS : ST M (.agg #[bv, wv, .slice na p.st.now.length nc, lw]) p.st) (hd : SM M da (wAw p.dead)) (hf : fewP p) (hr : -9223372036854775808 ≤ p.root ∧ p.root ≤ 9223372036854775807) (hst : wDr p.st) (hdl : p.dead.length ≤ 40) (hrt : wGx p.st p.root = true) (lev : Nat) (xs0 xs : List It) (hnd : wCu p.st p.root.toNat = some ((lev : Int), xs0)) (htr : wHa p.st lev xs0) (hxs : xs = allL p.st lev xs0) (hvi : (xs.all fun x => decide (wCy x)) = true) (hdb : ∀ d ∈ p.dead, -9223372036854775808 ≤ d ∧ d ≤ 9223372036854775807) (hrts : ∀ r ∈ wJt p xs, -9223372036854775808 ≤ r ∧ r ≤ 9223372036854775807) :
  SpecL Tryz.prog 57 #[.agg #[bv, wv, .slice na p.st.now.length nc, lw, .int .u32 p.gen, .int .i64 p.root, .int .u32 p.next, .slice da p.dead.length dc]] M [] fun u M' L' => MkMain p xs u M' ∧ L' = [] := by
 obtain ⟨f1, f2⟩ := hf
 have hno := wBy hnd
 have hlv := hno.lev
 have hsm := wKi (s := p.st) (l := lev) (xs := xs0) (by omega) hno.len
 have hxl : xs.length ≤ 100000 := by rw [hxs]; unfold allL; omega
 have hvl : ∀ x ∈ xs, x.val.length ≤ 1000 := fun x hx => by rw [hxs] at hx; have := allL_val hnd x hx; omega
 have hrr := (rt_tree hrt).1
 refine wAe (vs := [_]) 117 _ Tryz.func57 rfl Tryz.ntmps57 rfl rfl ?_; intro W
 refine wAb (wAa (wAv rfl rfl (wBw (cs := [_, _, _, _, _, _, _, _]) rfl rfl rfl rfl) ?_)); rintro _ _ _ ⟨b1, rfl, rfl, rfl⟩
 refine jp rfl (jp rfl (jp rfl (wAc (jT (wAb (wAb (wAa (sFa rfl ?_))))))))
 refine sLL rfl ?_
 refine wAi rfl rfl (wAy rfl rfl rfl rfl rfl (by kernel_rfl) (rmay8_true p.st _ M hS f1 hst)) ?_
 refine jp rfl (jp rfl (sFL rfl rfl ?_))
 refine wAi rfl rfl (wBe rfl rfl rfl) ?_
 refine jf rfl (decide_eq_false (by omega)) ?_
 refine jp rfl (wAc (jT (wAk rfl (wAd (jT (wAb (wBn [(0, true), (1, true), (2, false), (3, true), (4, false), (5, true)] [(b1, .cells [bv, wv, .slice na p.st.now.length nc, lw, .int .u32 p.gen, .int .i64 p.root, .int .u32 p.next, .slice da p.dead.length dc].toArray 32 (0, 0))] (by kernel_rfl) (by kernel_rfl) (by kernel_rfl) rfl (by simp) ?_)))))))
 refine dFa rfl rfl ?_
 refine dLL rfl rfl ?_
 refine wDy rfl rfl rfl (wEa rfl rfl rfl rfl (by omega) (by rfl)) ?_; rintro _ _ _ ⟨b25, rfl, rfl, rfl⟩
 refine ⟨_, _, MLe.refl _, MLe.refl _, fun _ h => h, fun _ h => by first | exact List.mem_cons_of_mem _ h | exact List.mem_cons_of_mem _ (List.mem_cons_of_mem _ h), ?_⟩
 refine wBh rfl rfl rfl (wAq (cs := [_, _, _, _, _]) rfl rfl rfl (by rfl)) ?_
 refine wDy rfl rfl rfl (wBw (cs := [_, _, _, _, _]) rfl rfl rfl rfl) ?_; rintro _ _ _ ⟨b27, rfl, rfl, rfl⟩
 refine ⟨_, _, MLe.refl _, MLe.refl _, fun _ h => h, fun _ h => by first | exact List.mem_cons_of_mem _ h | exact List.mem_cons_of_mem _ (List.mem_cons_of_mem _ h), ?_⟩
 refine dp rfl rfl ?_
 refine wBg (jPn (jT (wAb (wAb ?_))))
 rw [show (List.replicate (256 : Int).toNat [Value.int .i64 0, .slice none 0 0, .int .u8 0, .int .u32 0, .int .u32 0, .int .u8 0, .int .u32 0, .int .u32 0, .bool false, .bool false]).flatten = (List.replicate 256 spn0).flatMap wCj from spn_zero 256]
 rw [show (256 : Int).toNat = 256 from rfl]
 refine wAa (jp rfl (sFL rfl rfl ?_))
 refine wAv rfl rfl (wAt rfl rfl rfl rfl rfl (by kernel_rfl) (learn_rt (kb := b27) (g := b25) hst p.root M _ hS (SpI.zero M p.st) hr)) ?_; rintro _ M1 _ ⟨hM1, _, rfl, ⟨xlv, xa, xn, xc, xp, xd, ss, rfl, hSI, hE, rfl, hlr⟩⟩
 simp only [List.cons_append, List.nil_append]
 have hq := lrq_rt hlr
 obtain ⟨xpf, xpl, xpi⟩ := xp
 obtain rfl : xpi = true := hq.1.trans hrt
 refine wAi rfl rfl (qField rfl rfl rfl rfl rfl) ?_
 refine jp rfl (wAc (jT (wAk rfl (wAd (jT (wAb (wAa (sLL rfl ?_))))))))
 refine wAv rfl rfl (wAt rfl rfl rfl rfl rfl (by kernel_rfl) (rall14_walk bv wv (.slice na p.st.now.length nc) lw (.slice da p.dead.length dc) p.gen p.root p.next xs M1 hxl hvl (by rw [hxs]; exact ritems_all p.st hst lev p.root xs0 _ M1 (hS.mono hM1) (by omega) hnd htr))) ?_; rintro _ M2 _ ⟨hM2, _, rfl, ⟨hal, rfl⟩⟩
 simp only [nA]
 unfold AllP at hal
 rw [if_pos hvi] at hal
 obtain ⟨va, vc, rfl, hvc, hvs⟩ := hal
 refine jp rfl (jp rfl (jp rfl (jp rfl (jp rfl (wAc (jT (wAb (wAb (wAa (jp rfl (jp rfl (jp rfl (jp rfl (wAi rfl rfl (wBe rfl rfl rfl) ?_))))))))))))))
 refine js rfl (fun h44 => ?_) (fun h44 => ?_)
 ·refine jp rfl (wAc (jT (wAg rfl (wAb (wAa (jp rfl (jp rfl (jp rfl (wAc (jT (wAf (jTr (wAu (L' := []) (List.nil_sublist _) ?_)))))))))))))
  refine jr3 rfl rfl rfl rfl ?_
  exact ⟨.inr ⟨fun hm => by have := hm.1; omega, rfl⟩, rfl⟩
 refine jp rfl (wAc (jT (wAk rfl (wAd (jT (wAb (wAa (sFL rfl rfl ?_))))))))
 refine wAv rfl rfl (wAr (cs := [.int .i64 p.root]) rfl rfl rfl (by rfl) (by rfl) (by rfl)) ?_; rintro _ _ _ ⟨b48, rfl, rfl, rfl⟩
 refine sFL rfl rfl ?_
 refine wAv rfl rfl (wBk (R := [(b48, .cells [Value.int .i64 p.root].toArray 3 (0, 0))]) rfl rfl rfl rfl own_oneI (by rw [wBc, Nat.mul_one]) (hd.mono (hM1.trans hM2)) rfl (wHu _) (by omega) (by omega)) ?_; rintro v51 _ _ ⟨rfl, R51, rfl, o51⟩
 obtain ⟨a51, c51, rfl⟩ := o51.form
 refine jp rfl (wAc (jT (wAb (wAb (wAa (jp rfl (wAc (jT (wAh ?_)))))))))
 refine wAo (α := Nat × Option Addr × Nat × Lc) (fun z => [(1, .pointer (some ⟨b1, 0, none⟩)), (5, .pointer (some ⟨b27, 0, none⟩)), (6, .slice va xs.length vc), (8, .slice z.2.1 (1 + p.dead.length + z.1) z.2.2.1), (9, .int .i64 z.1)]) (fun z => M2) (fun z => z.2.2.2 ++ [(b27, .cells [bv, wv, .slice na p.st.now.length nc, lw, .slice (some ⟨b25, 0, none⟩) 256 256].toArray 134 (0, 0)), (b25, .cells (List.flatMap wCj ss).toArray 136 (0, 0)), (b1, .cells [bv, wv, .slice na p.st.now.length nc, lw, .int .u32 p.gen, .int .i64 p.root, .int .u32 p.next, .slice da p.dead.length dc].toArray 32 (0, 0))]) (fun z => z.1 ≤ xs.length ∧ Own (.slice z.2.1 (1 + p.dead.length + z.1) z.2.2.1) z.2.2.2 3 1 (1 + p.dead.length + z.1) (wAw (rtsK p xs z.1)) ∧ ∀ y ∈ xs.take z.1, 1 ≤ y.key.id ∧ y.key.id < p.next) (fun z => xs.length - z.1)
  (0, a51, c51, R51) (.cons (t := 1) rfl (.cons (t := 5) rfl (.cons (t := 6) rfl (.cons (t := 8) rfl (.cons (t := 9) rfl .nil))))) ⟨Nat.zero_le _, o51.to rfl (by unfold rtsK wAw; simp), fun y h => by simp at h⟩ (fun _ h => h) ?_
 rintro ⟨k, oa, oc, R⟩ ⟨hk, hO, hids⟩
 try dsimp only at hk hO hids ⊢
 refine wAb (wAb (wAa (jp rfl (jp rfl (wAi rfl rfl (wBe rfl rfl rfl) ?_)))))
 refine js rfl (fun h55 => ?_) (fun h55 => ?_)
 ·refine wAc (jT (wAg rfl (wAd (jT (wAb (wAh (wAb (wAb (wBn [(0, true), (1, true), (2, true), (3, true), (4, true), (5, true), (6, true), (7, true), (8, true), (9, true), (10, true), (11, true), (12, true), (13, true), (14, true), (15, true)] _ (by kernel_rfl) (by kernel_rfl) (by kernel_rfl) rfl (fun _ h => h) ?_)))))))))
  iterate 2 refine dp rfl rfl ?_
  have hk1 : k < xs.length := by omega
  obtain ⟨vb, vo, e0, hvx⟩ := hvs.open (by intro e; have := congrArg List.length e; rw [wBm voc 4 voc_len, List.length_map, List.length_nil] at this; omega)
  have hvk := flat_cm voc 4 voc_len hvx (k := k) (x := wCm xs[k]) (by simp [hk1])
  refine wBh rfl rfl rfl (wCf rfl rfl rfl rfl e0 (by omega)) ?_
  refine dFa rfl rfl ?_
  refine wBh rfl rfl rfl (qLd rfl rfl rfl rfl ((hvk 0 _ rfl).cj _)) ?_
  refine ds rfl rfl (fun h63 => ?_) (fun h63 => ?_)
  ·iterate 10 refine dp rfl rfl ?_
   refine wBg (jPn (jT (wAg rfl (wAb (wAa (jp rfl (jp rfl (jp rfl (wAc (jT (wAf (jTr (jBr (jTr (jTr (jBr (jTr (wAu (L' := []) (List.nil_sublist _) ?_))))))))))))))))))
   refine jr3 rfl rfl rfl rfl ?_
   refine ⟨.inr ⟨mk_not hk1 (fun hh => ?_), rfl⟩, rfl⟩
   have h1 : (wCm xs[k]).id = xs[k].key.id := rfl
   omega
  iterate 3 refine dp rfl rfl ?_
  refine wBh rfl rfl rfl (wCf rfl rfl rfl rfl e0 (by omega)) ?_
  refine dFa rfl rfl ?_
  refine wBh rfl rfl rfl (qLd rfl rfl rfl rfl ((hvk 0 _ rfl).cj _)) ?_
  refine dFa rfl rfl ?_
  refine dLd rfl rfl ?_
  refine ds rfl rfl (fun h72 => ?_) (fun h72 => ?_)
  ·refine dp rfl rfl ?_
   refine wBg (jPn (jT (wAg rfl (wAb (wAa (jp rfl (jp rfl (jp rfl (wAc (jT (wAf (jTr (jBr (jTr (jTr (jBr (jTr (wAu (L' := []) (List.nil_sublist _) ?_))))))))))))))))))
   refine jr3 rfl rfl rfl rfl ?_
   refine ⟨.inr ⟨mk_not hk1 (fun hh => ?_), rfl⟩, rfl⟩
   have h1 : (wCm xs[k]).id = xs[k].key.id := rfl
   omega
  refine dp rfl rfl ?_
  refine wBg (jPn (jT (wAk rfl (wAd (jT (wAa (jp rfl (jp rfl (jp rfl (wAi rfl rfl (wCf rfl rfl rfl rfl e0 (by omega)) ?_))))))))))
  refine sFa rfl ?_
  refine wAi rfl rfl (qLd rfl rfl rfl rfl ((hvk 1 _ rfl).cj _)) ?_
  refine wAv rfl rfl (wAr (cs := [.int .i64 (wCm xs[k]).root]) rfl rfl rfl (by rfl) (by rfl) (by rfl)) ?_; rintro _ _ _ ⟨b80, rfl, rfl, rfl⟩
  refine wAv rfl rfl (wCr (R := R) (m := 1) (news := [Value.int .i64 (wCm xs[k]).root]) rfl rfl rfl rfl hO rfl (fun j v hv => CJ.loc (by rw [Nat.zero_add]; simpa using hv)) rfl (by rfl) (fun u hu => by rw [List.mem_singleton.1 hu]; rfl) (by omega) (by omega)) ?_; rintro v81 _ _ ⟨rfl, R81, rfl, o81, _⟩
  obtain ⟨a81, c81, rfl⟩ := o81.form
  refine jp rfl (wAc (jB (jT (wAa (jp rfl (ja rfl (by omega) ?_))))))
  refine jp rfl (wAc ?_)
  refine wAn (k + 1, a81, c81, R81) (.cons (t := 1) rfl (.cons (t := 5) rfl (.cons (t := 6) rfl (.cons (t := 8) rfl (.cons (t := 9) rfl .nil))))) ⟨by show k + 1 ≤ xs.length; omega, o81.to rfl (by rw [rtsK_step p hk1]; unfold wAw; rw [List.map_append]; rfl), wEy hk1 hids ⟨by show 1 ≤ (wCm xs[k]).id; omega, by show (wCm xs[k]).id < _; omega⟩⟩ (by show xs.length - (k + 1) < xs.length - k; omega) (fun _ h => h.subC fun f => by simp only [List.map_append, List.map_cons, List.map_nil, List.sum_append, List.sum_cons, List.sum_nil]; omega)
 refine wAc (jT (wAk rfl (wAs (jTx (jTx (jBx (jT (wAb ?_))))))))
 obtain rfl : k = xs.length := by omega
 refine jc_own hO (by simp) ?_
 intro M4 a8 c8 hM4 e8 hc8 hs8; cases e8
 rw [rtsK_all] at hs8
 have hrl := rtsK_len p xs (Nat.le_refl _)
 rw [rtsK_all] at hrl
 refine wEf ([(b27, .cells [bv, wv, .slice na p.st.now.length nc, lw, .slice (some ⟨b25, 0, none⟩) 256 256].toArray 134 (0, 0)), (b25, .cells (List.flatMap wCj ss).toArray 136 (0, 0)), (b1, .cells [bv, wv, .slice na p.st.now.length nc, lw, .int .u32 p.gen, .int .i64 p.root, .int .u32 p.next, .slice da p.dead.length dc].toArray 32 (0, 0))]) (by kernel_rfl) ((fun _ h => h)) ?_
 refine wEh (α := Nat × Nat) (fun _ => True) (fun q => [(1, .pointer (some ⟨b1, 0, none⟩)), (5, .pointer (some ⟨b27, 0, none⟩)), (8, .slice oa (1 + p.dead.length + xs.length) oc), (10, .slice (some ⟨q.1, 0, none⟩) 256 256), (11, .slice (some ⟨q.2, 0, none⟩) 256 256)]) (fun _ => M4) (fun q => [(q.1, .cells (List.map (Value.int .i64) (List.replicate 256 (0 : Int))).toArray 3 (0, 0)), (q.2, .cells (List.map (Value.int .i64) (List.replicate 256 (0 : Int))).toArray 3 (0, 0)), (b27, .cells [bv, wv, .slice na p.st.now.length nc, lw, .slice (some ⟨b25, 0, none⟩) 256 256].toArray 134 (0, 0)), (b25, .cells (List.flatMap wCj ss).toArray 136 (0, 0)), (b1, .cells [bv, wv, .slice na p.st.now.length nc, lw, .int .u32 p.gen, .int .i64 p.root, .int .u32 p.next, .slice da p.dead.length dc].toArray 32 (0, 0))]) 0 #[true, true, true, true] ?_ (fun rest => ?_)
 ·rintro ⟨b82, b83⟩ _
  try dsimp only
  refine wHi (by kernel_rfl) ?_
  refine jPn (jT (wAb (wAb (wAa (jp rfl (wAc (jT (wAh ?_))))))))
  refine wAo (α := Nat × Mem × List Int × List Int × List Spn) (fun z => [(1, .pointer (some ⟨b1, 0, none⟩)), (5, .pointer (some ⟨b27, 0, none⟩)), (8, .slice oa (1 + p.dead.length + xs.length) oc), (10, .slice (some ⟨b82, 0, none⟩) 256 256), (11, .slice (some ⟨b83, 0, none⟩) 256 256), (12, .int .i64 z.1)]) (fun z => z.2.1) (fun z => [(b82, .cells (List.map (Value.int .i64) z.2.2.1).toArray 3 (0, 0)), (b83, .cells (List.map (Value.int .i64) z.2.2.2.1).toArray 3 (0, 0)), (b27, .cells [bv, wv, .slice na p.st.now.length nc, lw, .slice (some ⟨b25, 0, none⟩) 256 256].toArray 134 (0, 0)), (b25, .cells (List.flatMap wCj z.2.2.2.2).toArray 136 (0, 0)), (b1, .cells [bv, wv, .slice na p.st.now.length nc, lw, .int .u32 p.gen, .int .i64 p.root, .int .u32 p.next, .slice da p.dead.length dc].toArray 32 (0, 0))]) (fun z => z.1 ≤ (wJt p xs).length ∧ MLe M4 z.2.1 ∧ SpI z.2.1 p.st z.2.2.2.2 ∧ z.2.2.1.length = 256 ∧ z.2.2.2.1.length = 256 ∧ (∀ j, 0 ≤ z.2.2.1.getD j 0 ∧ z.2.2.1.getD j 0 ≤ z.1 * 40000) ∧ Fin p.st ((wJt p xs).take z.1) z.2.2.1 z.2.2.2.1 ∧ ∀ r ∈ (wJt p xs).take z.1, wGx p.st r = true) (fun z => (wJt p xs).length - z.1)
   (0, M4, zI, zI, ss) (.cons (t := 1) rfl (.cons (t := 5) rfl (.cons (t := 8) rfl (.cons (t := 10) rfl (.cons (t := 11) rfl (.cons (t := 12) rfl .nil)))))) ⟨Nat.zero_le _, MLe.refl _, (hSI.mono hM2).mono hM4, wJa, wJa, fun j => by have e : zI.getD j 0 = 0 := (by unfold zI; rw [List.getD, List.getElem?_replicate]; split <;> rfl); rw [e]; omega, Fin.start _, fun r h => by simp at h⟩ (fun _ h => h) ?_
  rintro ⟨i, Mk, R2, N2, ss2⟩ ⟨hi, hMk, hS2, hRl, hNl, hRb, hFin, hok⟩
  try dsimp only at hi hMk hS2 hRl hNl hRb hFin hok ⊢
  refine wAb (wAb (wAa (jp rfl (jp rfl (wAi rfl rfl (wBe rfl rfl rfl) ?_)))))
  refine js rfl (fun h87 => ?_) (fun h87 => ?_)
  ·refine wAc (jT (wAg rfl (wAd (jT (wAb (wAh (wAb (wAb (wAa (jp rfl (jp rfl (jp rfl ?_))))))))))))
   have hi1 : i < (wJt p xs).length := by omega
   obtain ⟨rb, ro, g0, hrx⟩ := hs8.open (by intro e; have := congrArg List.length e; rw [wBc, List.length_nil] at this; omega)
   have hri := hrx ((i : Int).toNat * 1) (.int .i64 (wJt p xs)[i]) (by simp [wAw, hi1])
   have hrbd := hrts _ (List.getElem_mem hi1)
   refine wAi rfl rfl (wCf rfl rfl rfl rfl g0 (by omega)) ?_
   refine wAi rfl rfl (qLd rfl rfl rfl rfl ((hri.mono hMk).cj _)) ?_
   refine wAv rfl rfl (wAt rfl rfl rfl rfl rfl (by kernel_rfl) (learn_rt (kb := b27) (g := b25) hst (wJt p xs)[i] Mk ss2 (hS.mono (((hM1.trans hM2).trans hM4).trans hMk)) hS2 hrbd)) ?_; rintro _ M5 _ ⟨hM5, _, rfl, ⟨ylv, ya, yn, yc, yp, yd, ss3, rfl, hS3, hE3, rfl, hlr3⟩⟩
   simp only [List.cons_append, List.nil_append]
   have hq3 := lrq_rt hlr3
   dsimp only at hq3
   refine wAi rfl rfl (qField rfl rfl rfl rfl rfl) ?_
   refine jsb rfl (fun h97 => ?_) (fun h97 => ?_)
   ·refine wAc (jT (wAg rfl (wAb (wAa (jp rfl (jp rfl (jp rfl (wAc (jT (wAf (jTr (jBr (jTr (jTr (jBr (jTr (wAu (L' := []) (List.nil_sublist _) ?_)))))))))))))))))
    refine jr3 rfl rfl rfl rfl ?_
    refine ⟨.inr ⟨fun hm => ?_, rfl⟩, rfl⟩
    have h1 := hm.2.2 _ (List.getElem_mem hi1)
    rw [← hq3.1] at h1
    rw [h1] at h97; simp at h97
   refine wAc (jT (wAk rfl (wAd (jT (wAb (wAa (jp rfl (jp rfl (jp rfl (wAi rfl rfl (wCf rfl rfl rfl rfl g0 (by omega)) ?_))))))))))
   refine wAi rfl rfl (qLd rfl rfl rfl rfl ((hri.mono (hMk.trans hM5)).cj _)) ?_
   have hyi : yp.is = true := by simpa using h97
   have hrok : wGx p.st (wJt p xs)[i] = true := hq3.1.symm.trans hyi
   have hrg0 := (rt_tree hrok).1
   have hRbi := hRb (wJt p xs)[i].toNat
   refine wAi rfl rfl (wBb rfl rfl rfl rfl (by omega)) ?_
   refine wAi rfl rfl (qLd rfl rfl rfl rfl (CJ.loc (zgetK (N := R2) (by omega)))) ?_
   refine ja rfl (by omega) ?_
   refine wAi rfl rfl (wBb rfl rfl rfl rfl (by omega)) ?_
   obtain ⟨inc0, hinc⟩ : ∃ z, z = R2.set (wJt p xs)[i].toNat (R2.getD (wJt p xs)[i].toNat 0 + 1) := ⟨_, rfl⟩
   refine jl_s rfl (wBd (l2 := inc0.map (Value.int .i64)) rfl rfl rfl rfl rfl rfl rfl (zfitK (N := R2) (i := (wJt p xs)[i]) (by omega)) (by rw [hinc]; exact zsetK (N := R2) (i := (wJt p xs)[i]) (by omega))) ?_; rintro _ _ _ ⟨rfl, rfl⟩
   refine wAc (jT (wAa (jp rfl (jp rfl (jp rfl (wAi rfl rfl (wCf rfl rfl rfl rfl g0 (by omega)) ?_))))))
   refine wAi rfl rfl (qLd rfl rfl rfl rfl ((hri.mono (hMk.trans hM5)).cj _)) ?_
   refine jp rfl (jp rfl ?_)
   obtain ⟨hrg, l3, ys3, hnd3, htr3⟩ := rt_tree hrok
   have hvk3 := vsk_le (l := l3) (by have := (wBy hnd3).lev; omega)
   have hl2 : (inc0).length = 256 := by rw [hinc, List.length_set]; exact hRl
   refine wAv rfl rfl (wAt rfl rfl rfl rfl rfl (by kernel_rfl) ((mrs_all (kb := b27) (g := b25) (bv := bv) (wv := wv) (lw := lw) (na := na) (nc := nc) (rs := (wJt p xs).take i ++ [(wJt p xs)[i]]) hst l3) (wJt p xs)[i] ys3 inc0 N2 (i * 40000 + 1) b82 b83 M5 ss3 hS3 (hq3.2 hyi) hrg hnd3 (.root (List.mem_append_right _ (List.mem_singleton.2 rfl))) hl2 hNl (fun j => by rw [hinc, set_get (by omega)]; have := hRb j; have := hRb (wJt p xs)[i].toNat; split <;> omega) (by omega))) ?_; rintro _ M6 _ ⟨hM6, _, rfl, ⟨rfl, R3, N3, rfl, hP⟩⟩
   refine wAc (jB (jT (wAa (jp rfl (ja rfl (by omega) ?_)))))
   refine jp rfl (wAc ?_)
   rw [hinc] at hP
   have hF2 := hFin.step hRl (by omega) hP
   rw [← List.take_succ_eq_append_getElem hi1] at hF2
   refine wAn (i + 1, M5, R3, N3, ss3) (.cons (t := 1) rfl (.cons (t := 5) rfl (.cons (t := 8) rfl (.cons (t := 10) rfl (.cons (t := 11) rfl (.cons (t := 12) rfl .nil)))))) ⟨by show i + 1 ≤ (wJt p xs).length; omega, hMk.trans hM5, hS3, hP.rl, hP.nl, fun j => ⟨(hP.rb j).1, by have h9 := (hP.rb j).2; show R3.getD j 0 ≤ (((i + 1 : Nat) : Int) * 40000); omega⟩, hF2, wEy hi1 hok hrok⟩ (by show (wJt p xs).length - (i + 1) < (wJt p xs).length - i; omega) (fun _ h => h.subC fun f => by simp only [List.map_append, List.map_cons, List.map_nil, List.sum_append, List.sum_cons, List.sum_nil]; omega)
  refine wAc (jT (wAk rfl (wAs (jTx (jTx (jBx (jT (wAb (wAa (jp rfl (jp rfl (jp rfl (jp rfl (jp rfl (wAc (jT (wAf (wCa b82 (by simp) ?_))))))))))))))))))
  intro M8 hM8 e82
  refine wAu (L' := []) (List.nil_sublist _) ?_
  refine jr3 rfl rfl rfl rfl ?_
  obtain rfl : i = (wJt p xs).length := by omega
  rw [List.take_length] at hFin hok hids
  refine ⟨.inl ⟨⟨by omega, hids, hok⟩, R2, N2, some ⟨b82, 0, none⟩, 256, _, by rw [hRl], hRl, SM.of_block (l := wAw R2) e82, hFin⟩, rfl⟩
 refine wBa [0, 1] (by kernel_rfl) rfl ⟨?_, ?_, trivial⟩
 ·refine wCs rfl rfl rfl (wEa rfl rfl rfl rfl (by omega) (by rfl)) ?_; rintro _ _ _ ⟨b82, rfl, rfl, rfl⟩
  refine wAp (MLe.refl _) (fun _ h => by first | exact List.mem_cons_of_mem _ h | exact List.mem_cons_of_mem _ (List.mem_cons_of_mem _ h)) ?_
  rw [show (List.replicate (256 : Int).toNat [Value.int .i64 0]).flatten = (List.replicate 256 (0 : Int)).map (Value.int .i64) from rep_zI]
  refine wFj (i := 2) rfl (by kernel_rfl) (by kernel_rfl) rfl ?_
  refine wBa [1] (by kernel_rfl) rfl ⟨?_, trivial⟩
  refine wCs rfl rfl rfl (wEa rfl rfl rfl rfl (by omega) (by rfl)) ?_; rintro _ _ _ ⟨b83, rfl, rfl, rfl⟩
  refine wAp (MLe.refl _) (fun _ h => by first | exact List.mem_cons_of_mem _ h | exact List.mem_cons_of_mem _ (List.mem_cons_of_mem _ h)) ?_
  rw [show (List.replicate (256 : Int).toNat [Value.int .i64 0]).flatten = (List.replicate 256 (0 : Int)).map (Value.int .i64) from rep_zI]
  refine wFj (i := 3) rfl (by kernel_rfl) (by kernel_rfl) rfl ?_
  refine wBq (listed' := #[true, true, true, true]) (by kernel_rfl) (wBp (.cons (t := 1) rfl (.cons (t := 5) rfl (.cons (t := 8) rfl (.cons (t := 10) rfl (.cons (t := 11) rfl .nil))))) ?_)
  refine wEg (M2 := M4) (L2 := [(b82, .cells (List.map (Value.int .i64) (List.replicate 256 (0 : Int))).toArray 3 (0, 0)), (b83, .cells (List.map (Value.int .i64) (List.replicate 256 (0 : Int))).toArray 3 (0, 0)), (b27, .cells [bv, wv, .slice na p.st.now.length nc, lw, .slice (some ⟨b25, 0, none⟩) 256 256].toArray 134 (0, 0)), (b25, .cells (List.flatMap wCj ss).toArray 136 (0, 0)), (b1, .cells [bv, wv, .slice na p.st.now.length nc, lw, .int .u32 p.gen, .int .i64 p.root, .int .u32 p.next, .slice da p.dead.length dc].toArray 32 (0, 0))]) (fun _ h => h.subC fun f => by simp only [List.map_append, List.map_cons, List.map_nil, List.sum_append, List.sum_cons, List.sum_nil]; omega) (MLe.refl _) (fun _ h => List.mem_cons_of_mem _ (List.mem_cons_of_mem _ h)) ?_
  exact rest (b82, b83) trivial
 refine wCs rfl rfl rfl (wEa rfl rfl rfl rfl (by omega) (by rfl)) ?_; rintro _ _ _ ⟨b83, rfl, rfl, rfl⟩
 refine wAp (MLe.refl _) (fun _ h => by first | exact List.mem_cons_of_mem _ h | exact List.mem_cons_of_mem _ (List.mem_cons_of_mem _ h)) ?_
 rw [show (List.replicate (256 : Int).toNat [Value.int .i64 0]).flatten = (List.replicate 256 (0 : Int)).map (Value.int .i64) from rep_zI]
 refine wBa [0] (by kernel_rfl) rfl ⟨?_, trivial⟩
 refine wCs rfl rfl rfl (wEa rfl rfl rfl rfl (by omega) (by rfl)) ?_; rintro _ _ _ ⟨b82, rfl, rfl, rfl⟩
 refine wAp (MLe.refl _) (fun _ h => by first | exact List.mem_cons_of_mem _ h | exact List.mem_cons_of_mem _ (List.mem_cons_of_mem _ h)) ?_
 rw [show (List.replicate (256 : Int).toNat [Value.int .i64 0]).flatten = (List.replicate 256 (0 : Int)).map (Value.int .i64) from rep_zI]
 refine wFj (i := 2) rfl (by kernel_rfl) (by kernel_rfl) rfl ?_
 refine wFj (i := 3) rfl (by kernel_rfl) (by kernel_rfl) rfl ?_
 refine wBq (listed' := #[true, true, true, true]) (by kernel_rfl) (wBp (.cons (t := 1) rfl (.cons (t := 5) rfl (.cons (t := 8) rfl (.cons (t := 10) rfl (.cons (t := 11) rfl .nil))))) ?_)
 refine wEg (M2 := M4) (L2 := [(b82, .cells (List.map (Value.int .i64) (List.replicate 256 (0 : Int))).toArray 3 (0, 0)), (b83, .cells (List.map (Value.int .i64) (List.replicate 256 (0 : Int))).toArray 3 (0, 0)), (b27, .cells [bv, wv, .slice na p.st.now.length nc, lw, .slice (some ⟨b25, 0, none⟩) 256 256].toArray 134 (0, 0)), (b25, .cells (List.flatMap wCj ss).toArray 136 (0, 0)), (b1, .cells [bv, wv, .slice na p.st.now.length nc, lw, .int .u32 p.gen, .int .i64 p.root, .int .u32 p.next, .slice da p.dead.length dc].toArray 32 (0, 0))]) (fun _ h => h.subC fun f => by simp only [List.map_append, List.map_cons, List.map_nil, List.sum_append, List.sum_cons, List.sum_nil]; omega) (MLe.refl _) (fun _ h => List.mem_cons_of_mem _ (List.mem_cons_of_mem _ h)) ?_
 exact rest (b82, b83) trivial
end Go.Proofs.YtbhkdjheooknfaaGreat
