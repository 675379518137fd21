/- THE WALKING LAYER: regions in which several operations that take memory are ready at once; appends of what is read; a make appended. No statement of the seat is proved here. -/
import Derived.Test.YtkcpllhggofloaaGreatZHn
import Derived.Lib.AppendZeros
namespace Go.Proofs.YtkcpllhggofloaaGreat
set_option linter.unusedVariables false
set_option linter.unusedSectionVars false
set_option linter.unusedSimpArgs false
open Go.RowKit
section
variable {P : Program} {ops : Array Oper} {N : Fs} {Q : Exit → Act → World → Prop} {F F' : Fr} {E : Ent} {M : Mem} {L : Lc} {Mi : Mem} {Li : Lc} {fuel : Nat} {listed : Array Bool}
theorem AC.pt {A : Nat → Bool} {r : Option Nat} {md : Region.Mode} {J I C : Cls} {g : Bool} {a : Act} : ∀ {fuel : Nat}, (∀ w, C w → ∃ C' : Cls, C' w ∧ AC A r P md ops Q J I fuel g listed a C') → AC A r P md ops Q J I fuel g listed a C
 | 0, h => fun w hw => by obtain ⟨C', h1, h2⟩ := h w hw; exact h2 w h1
 | _ + 1, h => fun w hw => by obtain ⟨C', h1, h2⟩ := h w hw; exact h2 w h1
def JA (P : Program) (ops : Array Oper) (N : Fs) (Q : Exit → Act → World → Prop) (fuel : Nat) (listed : Array Bool) (F : Fr) (E : Ent) (M : Mem) (L : Lc) (Mi : Mem) (Li : Lc) : Prop :=
 MLe Mi M → (∀ p ∈ Li, p ∈ L) → ∀ a, Has N F a → AC (fun _ => true) N.r P .any ops Q (Js Mi Li) (Js Mi Li) fuel true listed a (St E M L)
theorem wFr {id : Nat} {l : List Oper} (Li : Lc) (hm : P.follows .mixedOrders = true) (hLi : ∀ p ∈ Li, p ∈ L) (h : JA P l.toArray N (NoPanic Q) l.length (Array.replicate l.length false) F E M L M Li) : JC P N (.region id l.toArray true) F E M L Q := fun a w ha hw => by
 refine wpIn_mono (Q := NoPanic Q) (wpIn_region_any hm ?_) NoPanic.imp
 have hw' : St E M L { w with drawn := w.drawn + 1 } := { hw with }
 have := AC.any _ _ _ a (St E M L) _ hw' (h (MLe.refl _) hLi a ha)
 simpa using this
theorem wDx {Q : Exit → Act → World → Prop} {i : Nat} {o : Oper} {v : Value} {d : Nat} (ho : ops[i]? = some o) (hs : (Region.noSelect ops && noDefer ops) = true) (hr : ((Region.ready .any ops listed).contains i && Region.free .any ops listed i) = true) (hd : o.dst = some d) (hN : Nat.blt d N.n = true)
  (hq : QF P ops N F Mi Li o v) (h : JA P ops N (NoPanic Q) fuel (listed.setIfInBounds i true) ((d, v) :: F) E M L Mi Li) : JA P ops N (NoPanic Q) (fuel + 1) listed F E M L Mi Li := fun hM hL a ha => by
 rw [Bool.and_eq_true] at hs hr
 refine AC.first true ho (Region.noSelect_spec hs.1) (noDefer_spec hs.2) (fun c a w hh => hh) rfl (fun _ j _ hj => by cases hj) fuel true listed a _ (fun _ => rfl) (.inl fun _ => rfl) (Region.free_spec ho hr.2) (by simpa using hr.1) (hq a ha) (St.closed _ _ _)
  (fun w hw => hw.js.sub hM hL) (fun _ w hw => hw.js.sub hM hL) ?_
 rw [hd]
 exact h hM hL _ (ha.put (by simpa [Nat.blt_eq] using hN) v)
theorem wEg {Q : Exit → Act → World → Prop} {i : Nat} {o : Oper} {v : Value} {d : Nat} (ho : ops[i]? = some o) (hs : (Region.noSelect ops && noDefer ops) = true) (hr : ((Region.ready .any ops listed).contains i && Region.free .any ops listed i) = true) (hp : pstep N ops F o = some (d, v))
  (h : JA P ops N (NoPanic Q) fuel (listed.setIfInBounds i true) ((d, v) :: F) E M L Mi Li) : JA P ops N (NoPanic Q) (fuel + 1) listed F E M L Mi Li :=
 wDx ho hs hr (wDm hp).1 (wDm hp).2.1 ((wDm hp).2.2 P Mi Li) h
theorem wFs {α : Type} (φ : α → Prop) (Ff : α → Fr) (Mf : α → Mem) (Lf : α → Lc) (fuel2 : Nat) (listed2 : Array Bool) (rest : ∀ x, φ x → JA P ops N Q fuel2 listed2 (Ff x) E (Mf x) (Lf x) Mi Li)
  (k : (∀ x, φ x → JA P ops N Q fuel2 listed2 (Ff x) E (Mf x) (Lf x) Mi Li) → JA P ops N Q fuel listed F E M L Mi Li) : JA P ops N Q fuel listed F E M L Mi Li := k rest
def JS (P : Program) (ops : Array Oper) (N : Fs) (Q : Exit → Act → World → Prop) (fuel : Nat) (listed : Array Bool) (F : Fr) (E : Ent) (M : Mem) (L : Lc) (Mi : Mem) (Li : Lc) (i : Nat) : Prop :=
 ∃ o, ops[i]? = some o ∧ (match o.dst with | some d => Nat.blt d N.n | none => true) = true ∧ ∃ K, HF P ops N F E M L o K ∧ ∀ v M' L', K v M' L' → ∃ Mi' Li', MLe Mi Mi' ∧ MLe Mi' M' ∧ (∀ p ∈ Li, p ∈ Li') ∧ (∀ p ∈ Li', p ∈ L') ∧ JA P ops N Q fuel (listed.setIfInBounds i true) (match o.dst with | some d => (d, v) :: F | none => F) E M' L' Mi' Li'
theorem wDe {i : Nat} {o : Oper} {K : Value → Mem → Lc → Prop} {d : Nat} (ho : ops[i]? = some o) (hd : o.dst = some d) (hN : Nat.blt d N.n = true) (hh : HF P ops N F E M L o K)
  (h : ∀ v M' L', K v M' L' → ∃ Mi' Li', MLe Mi Mi' ∧ MLe Mi' M' ∧ (∀ p ∈ Li, p ∈ Li') ∧ (∀ p ∈ Li', p ∈ L') ∧ JA P ops N Q fuel (listed.setIfInBounds i true) ((d, v) :: F) E M' L' Mi' Li') : JS P ops N Q fuel listed F E M L Mi Li i :=
 ⟨o, ho, by rw [hd]; exact hN, K, hh, by rw [hd]; exact h⟩
theorem js_s {i : Nat} {o : Oper} {K : Value → Mem → Lc → Prop} (ho : ops[i]? = some o) (hd : o.dst = none) (hh : HF P ops N F E M L o K)
  (h : ∀ v M' L', K v M' L' → ∃ Mi' Li', MLe Mi Mi' ∧ MLe Mi' M' ∧ (∀ p ∈ Li, p ∈ Li') ∧ (∀ p ∈ Li', p ∈ L') ∧ JA P ops N Q fuel (listed.setIfInBounds i true) F E M' L' Mi' Li') : JS P ops N Q fuel listed F E M L Mi Li i :=
 ⟨o, ho, by rw [hd], K, hh, by rw [hd]; exact h⟩
def JSs (P : Program) (ops : Array Oper) (N : Fs) (Q : Exit → Act → World → Prop) (fuel : Nat) (listed : Array Bool) (F : Fr) (E : Ent) (M : Mem) (L : Lc) (Mi : Mem) (Li : Lc) : List Nat → Prop
 | [] => True
 | i :: rs => JS P ops N Q fuel listed F E M L Mi Li i ∧ JSs P ops N Q fuel listed F E M L Mi Li rs
theorem JSs.get : ∀ {rs : List Nat}, JSs P ops N Q fuel listed F E M L Mi Li rs → ∀ i ∈ rs, JS P ops N Q fuel listed F E M L Mi Li i
 | _ :: _, h, i, hi => by
  rcases List.mem_cons.1 hi with rfl | hi
  ·exact h.1
  exact JSs.get h.2 i hi
theorem wBc (rs : List Nat) (hr : (Region.ready .any ops listed == rs) = true) (hne : rs.isEmpty = false) (h : JSs P ops N Q fuel listed F E M L Mi Li rs) : JA P ops N Q (fuel + 1) listed F E M L Mi Li := fun hM hL a ha w hw => by
 have hr' := eq_of_beq hr
 refine ⟨fun h0 => (by rw [hr'] at h0; rw [h0] at hne; cases hne), fun i hi => ?_⟩
 rw [hr'] at hi
 obtain ⟨o, ho, hN, K, hh, hk⟩ := h.get i hi
 obtain ⟨h1, h2⟩ := hh a w ha hw
 unfold wpOpIn
 simp only [ho, h1, if_true]
 refine Oper.wpIn_mono (fun a' w' hh => ?_) (h2 Q)
 obtain ⟨v, M', L', rfl, hs, hK⟩ := hh
 obtain ⟨Mi', Li', k1, k2, k3, k4, k5⟩ := hk v M' L' hK
 refine ⟨St E M' L', St.closed _ _ _, fun _ hx => (hx.js.sub k2 k4).sub k1 k3, fun _ _ hx => (hx.js.sub k2 k4).sub k1 k3, hs, ?_⟩
 have hup : ∀ w, Js Mi' Li' w → Js Mi Li w := fun _ hx => hx.sub k1 k3
 refine AC.mono hup hup _ _ _ _ _ (k5 k2 k4 _ ?_)
 cases hd : o.dst with
 | none => exact ha
 | some d => rw [hd] at hN; exact ha.put (by simpa [Nat.blt_eq] using hN) v
theorem wHa {i : Nat} (hr : (Region.ready .any ops listed == [i]) = true) (h : JS P ops N Q fuel listed F E M L Mi Li i) : JA P ops N Q (fuel + 1) listed F E M L Mi Li := wBc [i] hr rfl ⟨h, trivial⟩
theorem wJy (hr : (Region.ready .any ops listed).isEmpty = true) (h : JQ N .normal F E M L Q) : JA P ops N Q fuel listed F E M L Mi Li := fun _ _ a ha => AC.done (by simpa using hr) (fun w hw => h a w ha hw) fuel
theorem wBy (k : Keep F F') (h : JA P ops N Q fuel listed F' E M L Mi Li) : JA P ops N Q fuel listed F E M L Mi Li := fun hM hL a ha => h hM hL a (ha.keep k)
theorem wCa {listed' : Array Bool} (e : listed = listed') (h : JA P ops N Q fuel listed' F E M L Mi Li) : JA P ops N Q fuel listed F E M L Mi Li := by rw [e]; exact h
theorem wAo {M' : Mem} {L' : Lc} (k1 : MLe Mi M') (k2 : ∀ p ∈ Li, p ∈ L') (h : JA P ops N Q fuel listed F E M' L' Mi Li) :
  ∃ Mi' Li', MLe Mi Mi' ∧ MLe Mi' M' ∧ (∀ p ∈ Li, p ∈ Li') ∧ (∀ p ∈ Li', p ∈ L') ∧ JA P ops N Q fuel listed F E M' L' Mi' Li' :=
 ⟨Mi, Li, MLe.refl _, k1, fun _ h => h, k2, h⟩
theorem wGo {M2 : Mem} {L2 : Lc} (hs : ∀ w, St E M L w → St E M2 L2 w) (h1 : MLe Mi M2) (h4 : ∀ p ∈ Li, p ∈ L2) (h : JA P ops N Q fuel listed F E M2 L2 Mi Li) : JA P ops N Q fuel listed F E M L Mi Li := fun _ _ a ha =>
 AC.pt fun w hw => ⟨_, hs w hw, h h1 h4 a ha⟩
theorem wCd {W : World} {X : List Nat} {M0 : Mem} {ob : Obj} {L2 : Lc} (g : Nat) [hp : Rm g ob L L2] (hg : g ∉ X) (hl : ∀ p ∈ Li, p ∈ L2) (h : ∀ M', MLe M M' → M' g = some ob → JA P ops N Q fuel listed F ⟨W, X, M0⟩ M' L2 Mi Li) : JA P ops N Q fuel listed F ⟨W, X, M0⟩ M L Mi Li := fun hM hL a ha =>
 AC.pt fun w hw => by
  obtain ⟨h1, h2, h3⟩ := St.freeze' hg (hw.perm hp.perm)
  exact ⟨_, h1, h _ h2 h3 (hM.trans h2) hl a ha⟩
end
instance (priority := low) Pick.pair {p q : Nat × Obj} {R L L1 L2 : Lc} [h : Pick [p] L L1] [h2 : Pick (q :: R) L1 L2] : Pick (p :: q :: R) L L2 := ⟨h.perm.trans (List.Perm.cons p h2.perm)⟩
section
variable {P : Program} {ops : Array Oper} {N : Fs} {F : Fr} {E : Ent} {M : Mem} {L : Lc} {o : Oper}
theorem HF.mono {K K' : Value → Mem → Lc → Prop} (h : HF P ops N F E M L o K) (hk : ∀ w v M' L', K v M' L' → St E M' L' w → ∃ L2, St E M' L2 w ∧ K' v M' L2) : HF P ops N F E M L o K' := fun a w ha hw =>
 ⟨(h a w ha hw).1, fun Q => Oper.wpIn_mono (fun a' w' ⟨v, M', L', e, hs, hK⟩ => by
  obtain ⟨L2, h1, h2⟩ := hk w' v M' L' hK hs
  exact ⟨v, M', L2, e, h1, h2⟩) ((h a w ha hw).2 Q)⟩
theorem wCg {x y : Operand} {t e : TypeId} {v : Value} {R L2 : Lc} {size bytes n m c : Nat} {z xs news : List Value} {ya : Option Addr} (hg : gd ops F o = some true)
  (ho : o.op = .call { callee := .builtin .append, args := #[x, y], argTypes := #[t, t] }) (hx : ev F x = some v) (hy : ev F y = some (.slice ya m c)) [ht : Und P t (.slice e)] [hl : Lay P e size bytes z]
  (hown : Own v R e size n xs) [hp : Pick R L L2] (hl1 : news.length = m * size) (hnews : SM M ya news) (hz0 : Nat.blt 0 size = true) (h1 : ∀ u ∈ news, u.oneCell' = true) (hbig : n + m ≤ 1000000000) (hby : bytes ≤ 100000) :
  HF P ops N F E M L o (fun v' M' L' => M = M' ∧ ∃ R', L' = R' ++ L2 ∧ Own v' R' e size (n + m) (xs ++ news)) := by
 have hsz : 0 < size := by simpa [Nat.blt_eq] using hz0
 rcases Nat.eq_zero_or_pos m with rfl | hm
 ·have : news = [] := List.eq_nil_of_length_eq_zero (by simpa using hl1)
  subst this
  refine (hAppend0 hg ho hx hy hown).mono fun w v' M' L' ⟨e1, e2, e3⟩ hs => ?_
  subst e1; subst e2; subst e3
  exact ⟨R ++ L2, hs.perm hp.perm, rfl, R, rfl, by simpa using hown⟩
 have hne : news ≠ [] := fun e => by
  rw [e, List.length_nil] at hl1
  have := Nat.mul_pos hm hsz
  omega
 obtain ⟨b, off, rfl, hb⟩ := hnews.open hne
 refine (wDv hg ho hx hy hown hl1 (fun i u hu => (hb i u hu).cj L) rfl hz0 h1 hbig hby).mono fun w v' M' L' ⟨e1, R', e2, e3, _⟩ hs => ?_
 exact ⟨L', hs, e1, R', e2, e3⟩
theorem hAppendC {x y : Operand} {t e : TypeId} {ba : Addr} {size bytes n m c : Nat} {z xs news : List Value} {ad : Addr} (hg : gd ops F o = some true)
  (ho : o.op = .call { callee := .builtin .append, args := #[x, y], argTypes := #[t, t] }) (hx : ev F x = some (.slice (some ba) n n)) (hy : ev F y = some (.slice (some ad) m c)) [ht : Und P t (.slice e)] [hl : Lay P e size bytes z]
  (hxl : xs.length = n * size) (hold : ∀ i v, xs[i]? = some v → CJ M L ba.block (ba.off + i) v) (hbs : xs = [] ∨ ba.spot = none) (hl1 : news.length = m * size) (hnews : ∀ i v, news[i]? = some v → CJ M L ad.block (ad.off + i) v) (hspot : ad.spot = none) (hm : 0 < m) (hbig : n + m ≤ 1000000000) (hby : bytes ≤ 100000) :
  HF P ops N F E M L o (fun v' M' L' => M = M' ∧ ∃ R', L' = R' ++ L ∧ Own v' R' e size (n + m) (xs ++ news)) := wHw hg fun a w ha hw => by
 obtain ⟨ti, zv, hi, hi2, hi3, hz, hz2⟩ := hl.info
 have hzl : zv.cells.size = size := by rw [hz2]; simpa using hl.len
 have add : ∀ (ad : Addr), ad.spot = none → ∀ j, ad.add j = ⟨ad.block, ad.off + j, none⟩ := fun ad hs j => by
  obtain ⟨b, of, sp⟩ := ad; simp only at hs; subst hs; unfold Addr.add; split <;> simp_all
 have hb : (n + m) * bytes ≤ 1000000000 * 100000 := Nat.mul_le_mul hbig hby
 have hr := run_append_grow (P := P) w t o.type e ti zv ht.h hi hz ba n n xs (by rw [hi2]; exact hxl) (fun j u hu => by rw [add ba (hbs.resolve_left fun e => by rw [e] at hu; cases hu)]; exact (hold j u hu).cell hw.js) ad m c news (by rw [hi2]; exact hl1)
  (fun j u hu => by rw [add ad hspot]; exact (hnews j u hu).cell hw.js) (by omega) (by omega) (growslice_fits (by omega) (by rw [hi3]; omega))
 have hge := grownCap_ge w (n + m) n e
 have hcm : grownCap w (n + m) n e ≤ maxLen := grownCap_le_maxLen w (n + m) n e (by unfold maxLen; omega)
 have hlen : (xs ++ news).length = (n + m) * size := by rw [List.length_append, hxl, hl1, Nat.add_mul]
 have hcs : (xs.toArray ++ news.toArray ++ Builtin.zeroCells zv.cells (grownCap w (n + m) n e - (n + m))).size = grownCap w (n + m) n e * size := by
  simp only [Array.size_append, List.size_toArray, size_zeroCells, hzl, hxl, hl1, ← Nat.add_mul]
  congr 1; omega
 have htk : (xs.toArray ++ news.toArray ++ Builtin.zeroCells zv.cells (grownCap w (n + m) n e - (n + m))).toList.take ((n + m) * size) = xs ++ news := by
  simp only [Array.toList_append, List.append_assoc]
  rw [← List.append_assoc, ← hlen]
  exact List.take_left
 generalize xs.toArray ++ news.toArray ++ Builtin.zeroCells zv.cells (grownCap w (n + m) n e - (n + m)) = cur at hr hcs htk
 have hd : St E M L w.drew := { hw with }
 refine ⟨_, w.drew.alloc (.cells cur e), M, [(w.drew.heap.size, .cells cur e (0, 0))] ++ L, .inl ?_, hd.alloc (.cells cur e), rfl, [(w.heap.size, .cells cur e (0, 0))], rfl, ⟨hlen, .inr ⟨w.heap.size, _, cur, rfl, rfl, hge, hcm, hcs, htk⟩⟩⟩
 simp [execOp, ho, resolve, invoke, builtin, ha.ev hx, ha.ev hy, hr]
theorem hAppendE {x y : Operand} {t e : TypeId} {v : Value} {R L2 : Lc} {size bytes n m c : Nat} {z xs news : List Value} {ad : Addr} (hg : gd ops F o = some true)
  (ho : o.op = .call { callee := .builtin .append, args := #[x, y], argTypes := #[t, t] }) (hx : ev F x = some v) (hy : ev F y = some (.slice (some ad) m c)) [ht : Und P t (.slice e)] [hl : Lay P e size bytes z]
  (hown : Own v R e size n xs ∨ (R = [] ∧ xs.length = n * size ∧ ∃ ba, v = .slice (some ba) n n ∧ (xs = [] ∨ ba.spot = none) ∧ ∀ i u, xs[i]? = some u → CM M ba.block (ba.off + i) u)) [hp : Pick R L L2] (hl1 : news.length = m * size) (hnews : ∀ i v, news[i]? = some v → CJ M L ad.block (ad.off + i) v) (hspot : ad.spot = none) (hz0 : Nat.blt 0 size = true) (h1 : ∀ u ∈ news, u.oneCell' = true) (hm : 0 < m) (hbig : n + m ≤ 1000000000) (hby : bytes ≤ 100000) :
  HF P ops N F E M L o (fun v' M' L' => M = M' ∧ ∃ R', L' = R' ++ L2 ∧ Own v' R' e size (n + m) (xs ++ news)) := by
 rcases hown with hown | ⟨rfl, hxl, ba, rfl, hbs, hold⟩
 ·exact (wDv hg ho hx hy hown hl1 hnews hspot hz0 h1 hbig hby).mono fun w v' M' L' ⟨e1, R', e2, e3, _⟩ hs => ⟨L', hs, e1, R', e2, e3⟩
 refine (hAppendC hg ho hx hy hxl (fun i u hu => (hold i u hu).cj L) hbs hl1 hnews hspot hm hbig hby).mono fun w v' M' L' ⟨e1, R', e2, e3⟩ hs => ?_
 exact ⟨R' ++ L2, by rw [e2] at hs; exact hs.perm (List.Perm.append_left R' (by simpa using hp.perm)), e1, R', rfl, e3⟩
theorem hAppendZ {x y : Operand} {t tn e : TypeId} {k kn : IntKind} {n bytes : Nat} {z : List Value} (hg : gd ops F o = some true)
  (ho : o.op = .call { callee := .builtin .append, args := #[x, y], argTypes := #[t, tn] }) (hx : ev F x = some (.slice none 0 0)) (hy : ev F y = some (.int k n)) [ht : Und P t (.slice e)] [htn : Und P tn (.int kn)] [hl : Lay P e 1 bytes z]
  (h0 : 0 < n) (hn : n ≤ 1000000000) (hby : bytes ≤ 100000) :
  HF P ops N F E M L o (fun v' M' L' => M = M' ∧ ∃ b cap cur, v' = .slice (some ⟨b, 0, none⟩) n cap ∧ L' = (b, .cells cur e (0, 0)) :: L ∧ n ≤ cap ∧ cap ≤ maxLen ∧ cur.size = cap) := wHw hg fun a w ha hw => by
 obtain ⟨ti, zv, hi, hi2, hi3, hz, hz2⟩ := hl.info
 have hzl : zv.cells.size = 1 := by rw [hz2]; simpa using hl.len
 have hb : n * bytes ≤ 1000000000 * 100000 := Nat.mul_le_mul hn hby
 have hr := Go.Lib.run_append_nil_zeros (P := P) w t tn o.type e ti zv k kn ht.h htn.h hi hz n h0 (by omega) (by omega) (by rw [hi3]; omega)
 have hge := grownCap_ge w n 0 e
 have hsz : (Builtin.zeroCells zv.cells n ++ Builtin.zeroCells zv.cells (grownCap w n 0 e - n)).size = grownCap w n 0 e := by
  simp only [Array.size_append, size_zeroCells, hzl]; omega
 generalize Builtin.zeroCells zv.cells n ++ Builtin.zeroCells zv.cells (grownCap w n 0 e - n) = cur at hr hsz
 have hd : St E M L w.drew := { hw with }
 refine ⟨_, w.drew.alloc (.cells cur e), M, (w.drew.heap.size, .cells cur e (0, 0)) :: L, .inl ?_, hd.alloc (.cells cur e), rfl, w.heap.size, _, cur, rfl, rfl, hge, grownCap_le_maxLen w n 0 e (by unfold maxLen; omega), hsz⟩
 simp [execOp, ho, resolve, invoke, builtin, ha.ev hx, ha.ev hy, hr]
theorem qCap {x : Operand} {t e : TypeId} {a : Option Addr} {n c : Nat} (hg : gd ops F o = some true) (ho : o.op = .call { callee := .builtin .cap, args := #[x], argTypes := #[t] })
  (hx : ev F x = some (.slice a n c)) [ht : Und P t (.slice e)] : QF P ops N F M L o (.int .i64 c) := wFd hg fun ac ha w _ => by
 simp [execOp, ho, resolve, invoke, builtin, Builtin.cap_, ha.ev hx, run_underlying ht.h, goInt]
end
end Go.Proofs.YtkcpllhggofloaaGreat
