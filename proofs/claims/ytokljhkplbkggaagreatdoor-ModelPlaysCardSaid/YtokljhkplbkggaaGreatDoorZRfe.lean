/- The document's forests that are one's own: one volume in front, the others written no more. No statement of the seat is proved here. -/
import Derived.Test.YtokljhkplbkggaaGreatDoorZWg
import Derived.Test.YtokljhkplbkggaaGreatDoorZSame
import Derived.Test.YtokljhkplbkggaaGreatDoorZQt
namespace Go.Proofs.YtokljhkplbkggaaGreatDoor
set_option linter.unusedSimpArgs false
set_option linter.unusedVariables false
set_option linter.unusedSectionVars false
open Go.RowKit Go.MapKept
section
variable {κ α : Type} [DecidableEq κ]
def ixA (k : κ) (l : List (κ × α)) : Int := match l.findIdx? (fun p => decide (p.1 = k)) with
 | some i => (i : Int)
 | none => -1
theorem ixA_at {k : κ} {l : List (κ × α)} {i : Nat} (h : i < l.length) (he : l[i].1 = k) (hb : ∀ j (hj : j < l.length), j < i → l[j].1 ≠ k) : ixA k l = i := by
 unfold ixA
 rw [List.findIdx?_eq_some_iff_getElem.2 ⟨h, by simpa using he, fun j hj => by simpa using hb j (Nat.lt_trans hj h) hj⟩]
theorem ixA_no {k : κ} {l : List (κ × α)} (hb : ∀ j (hj : j < l.length), l[j].1 ≠ k) : ixA k l = -1 := by
 unfold ixA
 rw [List.findIdx?_eq_none_iff.2 (fun x hx => by
  obtain ⟨j, hj, e⟩ := List.mem_iff_getElem.1 hx
  rw [← e]; simpa using hb j hj)]
theorem nd_at {l : List (κ × α)} (hn : (wBg l).Nodup) {i j : Nat} (hi : i < l.length) (hj : j < l.length) (h : l[i].1 = l[j].1) : i = j := by
 have h1 : i < (wBg l).length := by simpa [wBg] using hi
 have h2 : j < (wBg l).length := by simpa [wBg] using hj
 exact (List.getElem_inj hn (h₀ := h1) (h₁ := h2)).1 (by simpa [wBg] using h)
theorem ixA_nd {k : κ} {l : List (κ × α)} (hn : (wBg l).Nodup) {i : Nat} (h : i < l.length) (he : l[i].1 = k) : ixA k l = i :=
 ixA_at h he fun j hj hlt e => by have := nd_at hn hj h (by rw [e, he]); omega
theorem wLo {k : κ} {l : List (κ × α)} (h : wAm k l = none) : ixA k l = -1 := ixA_no fun j hj e =>
 getA_none.1 h (List.mem_map.2 ⟨l[j], List.getElem_mem hj, e⟩)
theorem wHa {k : κ} {v : α} {l : List (κ × α)} (h : wAm k l = some v) : ∃ i, ∃ hi : i < l.length, ixA k l = i ∧ l[i] = (k, v) := by
 obtain ⟨A, B, e, hA⟩ := wCf h
 have hi : A.length < l.length := by rw [e, List.length_append, List.length_cons]; omega
 have hv : l[A.length] = (k, v) := by
  have : l[A.length]? = some (k, v) := by rw [e]; simp
  rw [List.getElem?_eq_getElem hi] at this; exact Option.some.inj this
 refine ⟨A.length, hi, ixA_at hi (by rw [hv]) fun j hj hlt e2 => hA ?_, hv⟩
 have : l[j]? = A[j]? := by rw [e, List.getElem?_append_left hlt]
 rw [List.getElem?_eq_getElem hj, List.getElem?_eq_getElem hlt] at this
 rw [← e2, Option.some.inj this]
 exact List.mem_map.2 ⟨_, List.getElem_mem hlt, rfl⟩
theorem getA_at {k : κ} {l : List (κ × α)} (hn : (wBg l).Nodup) {i : Nat} (h : i < l.length) (he : l[i].1 = k) : wAm k l = some l[i].2 :=
 wFf hn (by rw [← he]; exact List.getElem_mem h)
theorem getA_perm {k : κ} {l m : List (κ × α)} (hp : l.Perm m) (hn : (wBg m).Nodup) : wAm k l = wAm k m := by
 have hn2 : (wBg l).Nodup := (hp.map (·.1)).nodup_iff.2 hn
 cases h : wAm k l with
 | some v => exact (wFf hn (hp.mem_iff.1 (wDy h))).symm
 | none =>
  cases h2 : wAm k m with
  | none => rfl
  | some v => rw [wFf hn2 (hp.mem_iff.2 (wDy h2))] at h; cases h
theorem putA_at {k : κ} {v : α} : ∀ {l : List (κ × α)} (hn : (wBg l).Nodup) {i : Nat} (h : i < l.length) (he : l[i].1 = k), wBq k v l = l.set i (k, v) := fun {l} hn {i} h he => by
 obtain ⟨j, hj, e1, e2⟩ := wHa (getA_at hn h he)
 rw [ixA_nd hn h he] at e1
 have hij : i = j := by omega
 subst hij
 have hs : l = l.take i ++ (k, l[i].2) :: l.drop (i + 1) := by
  rw [← e2, List.getElem_cons_drop, List.take_append_drop]
 have hk : k ∉ wBg (l.take i) := fun hm => by
  obtain ⟨p, hp, e⟩ := List.mem_map.1 hm
  obtain ⟨j, hj2, e3⟩ := List.mem_iff_getElem.1 hp
  rw [List.length_take] at hj2
  rw [List.getElem_take] at e3
  have := nd_at hn (i := j) (j := i) (by omega) h (by rw [e3, e, he])
  omega
 rw [List.set_eq_take_append_cons_drop, if_pos h]
 conv => lhs; rw [hs]
 exact wFa hk
end
def ltS (a b : Str) : Prop := a.toList < b.toList
instance : DecidableRel ltS := fun a b => inferInstanceAs (Decidable (a.toList < b.toList))
theorem bytesLess_lt : ∀ x y : List UInt8, Op.bytesLess x y = decide (x < y)
 | _, [] => by simp [Op.bytesLess]
 | [], b :: y => by simp [Op.bytesLess]
 | a :: x, b :: y => by
  rw [Op.bytesLess, bytesLess_lt x y]
  have e : (a == b) = decide (a = b) := by by_cases h : a = b <;> simp [h]
  simp [List.cons_lt_cons_iff, Bool.decide_or, Bool.decide_and, e]
theorem wGh (z : Str) : z.toList = z.data.toList := by
 show ByteArray.toList z = _
 simp [ByteArray.toList_eq]
theorem wJj (s : Str) : s.data.toList.length = s.size := Array.length_toList (xs := s.data)
theorem str_ext {a b : Str} (h : a.toList = b.toList) : a = b := by
 rw [wGh, wGh] at h
 cases a; cases b; congr 1; exact Array.toList_inj.1 h
theorem ltS_irrefl (a : Str) : ¬ ltS a a := List.lt_irrefl _
theorem ltS_trans {a b c : Str} (h : ltS a b) (k : ltS b c) : ltS a c := List.lt_trans h k
theorem ltS_tri {a b : Str} (h : ¬ ltS a b) (hne : a ≠ b) : ltS b a := by
 have h1 : b.toList ≤ a.toList := List.not_lt.1 h
 rcases List.le_iff_lt_or_eq.1 h1 with h2 | h2
 ·exact h2
 exact absurd (str_ext h2).symm hne
theorem ltS_not {a b : Str} (h : ltS a b) : ¬ ltS b a := fun k => ltS_irrefl _ (ltS_trans h k)
abbrev NE := Str × Int
abbrev Srt (l : List NE) : Prop := l.Pairwise fun p q => ltS p.1 q.1
def wBi : List NE → Str → Int → List NE
 | [], s, k => [(s, k)]
 | p :: l, s, k => if ltS s p.1 then (s, k) :: p :: l else p :: wBi l s k
theorem namedL_hit {s : Str} {k : Int} {q : NE} (hq : ltS s q.1) : ∀ {l : List NE}, (∀ p ∈ l, ¬ ltS s p.1) → wBi (l ++ [q]) s k = l ++ [(s, k), q]
 | [], _ => by rw [List.nil_append, wBi, if_pos hq]; rfl
 | p :: l, h => by rw [List.cons_append, wBi, if_neg (h p (by simp)), namedL_hit hq (fun x hx => h x (by simp [hx]))]; rfl
theorem namedL_more {s : Str} {k : Int} {q : NE} : ∀ {l : List NE}, (∃ p ∈ l, ltS s p.1) → wBi (l ++ [q]) s k = wBi l s k ++ [q]
 | [], ⟨_, h, _⟩ => by cases h
 | p :: l, h => by
  rw [List.cons_append, wBi, wBi]
  split
  ·rfl
  rename_i hp
  rw [namedL_more (l := l) (by
   obtain ⟨x, hx, hl⟩ := h
   rcases List.mem_cons.1 hx with rfl | hx
   ·exact absurd hl hp
   exact ⟨x, hx, hl⟩)]; rfl
theorem namedL_end {s : Str} {k : Int} : ∀ {l : List NE}, (∀ p ∈ l, ¬ ltS s p.1) → wBi l s k = l ++ [(s, k)]
 | [], _ => rfl
 | p :: l, h => by rw [wBi, if_neg (h p (by simp)), namedL_end (fun x hx => h x (by simp [hx]))]; rfl
theorem namedL_perm {s : Str} {k : Int} : ∀ {l : List NE}, (wBi l s k).Perm (l ++ [(s, k)])
 | [] => List.Perm.refl _
 | p :: l => by
  rw [wBi]
  split
  ·exact (List.perm_append_comm (l₁ := [(s, k)]) (l₂ := p :: l))
  exact List.Perm.cons p namedL_perm
theorem namedL_srt {s : Str} {k : Int} : ∀ {l : List NE}, Srt l → s ∉ wBg l → Srt (wBi l s k)
 | [], _, _ => by simp [wBi]
 | p :: l, h, hs => by
  obtain ⟨h1, h2⟩ := List.pairwise_cons.1 h
  have hsp : s ≠ p.1 := fun e => hs (by simp [wBg, e])
  rw [wBi]
  split
  ·rename_i hp
   refine List.pairwise_cons.2 ⟨fun q hq => ?_, h⟩
   rcases List.mem_cons.1 hq with rfl | hq
   ·exact hp
   exact ltS_trans hp (h1 q hq)
  rename_i hp
  refine List.pairwise_cons.2 ⟨fun q hq => ?_, namedL_srt h2 (fun hm => hs (by simp only [wBg, List.map_cons, List.mem_cons]; exact .inr hm))⟩
  rcases List.mem_append.1 (namedL_perm.mem_iff.1 hq) with hq | hq
  ·exact h1 q hq
  rw [List.mem_singleton.1 hq]; exact ltS_tri hp hsp
theorem srt_names {ns l : List NE} (hp : ns.Perm l) (hs : Srt ns) : ns.map (·.1) = (l.map (·.1)).mergeSort wHw := by
 refine List.Perm.eq_of_pairwise (le := fun a b => wHw a b = true) (fun a b _ _ h1 h2 => ?_) ?_ ?_ ?_
 ·unfold wHw at h1 h2
  exact str_ext (List.le_antisymm (of_decide_eq_true h1) (of_decide_eq_true h2))
 ·rw [List.pairwise_map]
  exact hs.imp fun h => by unfold wHw; exact decide_eq_true (List.le_of_lt h)
 ·refine List.pairwise_mergeSort (fun a b c h1 h2 => ?_) (fun a b => ?_) _
  ·unfold wHw at *; exact decide_eq_true (List.le_trans (of_decide_eq_true h1) (of_decide_eq_true h2))
  unfold wHw
  rcases List.le_total a.toList b.toList with h | h
  ·simp [h]
  simp [h]
 exact (hp.map _).trans (List.mergeSort_perm _ _).symm
def eC (e : NE) : List Value := [.string e.1, .int .u32 e.2]
theorem eC_len (e : NE) : (eC e).length = 2 := rfl
structure GF where
 id : Int
 x : PF
 da : Option Addr
 dc : Nat
 ns : List NE
 na : Option Addr
 nc : Nat
abbrev gfC (g : GF) : List Value := [.int .u32 g.id, .bool g.x.dir, .int .i64 g.x.links, .slice g.da g.x.data.length g.dc, .slice g.na g.ns.length g.nc]
theorem wBa (g : GF) : (gfC g).length = 5 := rfl
structure GF.Ok (M : Mem) (g : GF) : Prop where
 da : SM M g.da (wAn g.x.data)
 dc : g.x.data.length ≤ g.dc
 na : SM M g.na (g.ns.flatMap eC)
 nc : g.ns.length ≤ g.nc
 pm : g.ns.Perm g.x.names
 st : Srt g.ns
theorem GF.Ok.mono {M M' : Mem} {g : GF} (h : g.Ok M) (hM : MLe M M') : g.Ok M' := ⟨h.da.mono hM, h.dc, h.na.mono hM, h.nc, h.pm, h.st⟩
structure GV where
 id : Int
 frozen : Bool
 next : Int
 files : List GF
 fa : Option Addr
 fc : Nat
abbrev flsOf' (l : List GF) : Fls := l.map fun g => (g.id, g.x)
def GV.abs (v : GV) : PV := { frozen := v.frozen, next := v.next, files := flsOf' v.files }
abbrev gvC (v : GV) : List Value := [.int .i64 v.id, .bool v.frozen, .int .u32 v.next, .slice v.fa v.files.length v.fc]
theorem wBy (v : GV) : (gvC v).length = 4 := rfl
structure GV.Ok (M : Mem) (v : GV) : Prop where
 fa : SM M v.fa (v.files.flatMap gfC)
 fc : v.files.length ≤ v.fc
 all : ∀ g ∈ v.files, g.Ok M
theorem GV.Ok.mono {M M' : Mem} {v : GV} (h : v.Ok M) (hM : MLe M M') : v.Ok M' := ⟨h.fa.mono hM, h.fc, fun g hg => (h.all g hg).mono hM⟩
structure GS where
 made : Int
 vols : List GV
 va : Option Addr
 vc : Nat
abbrev wAv (l : List GV) : List (Int × PV) := l.map fun v => (v.id, v.abs)
def GS.abs (f : GS) : PS := { next := f.made, vols := wAv f.vols }
abbrev gsC (f : GS) : List Value := [.int .i64 f.made, .slice f.va f.vols.length f.vc]
abbrev gsV (f : GS) : Value := .agg (gsC f).toArray
structure GS.Ok (M : Mem) (f : GS) : Prop where
 va : SM M f.va (f.vols.flatMap gvC)
 vc : f.vols.length ≤ f.vc
 all : ∀ v ∈ f.vols, v.Ok M
theorem GS.Ok.mono {M M' : Mem} {f : GS} (h : f.Ok M) (hM : MLe M M') : f.Ok M' := ⟨h.va.mono hM, h.vc, fun g hg => (h.all g hg).mono hM⟩
theorem GS.Ok.zero (M : Mem) : GS.Ok M { made := 0, vols := [], va := none, vc := 0 } := ⟨.inl rfl, Nat.le_refl _, fun _ h => by cases h⟩
section
variable {P : Program} {ops : Array Oper} {N : Fs} {F : Fr} {E : Ent} {M : Mem} {L : Lc} {o : Oper}
theorem wAp {x ix : Operand} {t e : TypeId} {a : Option Addr} {b off n c sz by_ : Nat} {z : List Value} {k : IntKind} {i : Int} (hg : gd ops F o = some true) (ho : o.op = .indexAddr t x ix) (hx : ev F x = some (.slice a n c)) (hi : ev F ix = some (.int k i))
  [ht : Und P t (.slice e)] [hl : Lay P e sz by_ z] (ha : a = some ⟨b, off, none⟩) (h : 0 ≤ i ∧ i < n) : QF P ops N F M L o (.pointer (some ⟨b, off + i.toNat * sz, none⟩)) := by
 subst ha; exact wEn hg ho hx hi h
theorem qStrGtr {x y : Operand} {t t' : TypeId} {a b : Str} (hg : gd ops F o = some true) (ho : o.op = .binOp .gtr t x y t') (hx : ev F x = some (.string a)) (hy : ev F y = some (.string b)) [ht : Und P t .string] : QF P ops N F M L o (.bool (decide (ltS b a))) := wDw hg fun ac ha w _ => by
 have : (binOp .gtr t (.string a) (.string b)).run P w = .ok (.bool (decide (ltS b a))) w := by
  have e : (!(Op.bytesLess a.toList b.toList || a.toList == b.toList)) = decide (ltS b a) := by
   rw [bytesLess_lt, toList_beq]
   by_cases h : ltS b a
   ·have h1 : ¬ ltS a b := ltS_not h
    have h2 : a ≠ b := fun e => by subst e; exact ltS_irrefl _ h
    simp only [ltS] at h h1 ⊢; simp [h, h1, h2]
   by_cases h2 : a = b
   ·subst h2; simp only [ltS] at h ⊢; simp [h]
   have h1 : ltS a b := ltS_tri h (Ne.symm h2)
   simp only [ltS] at h h1 ⊢; simp [h, h1]
  simp [binOp, Op.stringOp, ← e]
 simp only [execOp, ho, ha.ev hx, ha.ev hy]
 simp [eqGuard, this]
end
theorem wKi {s : Str} {i : Nat} (h : i < s.size) : s[((i : Int)).toNat]? = some (s.data.toList[i]'(by rw [wJj]; exact h)) := by
 rw [Int.toNat_natCast]
 have h2 : i < s.data.size := h
 show (if h : i < s.size then some s[i] else none) = _
 rw [dif_pos h]
 simp [ByteArray.getElem_eq_getElem_data]
theorem wDh {α : Type} {f : α → List Value} {m : Nat} (hf : ∀ x, (f x).length = m) {M : Mem} {a : Option Addr} {qs : List α} (h : SM M a (qs.flatMap f)) {i : Nat} (hi : i < qs.length) (hm : 0 < m) : ∃ b off, a = some ⟨b, off, none⟩ ∧ ∀ j v, (f qs[i])[j]? = some v → CM M b (off + ((i : Int)).toNat * m + j) v := by
 obtain ⟨b, off, e, hx⟩ := wJd hf h hi hm
 exact ⟨b, off, e, fun j v hv => by rw [Int.toNat_natCast]; exact hx j v hv⟩
theorem wFs {M : Mem} {a : Option Addr} {l : List Str} (h : SN M a l) {i : Nat} (hi : i < l.length) : ∃ b off, a = some ⟨b, off, none⟩ ∧ CM M b (off + ((i : Int)).toNat * 1) (.string l[i]) := by
 obtain ⟨b, off, e, hx⟩ := h.open (fun e => by rw [e] at hi; simp at hi)
 exact ⟨b, off, e, by rw [Int.toNat_natCast, Nat.mul_one]; exact hx i _ (List.getElem?_eq_getElem hi)⟩
theorem vix_at {l : List GV} {id : Int} {i : Nat} (h : i < l.length) (he : l[i].id = id) (hb : ∀ j (hj : j < l.length), j < i → l[j].id ≠ id) : ixA id (wAv l) = i :=
 ixA_at (by simpa using h) (by simpa using he) fun j hj hlt => by have := hb j (by simpa using hj) hlt; simpa using this
theorem vix_no {l : List GV} {id : Int} (hb : ∀ j (hj : j < l.length), l[j].id ≠ id) : ixA id (wAv l) = -1 :=
 ixA_no fun j hj => by have := hb j (by simpa using hj); simpa using this
theorem fix_at {l : List GF} {id : Int} {i : Nat} (h : i < l.length) (he : l[i].id = id) (hb : ∀ j (hj : j < l.length), j < i → l[j].id ≠ id) : ixA id (flsOf' l) = i :=
 ixA_at (by simpa using h) (by simpa using he) fun j hj hlt => by have := hb j (by simpa using hj) hlt; simpa using this
theorem fix_no {l : List GF} {id : Int} (hb : ∀ j (hj : j < l.length), l[j].id ≠ id) : ixA id (flsOf' l) = -1 :=
 ixA_no fun j hj => by have := hb j (by simpa using hj); simpa using this
def okB (b : By) : Bool := !badB b && b != 47
def okN (s : Str) : Bool := s.data.toList.all okB && (decide (s ≠ ⟨#[]⟩) && decide ((s.size : Int) ≤ 8))
theorem okB_no {b : By} (h : ((b.toNat : Int) < 33 ∨ (b.toNat : Int) > 126 ∨ (b.toNat : Int) = 47)) : okB b = false := by
 unfold okB badB
 rcases h with h | h | h
 ·have : b.toNat < 33 := by omega
  simp [this]
 ·have : 126 < b.toNat := by omega
  simp [this]
 have : b = 47 := UInt8.toNat_inj.1 (by simpa using (by omega : b.toNat = 47))
 simp [this]
theorem okB_yes {b : By} (h1 : ¬ (b.toNat : Int) < 33) (h2 : ¬ (b.toNat : Int) > 126) (h3 : ¬ (b.toNat : Int) = 47) : okB b = true := by
 unfold okB badB
 have a1 : ¬ b.toNat < 33 := by omega
 have a2 : ¬ 126 < b.toNat := by omega
 have a3 : b ≠ 47 := fun e => h3 (by subst e; rfl)
 simp [a1, a2, a3]
theorem all_no {α : Type} {p : α → Bool} {l : List α} {i : Nat} (h : i < l.length) (hp : p l[i] = false) : l.all p = false := by
 rw [List.all_eq_false]; exact ⟨_, List.getElem_mem h, by simp [hp]⟩
theorem all_next {α : Type} {p : α → Bool} {l : List α} {i : Nat} (h : i < l.length) (hi : (l.take i).all p = true) (hp : p l[i] = true) : (l.take (i + 1)).all p = true := by
 rw [List.take_succ_eq_append_getElem h, List.all_append, hi]; simp [hp]
theorem rname_spec (s : Str) (M : Mem) (hs : s.size ≤ 1000000) :
  SpecL Tryz.prog 36 #[.string s] M [] fun u _ _ => u = .bool (okN s) := by
 refine wAe (vs := [_]) 33 _ Tryz.func36 rfl Tryz.ntmps36 rfl rfl ?_; intro W
 refine wAb (wAa (jp rfl (wAc (jT (wAb (wAb (wAa (jp rfl (wAc (jT (wAk ?_)))))))))))
 refine wBr (α := Nat) (fun i => [(0, .string s), (3, .int .i64 i)]) (fun _ => M) (fun _ => []) (fun i => i ≤ s.size ∧ (s.data.toList.take i).all okB = true) (fun i => s.size - i)
  0 (.cons (t := 0) rfl (.cons (t := 3) rfl .nil)) ⟨Nat.zero_le _, rfl⟩ (fun _ h => h) ?_
 rintro i ⟨hi1, hi2⟩
 try dsimp only at hi1 hi2 ⊢
 refine wAb (wAb (wAa (jp rfl (jp rfl (lq (wEg rfl rfl rfl) ?_)))))
 refine js rfl (fun h7 => ?_) (fun h7 => ?_)
 ·refine wAc (jT (wAf rfl (wAd (jT (wAb (wAk (wAb (wAa (jp rfl (jp rfl ?_))))))))))
  have hk1 : i < s.size := by omega
  have hk2 : i < s.data.toList.length := by rw [wJj]; exact hk1
  refine lq (wHe rfl rfl rfl rfl (by omega) (wKi hk1)) ?_
  refine js rfl (fun h13 => ?_) (fun h13 => ?_)
  ·iterate 12 refine jp rfl ?_
   refine wAc (jT (wAf rfl (wAb (wAa (jp rfl (wAc (jT (wAg (jBr (jTr (jTr (jBr (jTr (jr1 rfl rfl ?_))))))))))))))
   have hno : s.data.toList.all okB = false := all_no hk2 (okB_no (.inl h13))
   unfold okN; rw [hno]; rfl
  refine jp rfl (jp rfl (jp rfl (lq (wHe rfl rfl rfl rfl (by omega) (wKi hk1)) ?_)))
  refine js rfl (fun h18 => ?_) (fun h18 => ?_)
  ·iterate 7 refine jp rfl ?_
   refine wAc (jT (wAf rfl (wAb (wAa (jp rfl (wAc (jT (wAg (jBr (jTr (jTr (jBr (jTr (jr1 rfl rfl ?_))))))))))))))
   have hno : s.data.toList.all okB = false := all_no hk2 (okB_no (.inr (.inl h18)))
   unfold okN; rw [hno]; rfl
  refine jp rfl (jp rfl (jp rfl (jp rfl (lq (wHe rfl rfl rfl rfl (by omega) (wKi hk1)) ?_))))
  refine js rfl (fun h24 => ?_) (fun h24 => ?_)
  ·refine jp rfl (wAc (jT (wAf rfl (wAb (wAa (jp rfl (wAc (jT (wAg (jBr (jTr (jTr (jBr (jTr (jr1 rfl rfl ?_)))))))))))))))
   have hno : s.data.toList.all okB = false := all_no hk2 (okB_no (.inr (.inr h24)))
   unfold okN; rw [hno]; rfl
  refine jp rfl (wAc (jT (wAh rfl (wAd (jB (jT (wAa (jp rfl (ja rfl (by omega) ?_)))))))))
  refine jp rfl (wAc ?_)
  refine wBu (i + 1) (.cons (t := 0) rfl (.cons (t := 3) rfl .nil)) ⟨by omega, all_next hk2 hi2 (okB_yes h13 h18 h24)⟩ (by omega) (fun _ h => h)
 refine wAc (jT (wAh rfl (wBx (jTx (jTx (jBx (jT (wAb (wAa (jp rfl (wEk rfl rfl (wGq rfl rfl rfl rfl) (fun h27 => ?_) (fun h27 => ?_))))))))))))
 ·refine jp rfl (jp rfl (lq (wEg rfl rfl rfl) ?_))
  refine jp rfl (jp rfl (jp rfl (wAc (jT (wAg (jr1 rfl rfl ?_))))))
  have hi : i = s.size := by omega
  have e : s.data.toList.all okB = true := by rw [hi, List.take_of_length_le (by rw [wJj]; exact Nat.le_refl _)] at hi2; exact hi2
  unfold okN; rw [e, h27]; rfl
 refine jp rfl (jp rfl (jp rfl (jp rfl (jp rfl (jp rfl (wAc (jT (wAg (jr1 rfl rfl ?_)))))))))
 unfold okN; rw [h27]; simp
theorem wEh (n a b : Int) (M : Mem) :
  SpecL Tryz.prog 26 #[.int .i64 n, .int .i64 a, .int .i64 b] M [] fun u _ _ => u = .bool (inI n a b) := by
 refine wAe (vs := [_, _, _]) 15 _ Tryz.func26 rfl Tryz.ntmps26 rfl rfl ?_; intro W
 refine wAb (wAa (jp rfl (wAc (jT (wAb (wAa (jp rfl (jp rfl (js rfl (fun h9 => ?_) (fun h9 => ?_))))))))))
 ·refine jp rfl (jp rfl (jp rfl (jp rfl (jp rfl (jp rfl (wAc (jT (wAg (jr1 rfl rfl ?_)))))))))
  first | (show Value.bool _ = Value.bool _; congr 1; unfold inI; simp [h9]) | (show Value.bool _ = Value.bool _; congr 1; unfold inI; simp; omega)
 refine jp rfl (jp rfl (jp rfl (jp rfl (jp rfl (jp rfl (wAc (jT (wAg (jr1 rfl rfl ?_)))))))))
 first | (show Value.bool _ = Value.bool _; congr 1; unfold inI; simp [h9]) | (show Value.bool _ = Value.bool _; congr 1; unfold inI; simp; omega)
theorem wAu (e : Int) (M : Mem) :
  SpecL Tryz.prog 24 #[.int .i64 e] M [] fun u _ _ => u = rp0 (wCa e) := by
 refine wAe (vs := [_]) 5 _ Tryz.func24 rfl Tryz.ntmps24 rfl rfl ?_; intro W
 refine wAb (wAa (sAl rfl fun b2 => ?_))
 refine wAc (jT (wAb (wAa (jp rfl (lq (wBe (cs := [_, _, _, _, _, _, _, _]) rfl rfl rfl (by rfl)) ?_)))))
 refine sSt rfl ?_
 refine wAc (jT (wAg (jrs (rs := [_]) rfl (.cons (.agg rfl rfl rfl) .nil) ?_)))
 rfl
theorem wFi (f : GS) (id : Int) (M : Mem) (hf : f.Ok M) (hn : f.vols.length ≤ 1000000) :
  SpecL Tryz.prog 55 #[.agg (gsC f).toArray, .int .i64 id] M [] fun u _ _ => u = .int .i64 (ixA id (wAv f.vols)) := by
 refine wAe (vs := [_, _]) 22 _ Tryz.func55 rfl Tryz.ntmps55 rfl rfl ?_; intro W
 refine wAb (wAa (sBx [_, _] rfl fun b2 => ?_))
 refine jp rfl (wAc (jT (wAb (wAb (wAa (jp rfl (wAc (jT (wAk ?_)))))))))
 refine wBr (α := Nat) (fun i => [(1, .int .i64 id), (2, pt b2), (5, .int .i64 i)]) (fun _ => M) (fun _ => [(b2, .cells (gsC f).toArray 53 (0, 0))]) (fun i => i ≤ f.vols.length ∧ ∀ j (hj : j < f.vols.length), j < i → f.vols[j].id ≠ id) (fun i => f.vols.length - i)
  0 (.cons (t := 1) rfl (.cons (t := 2) rfl (.cons (t := 5) rfl .nil))) ⟨Nat.zero_le _, fun _ _ h => by omega⟩ (fun _ h => h) ?_
 rintro i ⟨hi1, hi2⟩
 try dsimp only at hi1 hi2 ⊢
 refine wAb (wAb (wAa (jp rfl (sFL rfl rfl ?_))))
 refine lq (wCd rfl rfl rfl) ?_
 refine js rfl (fun h10 => ?_) (fun h10 => ?_)
 ·refine wAc (jT (wAf rfl (wAd (jT (wAb (wAk (wAb (wAa (sFL rfl rfl ?_)))))))))
  refine jp rfl ?_
  have hk1 : i < f.vols.length := by omega
  obtain ⟨vb, vo, e0, hx⟩ := wDh wBy hf.va hk1 (by omega)
  refine lq (wAp rfl rfl rfl rfl e0 (by omega)) ?_
  refine sFa rfl ?_
  refine lq (qLd rfl rfl rfl rfl ((hx 0 _ rfl).cj _)) ?_
  refine jp rfl (js rfl (fun h20 => ?_) (fun h20 => ?_))
  ·refine wAc (jT (wAf rfl (wAb (wAa (jp rfl (jp rfl (wAc (jT (wAg (jBr (jTr (jTr (jBr (jTr (jr1 rfl rfl ?_)))))))))))))))
   rw [vix_at hk1 h20 hi2]
  refine wAc (jT (wAh rfl (wAd (jB (jT (wAa (jp rfl (ja rfl (by omega) ?_))))))))
  refine jp rfl (wAc (wBu (i + 1) (.cons (t := 1) rfl (.cons (t := 2) rfl (.cons (t := 5) rfl .nil))) ⟨by omega, fun j hj hlt => ?_⟩ (by omega) (fun _ h => h)))
  by_cases e : j = i
  ·subst e; exact h20
  exact hi2 j hj (by omega)
 refine wAc (jT (wAh rfl (wBx (jTx (jTx (jBx (jT (wAb (wAa (jp rfl (wAc (jT (wAg (jr1 rfl rfl ?_))))))))))))))
 rw [vix_no (fun j hj => hi2 j hj (by omega))]
theorem rat_spec (f : GV) (id : Int) (M : Mem) (hf : SM M f.fa (f.files.flatMap gfC)) (hn : f.files.length ≤ 1000000) :
  SpecL Tryz.prog 96 #[.agg (gvC f).toArray, .int .u32 id] M [] fun u _ _ => u = .int .i64 (ixA id (flsOf' f.files)) := by
 refine wAe (vs := [_, _]) 22 _ Tryz.func96 rfl Tryz.ntmps96 rfl rfl ?_; intro W
 refine wAb (wAa (sBx [_, _, _, _] rfl fun b2 => ?_))
 refine jp rfl (wAc (jT (wAb (wAb (wAa (jp rfl (wAc (jT (wAk ?_)))))))))
 refine wBr (α := Nat) (fun i => [(1, .int .u32 id), (2, pt b2), (5, .int .i64 i)]) (fun _ => M) (fun _ => [(b2, .cells (gvC f).toArray 96 (0, 0))]) (fun i => i ≤ f.files.length ∧ ∀ j (hj : j < f.files.length), j < i → f.files[j].id ≠ id) (fun i => f.files.length - i)
  0 (.cons (t := 1) rfl (.cons (t := 2) rfl (.cons (t := 5) rfl .nil))) ⟨Nat.zero_le _, fun _ _ h => by omega⟩ (fun _ h => h) ?_
 rintro i ⟨hi1, hi2⟩
 try dsimp only at hi1 hi2 ⊢
 refine wAb (wAb (wAa (jp rfl (sFL rfl rfl ?_))))
 refine lq (wCd rfl rfl rfl) ?_
 refine js rfl (fun h10 => ?_) (fun h10 => ?_)
 ·refine wAc (jT (wAf rfl (wAd (jT (wAb (wAk (wAb (wAa (sFL rfl rfl ?_)))))))))
  refine jp rfl ?_
  have hk1 : i < f.files.length := by omega
  obtain ⟨vb, vo, e0, hx⟩ := wDh wBa hf hk1 (by omega)
  refine lq (wAp rfl rfl rfl rfl e0 (by omega)) ?_
  refine sFa rfl ?_
  refine lq (qLd rfl rfl rfl rfl ((hx 0 _ rfl).cj _)) ?_
  refine jp rfl (js rfl (fun h20 => ?_) (fun h20 => ?_))
  ·refine wAc (jT (wAf rfl (wAb (wAa (jp rfl (jp rfl (wAc (jT (wAg (jBr (jTr (jTr (jBr (jTr (jr1 rfl rfl ?_)))))))))))))))
   rw [fix_at hk1 h20 hi2]
  refine wAc (jT (wAh rfl (wAd (jB (jT (wAa (jp rfl (ja rfl (by omega) ?_))))))))
  refine jp rfl (wAc (wBu (i + 1) (.cons (t := 1) rfl (.cons (t := 2) rfl (.cons (t := 5) rfl .nil))) ⟨by omega, fun j hj hlt => ?_⟩ (by omega) (fun _ h => h)))
  by_cases e : j = i
  ·subst e; exact h20
  exact hi2 j hj (by omega)
 refine wAc (jT (wAh rfl (wBx (jTx (jTx (jBx (jT (wAb (wAa (jp rfl (wAc (jT (wAg (jr1 rfl rfl ?_))))))))))))))
 rw [fix_no (fun j hj => hi2 j hj (by omega))]
theorem rentry_spec (f : GF) (id : Str) (M : Mem) (hf : f.Ok M) (hn : f.ns.length ≤ 1000000) :
  SpecL Tryz.prog 95 #[.agg (gfC f).toArray, .string id] M [] fun u _ _ => u = .int .i64 (ixA id f.ns) := by
 refine wAe (vs := [_, _]) 22 _ Tryz.func95 rfl Tryz.ntmps95 rfl rfl ?_; intro W
 refine wAb (wAa (sBx [_, _, _, _, _] rfl fun b2 => ?_))
 refine jp rfl (wAc (jT (wAb (wAb (wAa (jp rfl (wAc (jT (wAk ?_)))))))))
 refine wBr (α := Nat) (fun i => [(1, .string id), (2, pt b2), (5, .int .i64 i)]) (fun _ => M) (fun _ => [(b2, .cells (gfC f).toArray 93 (0, 0))]) (fun i => i ≤ f.ns.length ∧ ∀ j (hj : j < f.ns.length), j < i → f.ns[j].1 ≠ id) (fun i => f.ns.length - i)
  0 (.cons (t := 1) rfl (.cons (t := 2) rfl (.cons (t := 5) rfl .nil))) ⟨Nat.zero_le _, fun _ _ h => by omega⟩ (fun _ h => h) ?_
 rintro i ⟨hi1, hi2⟩
 try dsimp only at hi1 hi2 ⊢
 refine wAb (wAb (wAa (jp rfl (sFL rfl rfl ?_))))
 refine lq (wCd rfl rfl rfl) ?_
 refine js rfl (fun h10 => ?_) (fun h10 => ?_)
 ·refine wAc (jT (wAf rfl (wAd (jT (wAb (wAk (wAb (wAa (sFL rfl rfl ?_)))))))))
  refine jp rfl ?_
  have hk1 : i < f.ns.length := by omega
  obtain ⟨vb, vo, e0, hx⟩ := wDh eC_len hf.na hk1 (by omega)
  refine lq (wAp rfl rfl rfl rfl e0 (by omega)) ?_
  refine sFa rfl ?_
  refine lq (qLd rfl rfl rfl rfl ((hx 0 _ rfl).cj _)) ?_
  refine jp rfl (wEk rfl rfl (qStrEql rfl rfl rfl rfl) (fun h20 => ?_) (fun h20 => ?_))
  ·refine wAc (jT (wAf rfl (wAb (wAa (jp rfl (jp rfl (wAc (jT (wAg (jBr (jTr (jTr (jBr (jTr (jr1 rfl rfl ?_)))))))))))))))
   rw [ixA_at hk1 (of_decide_eq_true h20) hi2]
  refine wAc (jT (wAh rfl (wAd (jB (jT (wAa (jp rfl (ja rfl (by omega) ?_))))))))
  refine jp rfl (wAc (wBu (i + 1) (.cons (t := 1) rfl (.cons (t := 2) rfl (.cons (t := 5) rfl .nil))) ⟨by omega, fun j hj hlt => ?_⟩ (by omega) (fun _ h => h)))
  by_cases e : j = i
  ·subst e; exact of_decide_eq_false h20
  exact hi2 j hj (by omega)
 refine wAc (jT (wAh rfl (wBx (jTx (jTx (jBx (jT (wAb (wAa (jp rfl (wAc (jT (wAg (jr1 rfl rfl ?_))))))))))))))
 rw [ixA_no (fun j hj => hi2 j hj (by omega))]
theorem wLi : ∀ (n : Nat) (l : List Int), l.Nodup → (∀ x ∈ l, 1 ≤ x ∧ x ≤ n) → l.length ≤ n
 | 0, [], _, _ => Nat.le_refl _
 | 0, x :: l, _, h => by have := h x (by simp); omega
 | n + 1, l, hn, h => by
  have h1 := wLi n (l.erase ((n : Int) + 1)) (hn.erase _) (fun x hx => by
   have h2 := (List.Nodup.mem_erase_iff hn).1 hx
   have h3 := h x h2.2
   have : x ≠ (n : Int) + 1 := h2.1
   omega)
  by_cases hm : ((n : Int) + 1) ∈ l
  ·rw [List.length_erase_of_mem hm] at h1; omega
  rw [List.erase_of_not_mem hm] at h1; omega
theorem wBh {n : Nat} {f : GS} (h : WFS n f.abs) : f.vols.length ≤ n := by
 have := wLi n (wBg f.abs.vols) h.nd (fun k hk => by
  obtain ⟨p, hp, e⟩ := List.mem_map.1 hk
  obtain ⟨h1, h2⟩ := h.rng k p.2 (by rw [← e]; exact wFf h.nd hp)
  have := h.most
  omega)
 simpa [GS.abs] using this
theorem wEc {n : Nat} {v : GV} (h : WFV n v.abs) : v.files.length ≤ n + 1 := by
 have := wLi (n + 1) (wBg v.abs.files) h.wf.nd (fun k hk => by
  obtain ⟨p, hp, e⟩ := List.mem_map.1 hk
  obtain ⟨h1, h2, _⟩ := h.rng k p.2 (by rw [← e]; exact wFf h.wf.nd hp)
  have := h.most
  omega)
 simpa [GV.abs] using this
theorem GS.vol {f : GS} {vol : Int} {v : PV} (hv : wAm vol f.abs.vols = some v) : ∃ i, ∃ hi : i < f.vols.length, ixA vol (wAv f.vols) = i ∧ f.vols[i].id = vol ∧ f.vols[i].abs = v := by
 obtain ⟨i, hi, e1, e2⟩ := wHa hv
 have hi' : i < f.vols.length := by simpa [GS.abs] using hi
 have e3 : ((f.vols[i]).id, (f.vols[i]).abs) = (vol, v) := by rw [← e2]; simp [GS.abs]
 exact ⟨i, hi', e1, congrArg Prod.fst e3, congrArg Prod.snd e3⟩
theorem GV.file {v : GV} {k : Int} {x : PF} (hx : wAm k v.abs.files = some x) : ∃ j, ∃ hj : j < v.files.length, ixA k (flsOf' v.files) = j ∧ v.files[j].id = k ∧ v.files[j].x = x := by
 obtain ⟨i, hi, e1, e2⟩ := wHa hx
 have hi' : i < v.files.length := by simpa [GV.abs] using hi
 have e3 : ((v.files[i]).id, (v.files[i]).x) = (k, x) := by rw [← e2]; simp [GV.abs]
 exact ⟨i, hi', e1, congrArg Prod.fst e3, congrArg Prod.snd e3⟩
theorem wGw {l : List GF} (hn : (wBg (flsOf' l)).Nodup) {j : Nat} (hj : j < l.length) : wAm l[j].id (flsOf' l) = some l[j].x ∧ ixA l[j].id (flsOf' l) = j := by
 have hj' : j < (flsOf' l).length := by simpa using hj
 have e : (flsOf' l)[j] = (l[j].id, l[j].x) := by simp
 exact ⟨by have := getA_at hn hj' (k := l[j].id) (by rw [e]); rw [this, e], ixA_nd hn hj' (by rw [e])⟩
theorem wHt {M : Mem} {g : GF} (hg : g.Ok M) (hn : (wBg g.x.names).Nodup) (s : Str) : wAm s g.ns = wAm s g.x.names := getA_perm hg.pm hn
theorem wCk {M : Mem} {g : GF} (hg : g.Ok M) : g.ns.length = g.x.names.length := hg.pm.length_eq
def wDf (S : PS) (vol k : Int) : Int := match wAm vol S.vols with
 | some v => ixA k v.files
 | none => -1
def reachV (S : PS) (vol : Int) : Except Int Int → Value
 | .error e => .tuple #[.int .i64 0, .int .i64 0, .int .i64 e]
 | .ok k => .tuple #[.int .i64 (ixA vol S.vols), .int .i64 (wDf S vol k), .int .i64 0]
theorem reach_none (f : GS) (n : Nat) (hwf : WFS n f.abs) (hn : n ≤ 100) (M : Mem) (hf : f.Ok M) (vol : Int) (names : List Str) (na : Option Addr) (nc : Nat) (hN : SN M na names) (hnl : names.length ≤ 1000000) (hv : wAm vol f.abs.vols = none) :
  SpecL Tryz.prog 60 #[gsV f, .int .i64 vol, .slice na names.length nc] M [] fun u _ _ => u = reachV f.abs vol (wBb f.abs vol names) := by
 have hvl := wBh hwf
 refine wAe (vs := [_, _, _]) 65 _ Tryz.func60 rfl Tryz.ntmps60 rfl rfl ?_; intro W
 refine wAb (wAa (sBx [_, _] rfl fun b3 => ?_))
 refine jp rfl (jp rfl (jp rfl (wAc (jT (wAb (wAa (sLL rfl ?_)))))))
 refine jp rfl ?_
 refine lq (qEq (v' := .int .i64 (-1)) (qCl (wFi f vol M hf (by omega))) (by rw [wLo (show wAm vol (wAv f.vols) = none from hv)])) ?_
 refine jp rfl (wAc (jT (wAb (wAb (wAa (jp rfl (jt rfl (decide_eq_true (by omega)) ?_)))))))
 refine wAc (jT (wAf rfl (wAb (wAa (jp rfl (jp rfl (jp rfl (wAc (jT (wAg (jTr (jr3 rfl rfl rfl rfl ?_))))))))))))
 have : wBb f.abs vol names = .error 6 := by unfold wBb; rw [hv]
 rw [this]; rfl
set_option maxHeartbeats 2000000 in
theorem reach_some (f : GS) (n : Nat) (hwf : WFS n f.abs) (hn : n ≤ 100) (M : Mem) (hf : f.Ok M) (vol : Int) (names : List Str) (na : Option Addr) (nc : Nat) (hN : SN M na names) (hnl : names.length ≤ 1000000) (v : PV) (hv : wAm vol f.abs.vols = some v) :
  SpecL Tryz.prog 60 #[gsV f, .int .i64 vol, .slice na names.length nc] M [] fun u _ _ => u = reachV f.abs vol (wBb f.abs vol names) := by
 have hvl := wBh hwf
 obtain ⟨iv, hiv, eiv, hid, hab⟩ := GS.vol hv
 subst hab
 obtain ⟨gv, hgv⟩ : ∃ gv, f.vols[iv] = gv := ⟨_, rfl⟩
 rw [hgv] at hid hv
 have hwv : WFV n gv.abs := hwf.vol vol _ hv
 have hfl := wEc hwv
 have hgo : gv.Ok M := hgv ▸ hf.all _ (List.getElem_mem hiv)
 have hnd : (wBg (flsOf' gv.files)).Nodup := hwv.wf.nd
 obtain ⟨vb, vo, ev, hvx⟩ := wDh wBy hf.va hiv (by omega)
 rw [hgv] at hvx
 obtain ⟨r0, hr0, hrd⟩ := hwv.wf.root
 obtain ⟨j0, hj0, ej0, hji, _⟩ := GV.file hr0
 have hws : wBb f.abs vol names = wEt (flsOf' gv.files) 1 names := by unfold wBb; rw [hv]; rfl
 have hfix : ∀ k, wDf f.abs vol k = ixA k (flsOf' gv.files) := fun k => by unfold wDf; rw [hv]; rfl
 refine wAe (vs := [_, _, _]) 65 _ Tryz.func60 rfl Tryz.ntmps60 rfl rfl ?_; intro W
 refine wAb (wAa (sBx [_, _] rfl fun b3 => ?_))
 refine jp rfl (jp rfl (jp rfl (wAc (jT (wAb (wAa (sLL rfl ?_)))))))
 refine jp rfl (lq (qEq (v' := .int .i64 (iv : Int)) (qCl (wFi f vol M hf (by omega))) (by rw [eiv])) ?_)
 refine jp rfl (wAc (jT (wAb (wAb (wAa (jp rfl (jf rfl (decide_eq_false (by omega)) ?_)))))))
 refine wAc (jT (wAh rfl (wAd (jT (wAb (wAa (sFL rfl rfl ?_)))))))
 refine jp rfl (lq (wAp rfl rfl rfl rfl ev (by omega)) ?_)
 refine lq (wFt (cs := gvC gv) rfl rfl rfl rfl rfl (fun j u hu => (hvx j u hu).cj _)) ?_
 refine lq (qEq (v' := .int .i64 (j0 : Int)) (qCl (rat_spec gv 1 M hgo.fa (by omega))) (by rw [ej0])) ?_
 refine jp rfl (wAc (jT (wAb (wAb (wAa (jp rfl (wAc (jT (wAk ?_)))))))))
 refine wBr (α := Nat × Nat) (fun y => [(2, .slice na names.length nc), (3, pt b3), (9, .int .i64 (iv : Int)), (10, .int .i64 (y.2 : Int)), (11, .int .i64 (y.1 : Int))]) (fun _ => M) (fun _ => [(b3, .cells (gsC f).toArray 53 (0, 0))]) (fun y => y.1 ≤ names.length ∧ ∃ hj : y.2 < gv.files.length, wEt (flsOf' gv.files) 1 names = wEt (flsOf' gv.files) gv.files[y.2].id (names.drop y.1)) (fun y => names.length - y.1)
  (0, j0) (.cons (t := 2) rfl (.cons (t := 3) rfl (.cons (t := 9) rfl (.cons (t := 10) rfl (.cons (t := 11) rfl .nil))))) ⟨Nat.zero_le _, hj0, by rw [hji]; rfl⟩ (fun _ h => h) ?_
 rintro ⟨i, j⟩ ⟨hi, hj, hw⟩
 dsimp only at hi hj hw ⊢
 refine wAb (wAb (wAa (jp rfl (jp rfl (lq (wCd rfl rfl rfl) ?_)))))
 refine js rfl (fun h28 => ?_) (fun h28 => ?_)
 ·refine wAc (jT (wAf rfl (wAd (jT (wAb (wAk (wAb (wAa (sFL rfl rfl ?_)))))))))
  refine jp rfl ?_
  have hiN : i < names.length := by omega
  obtain ⟨nb, no, en, hnx⟩ := wFs hN hiN
  obtain ⟨fb, fo, efa, hfx⟩ := wDh wBa hgo.fa hj (by omega)
  obtain ⟨g, hg⟩ : ∃ g, gv.files[j] = g := ⟨_, rfl⟩
  rw [hg] at hfx
  have hgk : g.Ok M := hg ▸ hgo.all _ (List.getElem_mem hj)
  obtain ⟨hgx, hgi⟩ := wGw hnd hj
  rw [hg] at hgx hgi
  have hnn : (wBg g.x.names).Nodup := hwv.wf.nmd _ _ hgx
  have hn32 := (hwv.wf.len _ _ hgx).2
  have hnsl := wCk hgk
  refine lq (wAp rfl rfl rfl rfl ev (by omega)) ?_
  refine sFa rfl ?_
  refine lq (qLd rfl rfl rfl rfl ((hvx 3 _ rfl).cj _)) ?_
  refine jp rfl (lq (wAp rfl rfl rfl rfl efa (by omega)) ?_)
  refine lq (wFt (cs := gfC g) rfl rfl rfl rfl rfl (fun j u hu => (hfx j u hu).cj _)) ?_
  refine sAl rfl fun b12 => ?_
  refine sSt rfl ?_
  refine wAc (jT (wAb (wAb (wAa (sFa rfl ?_)))))
  refine wEk rfl rfl (qLd rfl rfl rfl rfl (CJ.loc rfl)) (fun h41 => ?_) (fun h41 => ?_)
  ·refine jp rfl (wAc (jT (wAh rfl (wAd (jT (wAb (wCw [(0, true), (1, true), (2, true), (3, true), (4, true), (5, true), (6, true)] _ (fun _ h => h) ?_)))))))
   refine dLL rfl rfl ?_
   iterate 2 refine dp rfl rfl ?_
   refine dq rfl (wAp rfl rfl rfl rfl en (by omega)) ?_
   refine dq rfl (qLd rfl rfl rfl rfl (hnx.cj _)) ?_
   refine dq rfl (qCl (rentry_spec g names[i] M hgk (by omega))) ?_
   refine dp rfl rfl ?_
   refine wAs (jPn (jT (wAb (wAb (wAa (jp rfl (js rfl (fun h50 => ?_) (fun h50 => ?_))))))))
   ·refine wAc (jT (wAf rfl (wAb (wAa (jp rfl (jp rfl (jp rfl (wAc (jT (wAg (jTr (jBr (jTr (jTr (jBr (jTr (jr3 rfl rfl rfl rfl ?_)))))))))))))))))
    have hno : wAm names[i] g.ns = none := by
     cases h : wAm names[i] g.ns with
     | none => rfl
     | some k2 => obtain ⟨q, hq, eq, _⟩ := wHa h; rw [eq] at h50; omega
    rw [wHt hgk hnn] at hno
    rw [hws, hw, hg, drop_at (List.getElem?_eq_getElem hiN), wEt, hgx]; simp only [h41, if_true, hno]; rfl
   refine wAc (jT (wAh rfl (wAd (jT (wCw [(0, true), (1, true), (2, true), (3, true), (4, true), (5, true), (6, true), (7, true), (8, true), (9, true), (10, true), (11, true), (12, true)] _ (fun _ h => h) ?_)))))
   refine dFa rfl rfl ?_
   refine dLd rfl rfl ?_
   refine dp rfl rfl ?_
   refine dq rfl (wAp rfl rfl rfl rfl ev (by omega)) ?_
   refine dq rfl (wFt (cs := gvC gv) rfl rfl rfl rfl rfl (fun j u hu => (hvx j u hu).cj _)) ?_
   refine dFa rfl rfl ?_
   refine dLd rfl rfl ?_
   refine dp rfl rfl ?_
   obtain ⟨k2, hk2⟩ : ∃ k2, wAm names[i] g.ns = some k2 := by
    cases h : wAm names[i] g.ns with
    | none => rw [wLo h] at h50; omega
    | some k2 => exact ⟨k2, rfl⟩
   obtain ⟨q, hq, eq, hqk⟩ := wHa hk2
   obtain ⟨eb, eo, ee, hex⟩ := wDh eC_len hgk.na hq (by omega)
   rw [hqk, ← eq] at hex
   rw [wHt hgk hnn] at hk2
   obtain ⟨y, hy⟩ := hwv.wf.tgt _ _ _ _ hgx hk2
   obtain ⟨j2, hj2, ej2, hji2, _⟩ := GV.file hy
   refine dq rfl (wAp rfl rfl rfl rfl ee (by omega)) ?_
   refine dFa rfl rfl ?_
   refine dq rfl (qLd rfl rfl rfl rfl ((hex 1 _ rfl).cj _)) ?_
   refine dq rfl (qEq (v' := .int .i64 (j2 : Int)) (qCl (rat_spec gv k2 M hgo.fa (by omega))) (by rw [ej2])) ?_
   refine dp rfl rfl ?_
   refine wAs (jPn (jB (jT (wAa (jp rfl (ja rfl (by omega) ?_))))))
   refine jp rfl (wAc ?_)
   refine wBu (i + 1, j2) (.cons (t := 2) rfl (.cons (t := 3) rfl (.cons (t := 9) rfl (.cons (t := 10) rfl (.cons (t := 11) rfl .nil))))) ⟨by dsimp only; omega, hj2, ?_⟩ (by dsimp only; omega) (fun _ h => h.fewer (by simp))
   dsimp only; rw [hw, hg, drop_at (List.getElem?_eq_getElem hiN), wEt, hgx]; simp only [h41, if_true, hk2, hji2]
  refine jp rfl (wAc (jT (wAf rfl (wAb (wAa (jp rfl (jp rfl (jp rfl (wAc (jT (wAg (jTr (jBr (jTr (jTr (jBr (jTr (jr3 rfl rfl rfl rfl ?_))))))))))))))))))
  rw [hws, hw, hg, drop_at (List.getElem?_eq_getElem hiN), wEt, hgx]; simp only [h41]; rfl
 refine wAc (jT (wAh rfl (wBx (jTx (jTx (jBx (jT (wAb (wAa (jp rfl (jp rfl (jp rfl (jp rfl (jp rfl (wAc (jT (wAg (jr3 rfl rfl rfl rfl ?_))))))))))))))))))
 obtain rfl : i = names.length := by omega
 obtain ⟨hgx, hgi⟩ := wGw hnd hj
 rw [hws, hw, List.drop_length, wEt]
 show _ = Value.tuple #[.int .i64 (ixA vol (wAv f.vols)), .int .i64 (wDf f.abs vol _), _]
 rw [eiv, hfix, hgi]
theorem wAo (f : GS) (n : Nat) (hwf : WFS n f.abs) (hn : n ≤ 100) (M : Mem) (hf : f.Ok M) (vol : Int) (names : List Str) (na : Option Addr) (nc : Nat) (hN : SN M na names) (hnl : names.length ≤ 1000000) : SpecL Tryz.prog 60 #[gsV f, .int .i64 vol, .slice na names.length nc] M [] fun u _ _ => u = reachV f.abs vol (wBb f.abs vol names) := by
 cases hv : wAm vol f.abs.vols with
 | none => exact reach_none f n hwf hn M hf vol names na nc hN hnl hv
 | some v => exact reach_some f n hwf hn M hf vol names na nc hN hnl v hv
theorem wHr {n : Nat} {f : GS} (h : WFS n f.abs) {vol : Int} {names : List Str} {id : Int} (hw : wBb f.abs vol names = .ok id) : ∃ v x, wAm vol f.abs.vols = some v ∧ wAm id v.files = some x ∧ WFV n v := by
 unfold wBb at hw
 cases hv : wAm vol f.abs.vols with
 | none => rw [hv] at hw; cases hw
 | some v =>
  rw [hv] at hw
  have hwv := h.vol vol v hv
  obtain ⟨r, hr, _⟩ := hwv.wf.root
  obtain ⟨y, hy⟩ := walkN_some hwv.wf.toWFB names 1 id ⟨r, hr⟩ hw
  exact ⟨v, y, rfl, hy, hwv⟩
def whereV (S : PS) (vol : Int) : Except Int Int → Value
 | .error e => .tuple #[.int .i64 0, .int .i64 e]
 | .ok k => .tuple #[.int .i64 (wDf S vol k), .int .i64 0]
def sameI (S : PS) (vol : Int) : Option Int → Int
 | none => -1
 | some d => wDf S vol d
theorem wCp {S : PS} {vol k : Int} {v : PV} (hv : wAm vol S.vols = some v) : wDf S vol k = ixA k v.files := by unfold wDf; rw [hv]
theorem opw {f : GS} {n : Nat} (hwf : WFS n f.abs) {M : Mem} (hf : f.Ok M) {vol id : Int} {v : PV} {x : PF} (hv : wAm vol f.abs.vols = some v) (hx : wAm id v.files = some x) : ∃ (iv : Nat) (hiv : iv < f.vols.length) (gv : GV) (j : Nat) (hj : j < gv.files.length) (g : GF) (vb vo fb fo : Nat), v = gv.abs ∧ x = g.x ∧ id = g.id ∧ ixA vol (wAv f.vols) = iv ∧ f.vols[iv] = gv ∧ gv.id = vol ∧ WFV n gv.abs ∧ gv.files.length ≤ n + 1 ∧ gv.Ok M ∧ (wBg (flsOf' gv.files)).Nodup ∧ f.va = some ⟨vb, vo, none⟩ ∧ (∀ j v, (gvC gv)[j]? = some v → CM M vb (vo + ((iv : Int)).toNat * 4 + j) v) ∧ gv.fa = some ⟨fb, fo, none⟩ ∧ gv.files[j] = g ∧ (∀ k v, (gfC g)[k]? = some v → CM M fb (fo + ((j : Int)).toNat * 5 + k) v) ∧ ixA g.id (flsOf' gv.files) = j ∧ g.Ok M ∧ wAm g.id (flsOf' gv.files) = some g.x ∧ (wBg g.x.names).Nodup ∧ g.x.names.length ≤ 32 ∧ g.ns.length = g.x.names.length ∧ wDf f.abs vol g.id = (j : Int) := by
 obtain ⟨iv, hiv, eiv, hid, hab⟩ := GS.vol hv
 subst hab
 obtain ⟨gv, hgv⟩ : ∃ gv, f.vols[iv] = gv := ⟨_, rfl⟩
 rw [hgv] at hid hv
 have hwv : WFV n gv.abs := hwf.vol vol _ hv
 have hfl := wEc hwv
 have hgo : gv.Ok M := hgv ▸ hf.all _ (List.getElem_mem hiv)
 have hnd : (wBg (flsOf' gv.files)).Nodup := hwv.wf.nd
 obtain ⟨vb, vo, ev, hvx⟩ := wDh wBy hf.va hiv (by omega)
 rw [hgv] at hvx
 rw [hgv] at hx
 obtain ⟨j, hj, ej, hji, hjx⟩ := GV.file hx
 obtain ⟨fb, fo, efa, hfx⟩ := wDh wBa hgo.fa hj (by omega)
 obtain ⟨g, hg⟩ : ∃ g, gv.files[j] = g := ⟨_, rfl⟩
 rw [hg] at hfx
 have hgk : g.Ok M := hg ▸ hgo.all _ (List.getElem_mem hj)
 obtain ⟨hgx, hgi⟩ := wGw hnd hj
 rw [hg] at hgx hgi
 have hnn : (wBg g.x.names).Nodup := hwv.wf.nmd _ _ hgx
 have hn32 := (hwv.wf.len _ _ hgx).2
 have hnsl := wCk hgk
 rw [hg] at hji hjx
 subst hjx
 subst hji
 have hfx2 : wDf f.abs vol g.id = (j : Int) := by rw [wCp hv]; exact hgi
 exact ⟨iv, hiv, gv, j, hj, g, vb, vo, fb, fo, by rw [hgv], rfl, rfl, eiv, hgv, hid, hwv, hfl, hgo, hnd, ev, hvx, efa, hg, hfx, hgi, hgk, hgx, hnn, hn32, hnsl, hfx2⟩
theorem where_nil (f : GS) (n : Nat) (hwf : WFS n f.abs) (hn : n ≤ 100) (M : Mem) (hf : f.Ok M) (w : Wy) (na : Option Addr) (nc : Nat) (hW : WyOk M w na nc) (vol : Int) (old : Option Int) (hold : ∀ d, old = some d → w.1 = vol → ∃ v x, wAm w.1 f.abs.vols = some v ∧ wAm d v.files = some x) (hne : w.2 = []) :
  SpecL Tryz.prog 57 #[gsV f, wyV w na nc, .int .i64 vol, .int .i64 (sameI f.abs vol old)] M [] fun u _ _ => u = whereV f.abs w.1 (wBo f.abs w vol old) := by
 have hl0 : w.2.length = 0 := by rw [hne]; rfl
 refine wAe (vs := [_, _, _, _]) 72 _ Tryz.func57 rfl Tryz.ntmps57 rfl rfl ?_; intro W
 refine wAb (wAa (sBx [_, _] rfl fun b4 => ?_))
 refine sBx [_, _] rfl fun b5 => ?_
 refine jp rfl (jp rfl (wAc (jT (wAb (wAb (wAa (sFL rfl rfl ?_)))))))
 refine lq (wCd rfl rfl rfl) ?_
 refine jt rfl (decide_eq_true (by omega)) ?_
 refine wAc (jT (wAf rfl (wAb (wAa (jp rfl (jp rfl (wAc (jT (wAg (jTr (jr2 rfl rfl rfl ?_)))))))))))
 unfold wBo; rw [if_pos hne]; rfl
theorem where_err (f : GS) (n : Nat) (hwf : WFS n f.abs) (hn : n ≤ 100) (M : Mem) (hf : f.Ok M) (w : Wy) (na : Option Addr) (nc : Nat) (hW : WyOk M w na nc) (vol : Int) (old : Option Int) (hold : ∀ d, old = some d → w.1 = vol → ∃ v x, wAm w.1 f.abs.vols = some v ∧ wAm d v.files = some x) (hne : w.2 ≠ []) (e : Int) (hw : wBb f.abs w.1 w.2.dropLast = .error e) :
  SpecL Tryz.prog 57 #[gsV f, wyV w na nc, .int .i64 vol, .int .i64 (sameI f.abs vol old)] M [] fun u _ _ => u = whereV f.abs w.1 (wBo f.abs w vol old) := by
 have hl0 : 0 < w.2.length := List.length_pos_iff.2 hne
 have hbig := hW.big
 have he := wEw hwf hw
 refine wAe (vs := [_, _, _, _]) 72 _ Tryz.func57 rfl Tryz.ntmps57 rfl rfl ?_; intro W
 refine wAb (wAa (sBx [_, _] rfl fun b4 => ?_))
 refine sBx [_, _] rfl fun b5 => ?_
 refine jp rfl (jp rfl (wAc (jT (wAb (wAb (wAa (sFL rfl rfl ?_)))))))
 refine lq (wCd rfl rfl rfl) ?_
 refine jf rfl (decide_eq_false (by omega)) ?_
 refine wAc (jT (wAh rfl (wAd (jT (wAb (wAa (sFL rfl rfl ?_)))))))
 refine lq (wCd rfl rfl rfl) ?_
 refine ja rfl (by omega) ?_
 refine jp rfl (wAc (jT (wAb (wCw [(0, true), (1, true), (2, true), (3, true), (4, true), (5, true), (6, true), (7, true), (8, true), (9, true), (10, true), (11, true), (12, true), (13, true), (14, true)] _ (fun _ h => h) ?_))))
 refine dLL rfl rfl ?_
 refine dFa rfl rfl ?_
 refine dLd rfl rfl ?_
 refine dFa rfl rfl ?_
 refine dLd rfl rfl ?_
 refine dp rfl rfl ?_
 refine dq rfl (qEq (v' := .slice na w.2.dropLast.length nc) (qSl rfl rfl rfl (.no _) (.of rfl (by have := hW.big; omega) rfl) (.no _) (by have := hW.cap; omega) (by simp)) (by rw [wCo, List.length_dropLast, show ((w.2.length : Int) - 1).toNat = w.2.length - 1 by omega]; rfl)) ?_
 refine dq rfl (qEq (v' := .tuple #[.int .i64 0, .int .i64 0, .int .i64 e]) (qCl (wAo f n hwf hn M hf w.1 w.2.dropLast na nc hW.sn.init (by rw [List.length_dropLast]; omega))) (by rw [hw]; rfl)) ?_
 iterate 7 refine dp rfl rfl ?_
 refine wAs (jPn (jT (wAb (wAb (wAa (jp rfl (jt rfl (decide_eq_true (by omega)) ?_)))))))
 refine wAc (jT (wAf rfl (wAb (wAa (jp rfl (jp rfl (jp rfl (wAc (jT (wAg (jTr (jr2 rfl rfl rfl ?_))))))))))))
 unfold wBo wCj; rw [if_neg hne, hw]; rfl
set_option maxHeartbeats 2000000 in
theorem where_ok (f : GS) (n : Nat) (hwf : WFS n f.abs) (hn : n ≤ 100) (M : Mem) (hf : f.Ok M) (w : Wy) (na : Option Addr) (nc : Nat) (hW : WyOk M w na nc) (vol : Int) (old : Option Int) (hold : ∀ d, old = some d → w.1 = vol → ∃ v x, wAm w.1 f.abs.vols = some v ∧ wAm d v.files = some x) (hne : w.2 ≠ []) (id : Int) (hw : wBb f.abs w.1 w.2.dropLast = .ok id) :
  SpecL Tryz.prog 57 #[gsV f, wyV w na nc, .int .i64 vol, .int .i64 (sameI f.abs vol old)] M [] fun u _ _ => u = whereV f.abs w.1 (wBo f.abs w vol old) := by
 have hvl := wBh hwf
 have hl0 : 0 < w.2.length := List.length_pos_iff.2 hne
 have hbig := hW.big
 obtain ⟨v, x, hv, hx, _⟩ := wHr hwf hw
 obtain ⟨iv, hiv, eiv, hid, hab⟩ := GS.vol hv
 subst hab
 obtain ⟨gv, hgv⟩ : ∃ gv, f.vols[iv] = gv := ⟨_, rfl⟩
 rw [hgv] at hid hv
 have hwv : WFV n gv.abs := hwf.vol w.1 _ hv
 have hfl := wEc hwv
 have hgo : gv.Ok M := hgv ▸ hf.all _ (List.getElem_mem hiv)
 have hnd : (wBg (flsOf' gv.files)).Nodup := hwv.wf.nd
 obtain ⟨vb, vo, ev, hvx⟩ := wDh wBy hf.va hiv (by omega)
 rw [hgv] at hvx
 rw [hgv] at hx
 obtain ⟨j, hj, ej, hji, hjx⟩ := GV.file hx
 obtain ⟨fb, fo, efa, hfx⟩ := wDh wBa hgo.fa hj (by omega)
 obtain ⟨g, hg⟩ : ∃ g, gv.files[j] = g := ⟨_, rfl⟩
 rw [hg] at hfx
 have hgk : g.Ok M := hg ▸ hgo.all _ (List.getElem_mem hj)
 obtain ⟨hgx, hgi⟩ := wGw hnd hj
 rw [hg] at hgx hgi
 have hnn : (wBg g.x.names).Nodup := hwv.wf.nmd _ _ hgx
 have hn32 := (hwv.wf.len _ _ hgx).2
 have hnsl := wCk hgk
 rw [hg] at hji hjx
 subst hjx
 have hfix : ∀ k, wDf f.abs w.1 k = ixA k (flsOf' gv.files) := fun k => wCp hv
 have hdi : wGu f.abs w.1 id = g.x.dir := by unfold wGu wEs; rw [hv]; simp only [Option.bind_some]; rw [hx]
 have hna : wDx f.abs w.1 id = g.x.names := by unfold wDx wEs; rw [hv]; simp only [Option.bind_some]; rw [hx]
 have hpl : wCj f.abs w = if g.x.dir then .ok id else .error 240 := by unfold wCj; rw [hw]; simp only; rw [hdi]
 have hfr : wBo f.abs w vol old = if g.x.dir then (if w.1 = vol then (if (wAm (wAi w) g.x.names).isSome then .error 251 else if 32 ≤ g.x.names.length ∧ old ≠ some id then .error 4 else .ok id) else .error 2) else .error 240 := by unfold wBo; rw [if_neg hne, hpl]; cases g.x.dir <;> simp [hna]
 obtain ⟨nb, no, en, hnx⟩ := wFs hW.sn (i := w.2.length - 1) (by omega)
 have hlast : w.2[w.2.length - 1] = wAi w := by unfold wAi; rw [List.getLast?_eq_getElem?, List.getElem?_eq_getElem (by omega)]; rfl
 rw [hlast, show ((w.2.length - 1 : Nat) : Int) = (w.2.length : Int) - 1 by omega] at hnx
 refine wAe (vs := [_, _, _, _]) 72 _ Tryz.func57 rfl Tryz.ntmps57 rfl rfl ?_; intro W
 refine wAb (wAa (sBx [_, _] rfl fun b4 => ?_))
 refine sBx [_, _] rfl fun b5 => ?_
 refine jp rfl (jp rfl (wAc (jT (wAb (wAb (wAa (sFL rfl rfl ?_)))))))
 refine lq (wCd rfl rfl rfl) ?_
 refine jf rfl (decide_eq_false (by omega)) ?_
 refine wAc (jT (wAh rfl (wAd (jT (wAb (wAa (sFL rfl rfl ?_)))))))
 refine lq (wCd rfl rfl rfl) ?_
 refine ja rfl (by omega) ?_
 refine jp rfl (wAc (jT (wAb (wCw [(0, true), (1, true), (2, true), (3, true), (4, true), (5, true), (6, true), (7, true), (8, true), (9, true), (10, true), (11, true), (12, true), (13, true), (14, true)] _ (fun _ h => h) ?_))))
 refine dLL rfl rfl ?_
 refine dFa rfl rfl ?_
 refine dLd rfl rfl ?_
 refine dFa rfl rfl ?_
 refine dLd rfl rfl ?_
 refine dp rfl rfl ?_
 refine dq rfl (qEq (v' := .slice na w.2.dropLast.length nc) (qSl rfl rfl rfl (.no _) (.of rfl (by have := hW.big; omega) rfl) (.no _) (by have := hW.cap; omega) (by simp)) (by rw [wCo, List.length_dropLast, show ((w.2.length : Int) - 1).toNat = w.2.length - 1 by omega]; rfl)) ?_
 refine dq rfl (qEq (v' := .tuple #[.int .i64 (iv : Int), .int .i64 (j : Int), .int .i64 0]) (qCl (wAo f n hwf hn M hf w.1 w.2.dropLast na nc hW.sn.init (by rw [List.length_dropLast]; omega))) (by rw [hw]; show Value.tuple #[.int .i64 (ixA w.1 (wAv f.vols)), .int .i64 (wDf f.abs w.1 id), _] = _; rw [eiv, hfix, ej])) ?_
 iterate 7 refine dp rfl rfl ?_
 refine wAs (jPn (jT (wAb (wAb (wAa (jp rfl (jf rfl (decide_eq_false (by omega)) ?_)))))))
 refine wAc (jT (wAh rfl (wAd (jT (wAb (wAa (sFL rfl rfl ?_)))))))
 refine jp rfl (lq (wAp rfl rfl rfl rfl ev (by omega)) ?_)
 refine sFa rfl ?_
 refine lq (qLd rfl rfl rfl rfl ((hvx 3 _ rfl).cj _)) ?_
 refine jp rfl (lq (wAp rfl rfl rfl rfl efa (by omega)) ?_)
 refine lq (wFt (cs := gfC g) rfl rfl rfl rfl rfl (fun j u hu => (hfx j u hu).cj _)) ?_
 refine sAl rfl fun b14 => ?_
 refine sSt rfl ?_
 refine wAc (jT (wAb (wAb (wAa (sFa rfl ?_)))))
 refine wEk rfl rfl (qLd rfl rfl rfl rfl (CJ.loc rfl)) (fun h48 => ?_) (fun h48 => ?_)
 ·refine jp rfl (wAc (jT (wAh rfl (wAd (jT (wAb (wAb (wAa (sFL rfl rfl ?_)))))))))
  refine jp rfl (js rfl (fun h53 => ?_) (fun h53 => ?_))
  ·refine wAc (jT (wAf rfl (wAb (wAa (jp rfl (jp rfl (wAc (jT (wAg (jTr (jr2 rfl rfl rfl ?_)))))))))))
   rw [hfr, h48, if_pos rfl, if_neg h53]; rfl
  refine wAc (jT (wAh rfl (wAd (jT (wAb (wAb (wCw [(0, true), (1, true), (2, true), (3, true), (4, true), (5, true), (6, true), (7, true)] _ (fun _ h => h) ?_)))))))
  refine dLL rfl rfl ?_
  refine dFa rfl rfl ?_
  refine dLd rfl rfl ?_
  refine dp rfl rfl ?_
  refine dq rfl (wAp rfl rfl rfl rfl en (by omega)) ?_
  refine dq rfl (qLd rfl rfl rfl rfl (hnx.cj _)) ?_
  refine dq rfl (qCl (rentry_spec g (wAi w) M hgk (by omega))) ?_
  refine ds rfl rfl (fun h61 => ?_) (fun h61 => ?_)
  ·refine wAs (jPn (jT (wAf rfl (wAb (wAa (jp rfl (jp rfl (wAc (jT (wAg (jTr (jr2 rfl rfl rfl ?_))))))))))))
   have hs : (wAm (wAi w) g.x.names).isSome = true := by
    rw [← wHt hgk hnn]
    cases h : wAm (wAi w) g.ns with
    | none => rw [wLo h] at h61; omega
    | some k => rfl
   rw [hfr, h48, if_pos rfl, if_pos (by omega), if_pos hs]; rfl
  refine wAs (jPn (jT (wAh rfl (wAd (jT (wAb (wAb (wAa (sFL rfl rfl ?_)))))))))
  refine lq (wCd rfl rfl rfl) ?_
  refine js rfl (fun h65 => ?_) (fun h65 => ?_)
  ·refine jp rfl (jp rfl (jp rfl (js rfl (fun h69 => ?_) (fun h69 => ?_))))
   ·refine jp rfl (wAc (jT (wAf rfl (wAb (wAa (jp rfl (jp rfl (wAc (jT (wAg (jTr (jr2 rfl rfl rfl ?_))))))))))))
    have hs : ¬ (wAm (wAi w) g.x.names).isSome = true := by
     rw [← wHt hgk hnn]
     cases h : wAm (wAi w) g.ns with
     | none => simp
     | some k => obtain ⟨q, hq, eq, _⟩ := wHa h; rw [eq] at h61; omega
    rw [hfr, h48, if_pos rfl, if_pos (by omega), if_neg hs, if_pos ⟨by omega, fun e => h69 (by rw [e, show vol = w.1 by omega]; show _ = wDf f.abs w.1 id; rw [hfix, ej])⟩]; rfl
   refine jp rfl (wAc (jT (wAh rfl (wAd (jT (wAb (wAa (jp rfl (jp rfl (jp rfl (wAc (jT (wAg (jr2 rfl rfl rfl ?_))))))))))))))
   have hs : ¬ (wAm (wAi w) g.x.names).isSome = true := by
    rw [← wHt hgk hnn]
    cases h : wAm (wAi w) g.ns with
    | none => simp
    | some k => obtain ⟨q, hq, eq, _⟩ := wHa h; rw [eq] at h61; omega
   have ho : old = some id := by
    cases old with
    | none => exact absurd h69 (by show ¬ ¬ ¬ (j : Int) = -1; omega)
    | some d =>
     have h70 : (j : Int) = wDf f.abs vol d := Classical.not_not.1 h69
     rw [show vol = w.1 by omega, hfix] at h70
     obtain ⟨v2, x2, hv2, hx2⟩ := hold d rfl (by omega)
     rw [hv] at hv2; cases hv2
     obtain ⟨j3, hj3, ej3, hji3, _⟩ := GV.file hx2
     rw [ej3] at h70
     obtain rfl : j = j3 := by omega
     rw [← hji3, hg, hji]
   rw [hfr, h48, if_pos rfl, if_pos (by omega), if_neg hs, if_neg (fun h => h.2 ho)]; show _ = Value.tuple #[.int .i64 (wDf f.abs w.1 id), _]; rw [hfix, ej]; rfl
  refine jp rfl (jp rfl (jp rfl (jp rfl (jp rfl (wAc (jT (wAh rfl (wAd (jT (wAb (wAa (jp rfl (jp rfl (jp rfl (wAc (jT (wAg (jr2 rfl rfl rfl ?_))))))))))))))))))
  have hs : ¬ (wAm (wAi w) g.x.names).isSome = true := by
   rw [← wHt hgk hnn]
   cases h : wAm (wAi w) g.ns with
   | none => simp
   | some k => obtain ⟨q, hq, eq, _⟩ := wHa h; rw [eq] at h61; omega
  rw [hfr, h48, if_pos rfl, if_pos (by omega), if_neg hs, if_neg (fun h => by omega)]; show _ = Value.tuple #[.int .i64 (wDf f.abs w.1 id), _]; rw [hfix, ej]; rfl
 refine jp rfl (wAc (jT (wAf rfl (wAb (wAa (jp rfl (jp rfl (wAc (jT (wAg (jTr (jr2 rfl rfl rfl ?_))))))))))))
 rw [hfr, h48]; rfl
theorem wDp (f : GS) (n : Nat) (hwf : WFS n f.abs) (hn : n ≤ 100) (M : Mem) (hf : f.Ok M) (w : Wy) (na : Option Addr) (nc : Nat) (hW : WyOk M w na nc) (vol : Int) (old : Option Int) (hold : ∀ d, old = some d → w.1 = vol → ∃ v x, wAm w.1 f.abs.vols = some v ∧ wAm d v.files = some x) : SpecL Tryz.prog 57 #[gsV f, wyV w na nc, .int .i64 vol, .int .i64 (sameI f.abs vol old)] M [] fun u _ _ => u = whereV f.abs w.1 (wBo f.abs w vol old) := by
 by_cases hne : w.2 = []
 ·exact where_nil f n hwf hn M hf w na nc hW vol old hold hne
 cases hw : wBb f.abs w.1 w.2.dropLast with
 | error e => exact where_err f n hwf hn M hf w na nc hW vol old hold hne e hw
 | ok id => exact where_ok f n hwf hn M hf w na nc hW vol old hold hne id hw
theorem eC_one (l : List NE) : ∀ u ∈ l.flatMap eC, u.oneCell' = true := fun u hu => by
 obtain ⟨q, _, h⟩ := List.mem_flatMap.1 hu
 exact List.all_eq_true.1 (rfl : ((eC q).all fun v => v.oneCell') = true) u h
theorem eC_snoc (l : List NE) (q : NE) : (l ++ [q]).flatMap eC = l.flatMap eC ++ eC q := by rw [List.flatMap_append, List.flatMap_cons, List.flatMap_nil, List.append_nil]
structure NamI (l : List NE) (s : Str) (k : Int) (z : Nat × Bool × Value × Lc) : Prop where
 le : z.1 ≤ l.length
 no : z.2.1 = false → (∀ p ∈ l.take z.1, ¬ ltS s p.1) ∧ Own z.2.2.1 z.2.2.2 112 2 z.1 ((l.take z.1).flatMap eC)
 ye : z.2.1 = true → (∃ p ∈ l.take z.1, ltS s p.1) ∧ Own z.2.2.1 z.2.2.2 112 2 (z.1 + 1) ((wBi (l.take z.1) s k).flatMap eC)
theorem wKa (l : List NE) (s : Str) (k : Int) : (wBi l s k).length = l.length + 1 := by rw [(namedL_perm (l := l)).length_eq, List.length_append]; rfl
def NmsP (l : List NE) (u : Value) (M' : Mem) (L' : Lc) : Prop := ∃ a c, u = .slice a l.length c ∧ l.length ≤ c ∧ SM M' a (l.flatMap eC) ∧ L' = []
set_option maxHeartbeats 2000000 in
theorem wJy (l : List NE) (la : Option Addr) (lc : Nat) (M : Mem) (hL : SM M la (l.flatMap eC)) (hn : l.length ≤ 1000000) (s : Str) (k : Int) :
  SpecL Tryz.prog 58 #[.slice la l.length lc, .string s, .int .u32 k] M [] (NmsP (wBi l s k)) := by
 refine wAe (vs := [_, _, _]) 49 _ Tryz.func58 rfl Tryz.ntmps58 rfl rfl ?_; intro W
 refine wAb (wAa (jp rfl (wAc (jT (wAb (wAa (jp rfl (wAc (jT (wAb (wAa (jp rfl (wAc (jT (wAb (wAb (wAa (jp rfl (wAc (jT (wAk ?_)))))))))))))))))))))
 refine wBr (α := Nat × Bool × Value × Lc) (fun z => [(0, .slice la l.length lc), (1, .string s), (2, .int .u32 k), (7, z.2.2.1), (8, .bool z.2.1), (9, .int .i64 z.1)]) (fun _ => M) (fun z => z.2.2.2) (fun z => NamI l s k z) (fun z => l.length - z.1)
  (0, false, .slice none 0 0, []) (.cons (t := 0) rfl (.cons (t := 1) rfl (.cons (t := 2) rfl (.cons (t := 7) rfl (.cons (t := 8) rfl (.cons (t := 9) rfl .nil)))))) ⟨Nat.zero_le _, fun _ => ⟨fun _ h => by simp at h, Own.nil _ _⟩, fun h => by cases h⟩ (fun _ h => h) ?_
 rintro ⟨i, put, out, R⟩ hI
 have hi := hI.le
 dsimp only at hi ⊢
 refine wAb (wAb (wAa (jp rfl (jp rfl (lq (wCd rfl rfl rfl) ?_)))))
 refine js rfl (fun h13 => ?_) (fun h13 => ?_)
 ·refine wAc (jT (wAf rfl (wAd (jT (wAb (wAk (wAb (wAb ?_))))))))
  have hk1 : i < l.length := by omega
  obtain ⟨eb, eo, ee, hex⟩ := wDh eC_len hL hk1 (by omega)
  have htk : l.take (i + 1) = l.take i ++ [l[i]] := List.take_succ_eq_append_getElem hk1
  refine wAa (jsb rfl (fun h16 => ?_) (fun h16 => ?_))
  ·iterate 10 refine jp rfl ?_
   refine wAc (jT (wAh rfl (wAd (jT (wAa (jp rfl (jp rfl (jp rfl (lq (wAp rfl rfl rfl rfl ee (by omega)) ?_)))))))))
   refine lq (wFt (cs := eC l[i]) rfl rfl rfl rfl rfl (fun j u hu => (hex j u hu).cj _)) ?_
   refine wCe rfl rfl (wBt (cs := [_, _]) rfl rfl rfl (by rfl) (by rfl) (by rfl)) ?_; rintro _ _ _ ⟨b38, rfl, rfl, rfl⟩
   refine wCe rfl rfl (wDt (R := R) (news := eC l[i]) rfl rfl rfl rfl (hI.ye h16).2 rfl (fun j v hv => CJ.loc (by rw [Nat.zero_add]; simpa [eC] using hv)) rfl rfl (fun u hu => List.all_eq_true.1 (rfl : ((eC l[i]).all fun v => v.oneCell') = true) u hu) (by omega) (by omega)) ?_; rintro out3 _ _ ⟨rfl, R4, rfl, hown3, _⟩
   refine jp rfl (wAc (jB (jT (wAa (jp rfl (ja rfl (by omega) ?_))))))
   refine jp rfl (wAc ?_)
   refine wBu (i + 1, true, out3, R4) (.cons (t := 0) rfl (.cons (t := 1) rfl (.cons (t := 2) rfl (.cons (t := 7) rfl (Keep.ceq (t := 8) rfl (by rw [h16]) (.cons (t := 9) rfl .nil)))))) ⟨by show i + 1 ≤ _; omega, (fun h => by cases h), fun _ => ?_⟩ (by show l.length - (i + 1) < l.length - i; omega) (fun _ h => h.subC fun f => by simp only [List.map_append, List.map_cons, List.map_nil, List.sum_append, List.sum_cons, List.sum_nil]; omega)
   obtain ⟨⟨p, hp, hps⟩, _⟩ := hI.ye h16
   dsimp only at hp
   refine ⟨⟨p, by dsimp only; rw [htk]; exact List.mem_append_left _ hp, hps⟩, ?_⟩
   dsimp only
   rw [htk, namedL_more ⟨p, hp, hps⟩, eC_snoc]; exact hown3
  refine jp rfl (jp rfl (jp rfl (jp rfl (lq (wAp rfl rfl rfl rfl ee (by omega)) ?_))))
  refine sFa rfl ?_
  refine lq (qLd rfl rfl rfl rfl ((hex 0 _ rfl).cj _)) ?_
  refine jp rfl (wEk rfl rfl (qStrGtr rfl rfl rfl rfl) (fun h25 => ?_) (fun h25 => ?_))
  ·refine jp rfl (wAc (jT (wAf rfl (wAb (wAa (jp rfl (jp rfl (jp rfl (lq (wBe (cs := [_, _]) rfl rfl rfl (by rfl)) ?_)))))))))
   refine wCe rfl rfl (wBt (cs := [_, _]) rfl rfl rfl (by rfl) (by rfl) (by rfl)) ?_; rintro _ _ _ ⟨b31, rfl, rfl, rfl⟩
   refine wCe rfl rfl (wDt (R := R) (news := eC (s, k)) rfl rfl rfl rfl (hI.no h16).2 rfl (fun j v hv => CJ.loc (by rw [Nat.zero_add]; simpa [eC] using hv)) rfl rfl (fun u hu => List.all_eq_true.1 (rfl : ((eC (s, k)).all fun v => v.oneCell') = true) u hu) (by omega) (by omega)) ?_; rintro out2 _ _ ⟨rfl, R3, rfl, hown2, _⟩
   refine jp rfl (wAc (jT (wAa (jp rfl (wAc (jT (wAa (jp rfl (jp rfl (jp rfl (lq (wAp rfl rfl rfl rfl ee (by omega)) ?_)))))))))))
   refine lq (wFt (cs := eC l[i]) rfl rfl rfl rfl rfl (fun j u hu => (hex j u hu).cj _)) ?_
   refine wCe rfl rfl (wBt (cs := [_, _]) rfl rfl rfl (by rfl) (by rfl) (by rfl)) ?_; rintro _ _ _ ⟨b38, rfl, rfl, rfl⟩
   refine wCe rfl rfl (wDt (R := R3) (news := eC l[i]) rfl rfl rfl rfl hown2 rfl (fun j v hv => CJ.loc (by rw [Nat.zero_add]; simpa [eC] using hv)) rfl rfl (fun u hu => List.all_eq_true.1 (rfl : ((eC l[i]).all fun v => v.oneCell') = true) u hu) (by omega) (by omega)) ?_; rintro out3 _ _ ⟨rfl, R4, rfl, hown3, _⟩
   refine jp rfl (wAc (jB (jT (wAa (jp rfl (ja rfl (by omega) ?_))))))
   refine jp rfl (wAc ?_)
   refine wBu (i + 1, true, out3, R4) (.cons (t := 0) rfl (.cons (t := 1) rfl (.cons (t := 2) rfl (.cons (t := 7) rfl (.cons (t := 8) rfl (.cons (t := 9) rfl .nil)))))) ⟨by show i + 1 ≤ _; omega, (fun h => by cases h), fun _ => ?_⟩ (by show l.length - (i + 1) < l.length - i; omega) (fun _ h => h.subC fun f => by simp only [List.map_append, List.map_cons, List.map_nil, List.sum_append, List.sum_cons, List.sum_nil]; omega)
   have hno := (hI.no h16).1
   dsimp only at hno
   refine ⟨⟨l[i], by dsimp only; rw [htk]; exact List.mem_append_right _ (List.mem_singleton.2 rfl), of_decide_eq_true h25⟩, ?_⟩
   dsimp only
   rw [htk, namedL_hit (of_decide_eq_true h25) hno, show l.take i ++ [(s, k), l[i]] = (l.take i ++ [(s, k)]) ++ [l[i]] by simp, eC_snoc, eC_snoc]; exact hown3
  refine jp rfl (wAc (jT (wAh rfl (wAd (jT (wAa (jp rfl (jp rfl (jp rfl (lq (wAp rfl rfl rfl rfl ee (by omega)) ?_))))))))))
  refine lq (wFt (cs := eC l[i]) rfl rfl rfl rfl rfl (fun j u hu => (hex j u hu).cj _)) ?_
  refine wCe rfl rfl (wBt (cs := [_, _]) rfl rfl rfl (by rfl) (by rfl) (by rfl)) ?_; rintro _ _ _ ⟨b38, rfl, rfl, rfl⟩
  refine wCe rfl rfl (wDt (R := R) (news := eC l[i]) rfl rfl rfl rfl (hI.no h16).2 rfl (fun j v hv => CJ.loc (by rw [Nat.zero_add]; simpa [eC] using hv)) rfl rfl (fun u hu => List.all_eq_true.1 (rfl : ((eC l[i]).all fun v => v.oneCell') = true) u hu) (by omega) (by omega)) ?_; rintro out3 _ _ ⟨rfl, R4, rfl, hown3, _⟩
  refine jp rfl (wAc (jB (jT (wAa (jp rfl (ja rfl (by omega) ?_))))))
  refine jp rfl (wAc ?_)
  refine wBu (i + 1, false, out3, R4) (.cons (t := 0) rfl (.cons (t := 1) rfl (.cons (t := 2) rfl (.cons (t := 7) rfl (Keep.ceq (t := 8) rfl (by rw [h16]) (.cons (t := 9) rfl .nil)))))) ⟨by show i + 1 ≤ _; omega, fun _ => ?_, (fun h => by cases h)⟩ (by show l.length - (i + 1) < l.length - i; omega) (fun _ h => h.subC fun f => by simp only [List.map_append, List.map_cons, List.map_nil, List.sum_append, List.sum_cons, List.sum_nil]; omega)
  have hno := (hI.no h16).1
  dsimp only at hno
  dsimp only
  rw [htk]
  refine ⟨fun p hp => ?_, by rw [eC_snoc]; exact hown3⟩
  rcases List.mem_append.1 hp with hp | hp
  ·exact hno p hp
  rw [List.mem_singleton.1 hp]; exact of_decide_eq_false h25
 refine wAc (jT (wAh rfl (wBx (jTx (jTx (jBx (jT (wAb (wAb (wAa (jsb rfl (fun h40 => ?_) (fun h40 => ?_))))))))))))
 ·refine jp rfl (wAc (jT (wAh rfl (wAd (jT (wAb (wAa (jp rfl (jp rfl (wAc (jT (wAg ?_))))))))))))
  obtain rfl : i = l.length := by omega
  have hy := hI.ye h40
  dsimp only at hy
  rw [List.take_length] at hy
  obtain ⟨_, hown⟩ := hy
  refine wLk hown (by simp) ?_
  intro M9 a9 c9 hM9 e9 hc9 hs9
  subst e9
  refine jr1 rfl rfl ?_
  exact ⟨a9, c9, by rw [wKa], by rw [wKa]; exact hc9, hs9, rfl⟩
 refine jp rfl (wAc (jT (wAf rfl (wAa (jp rfl (jp rfl (jp rfl (lq (wBe (cs := [_, _]) rfl rfl rfl (by rfl)) ?_))))))))
 refine wCe rfl rfl (wBt (cs := [_, _]) rfl rfl rfl (by rfl) (by rfl) (by rfl)) ?_; rintro _ _ _ ⟨b46, rfl, rfl, rfl⟩
 refine wCe rfl rfl (wDt (R := R) (news := eC (s, k)) rfl rfl rfl rfl (hI.no h40).2 rfl (fun j v hv => CJ.loc (by rw [Nat.zero_add]; simpa [eC] using hv)) rfl rfl (fun u hu => List.all_eq_true.1 (rfl : ((eC (s, k)).all fun v => v.oneCell') = true) u hu) (by omega) (by omega)) ?_; rintro out2 _ _ ⟨rfl, R3, rfl, hown2, _⟩
 refine jp rfl (wAc (jT (wAb (wAa (jp rfl (jp rfl (wAc (jT (wAg ?_)))))))))
 obtain rfl : i = l.length := by omega
 have hy := hI.no h40
 dsimp only at hy
 rw [List.take_length] at hy
 rw [List.take_length] at hown2
 refine wLk hown2 (by simp) ?_
 intro M9 a9 c9 hM9 e9 hc9 hs9
 subst e9
 refine wCv (L' := []) (List.nil_sublist _) ?_
 refine jr1 rfl rfl ?_
 exact ⟨a9, c9, by rw [wKa], by rw [wKa]; exact hc9, by rw [namedL_end hy.1, eC_snoc]; exact hs9, rfl⟩
theorem wJt (l : List NE) (la : Option Addr) (lc : Nat) (M : Mem) (hL : SM M la (l.flatMap eC)) (hn : l.length ≤ 1000000) (s : Str) :
  SpecL Tryz.prog 64 #[.slice la l.length lc, .string s] M [] (NmsP (wBc s l)) := by
 refine wAe (vs := [_, _]) 28 _ Tryz.func64 rfl Tryz.ntmps64 rfl rfl ?_; intro W
 refine wAb (wAa (jp rfl (wAc (jT (wAb (wAa (jp rfl (wAc (jT (wAb (wAb (wAa (jp rfl (wAc (jT (wAk ?_))))))))))))))))
 refine wBr (α := Nat × Value × Lc) (fun z => [(0, .slice la l.length lc), (1, .string s), (5, z.2.1), (6, .int .i64 z.1)]) (fun _ => M) (fun z => z.2.2) (fun z => z.1 ≤ l.length ∧ Own z.2.1 z.2.2 112 2 (wBc s (l.take z.1)).length ((wBc s (l.take z.1)).flatMap eC)) (fun z => l.length - z.1)
  (0, .slice none 0 0, []) (.cons (t := 0) rfl (.cons (t := 1) rfl (.cons (t := 5) rfl (.cons (t := 6) rfl .nil)))) ⟨Nat.zero_le _, Own.nil _ _⟩ (fun _ h => h) ?_
 rintro ⟨i, out, R⟩ hI
 have hi := hI.1
 dsimp only at hi hI ⊢
 refine wAb (wAb (wAa (jp rfl (jp rfl (lq (wCd rfl rfl rfl) ?_)))))
 refine js rfl (fun h10 => ?_) (fun h10 => ?_)
 ·refine wAc (jT (wAf rfl (wAd (jT (wAb (wAk (wAb ?_)))))))
  have hk1 : i < l.length := by omega
  obtain ⟨eb, eo, ee, hex⟩ := wDh eC_len hL hk1 (by omega)
  have htk : l.take (i + 1) = l.take i ++ [l[i]] := List.take_succ_eq_append_getElem hk1
  refine wAa (jp rfl (jp rfl (lq (wAp rfl rfl rfl rfl ee (by omega)) ?_)))
  refine sFa rfl ?_
  refine lq (qLd rfl rfl rfl rfl ((hex 0 _ rfl).cj _)) ?_
  refine jp rfl (wEk rfl rfl (wGq rfl rfl rfl rfl) (fun h19 => ?_) (fun h19 => ?_))
  ·refine wAc (jT (wAf rfl (wAa (jp rfl (jp rfl (jp rfl (lq (wAp rfl rfl rfl rfl ee (by omega)) ?_)))))))
   refine lq (wFt (cs := eC l[i]) rfl rfl rfl rfl rfl (fun j u hu => (hex j u hu).cj _)) ?_
   refine wCe rfl rfl (wBt (cs := [_, _]) rfl rfl rfl (by rfl) (by rfl) (by rfl)) ?_; rintro _ _ _ ⟨b25, rfl, rfl, rfl⟩
   have hdl : (wBc s (l.take i)).length ≤ i := Nat.le_trans (List.length_filter_le _ _) (by rw [List.length_take]; omega)
   refine wCe rfl rfl (wDt (R := R) (news := eC l[i]) rfl rfl rfl rfl hI.2 rfl (fun j v hv => CJ.loc (by rw [Nat.zero_add]; simpa [eC] using hv)) rfl rfl (fun u hu => List.all_eq_true.1 (rfl : ((eC l[i]).all fun v => v.oneCell') = true) u hu) (by omega) (by omega)) ?_; rintro out3 _ _ ⟨rfl, R4, rfl, hown3, _⟩
   refine jp rfl (wAc (jB (jT (wAa (jp rfl (ja rfl (by omega) ?_))))))
   refine jp rfl (wAc ?_)
   have hd : wBc s (l.take (i + 1)) = wBc s (l.take i) ++ [l[i]] := by
    rw [htk]; unfold wBc; rw [List.filter_append]; simp [of_decide_eq_true h19]
   refine wBu (i + 1, out3, R4) (.cons (t := 0) rfl (.cons (t := 1) rfl (.cons (t := 5) rfl (.cons (t := 6) rfl .nil)))) ⟨by show i + 1 ≤ _; omega, by dsimp only; rw [hd, eC_snoc, List.length_append]; exact hown3⟩ (by show l.length - (i + 1) < l.length - i; omega) (fun _ h => h.subC fun f => by simp only [List.map_append, List.map_cons, List.map_nil, List.sum_append, List.sum_cons, List.sum_nil]; omega)
  refine wAc (jT (wAh rfl (wAd (jB (jT (wAa (jp rfl (ja rfl (by omega) ?_))))))))
  refine jp rfl (wAc ?_)
  have h20 : l[i].1 = s := by have := of_decide_eq_false h19; simpa using this
  have hd : wBc s (l.take (i + 1)) = wBc s (l.take i) := by
   rw [htk]; unfold wBc; rw [List.filter_append]; simp [h20]
  refine wBu (i + 1, out, R) (.cons (t := 0) rfl (.cons (t := 1) rfl (.cons (t := 5) rfl (.cons (t := 6) rfl .nil)))) ⟨by show i + 1 ≤ _; omega, by dsimp only; rw [hd]; exact hI.2⟩ (by show l.length - (i + 1) < l.length - i; omega) (fun _ h => h)
 refine wAc (jT (wAh rfl (wBx (jTx (jTx (jBx (jT (wAb (wAa (jp rfl (jp rfl (wAc (jT (wAg ?_))))))))))))))
 obtain rfl : i = l.length := by omega
 rw [List.take_length] at hI
 refine wLk hI.2 (by simp) ?_
 intro M9 a9 c9 hM9 e9 hc9 hs9
 subst e9
 refine jr1 rfl rfl ?_
 exact ⟨a9, c9, rfl, hc9, hs9, rfl⟩
theorem zero_flat (n : Nat) : (List.replicate n [Value.int .u8 0]).flatten = wAn (List.replicate n 0) := by
 induction n with
 | zero => rfl
 | succ n ih => rw [List.replicate_succ, List.flatten_cons, ih]; rfl
theorem long_next {b : List By} {n i : Nat} (h : i < b.length) (hn : i < n) : (b.take i ++ List.replicate (n - i) 0).take i ++ [b[i]] ++ (b.take i ++ List.replicate (n - i) 0).drop (i + 1) = b.take (i + 1) ++ List.replicate (n - (i + 1)) 0 := by
 have hl : (b.take i).length = i := by rw [List.length_take]; omega
 rw [List.take_append_of_le_length (by omega), List.take_of_length_le (by omega), List.drop_append, hl, List.drop_of_length_le (by omega), List.nil_append, List.drop_replicate, List.take_succ_eq_append_getElem h, show n - i - (i + 1 - i) = n - (i + 1) by omega]
theorem sized_end {b : List By} {n i : Nat} (h : i ≤ b.length) (hn : i ≤ n) (he : i = n ∨ i = b.length) : b.take i ++ List.replicate (n - i) 0 = wAx b n := by
 unfold wAx
 split
 ·rcases he with rfl | rfl
  ·rw [Nat.sub_self]; simp
  obtain rfl : n = b.length := by omega
  rw [Nat.sub_self]; simp
 obtain rfl : i = b.length := by omega
 rw [List.take_length]
theorem bc_store {b : List By} {k : Nat} {x : By} : (wAn b).take (0 + k) ++ [Value.int .u8 (x.toNat : Int)] ++ (wAn b).drop (0 + k + 1) = wAn (b.take k ++ [x] ++ b.drop (k + 1)) := by
 unfold wAn; rw [Nat.zero_add, List.map_append, List.map_append, List.map_take, List.map_drop]; rfl
theorem bc_store1 {b : List By} {k : Nat} {x : By} : (wAn b).take (0 + ((k : Int)).toNat * 1) ++ [Value.int .u8 (x.toNat : Int)] ++ (wAn b).drop (0 + ((k : Int)).toNat * 1 + 1) = wAn (b.take k ++ [x] ++ b.drop (k + 1)) := by
 rw [Int.toNat_natCast, Nat.mul_one]; exact bc_store
theorem byte_at {M : Mem} {a : Option Addr} {xs : List By} (h : SM M a (wAn xs)) {i : Nat} (hi : i < xs.length) : ∃ b off, a = some ⟨b, off, none⟩ ∧ CM M b (off + ((i : Int)).toNat * 1) (.int .u8 (xs[i].toNat : Int)) := by
 obtain ⟨b, off, e, hx⟩ := h.open (fun e => by have := congrArg List.length e; rw [wBd, List.length_nil] at this; omega)
 exact ⟨b, off, e, by rw [Int.toNat_natCast, Nat.mul_one]; exact hx i _ (by simp [wAn, hi])⟩
def LngP (xs : List By) (u : Value) (M M' : Mem) (L' : Lc) : Prop := ∃ b, u = .slice (some ⟨b, 0, none⟩) xs.length xs.length ∧ M' = M ∧ L' = [(b, .cells (wAn xs).toArray 5 (0, 0))]
theorem wGb (xs : List By) (a : Option Addr) (c : Nat) (M : Mem) (hx : SM M a (wAn xs)) (hn : xs.length ≤ 1000000) (m : Nat) (hm : m ≤ 1000000) :
  SpecL Tryz.prog 61 #[.slice a xs.length c, .int .i64 m] M [] (fun u M' L' => LngP (wAx xs m) u M M' L') := by
 refine wAe (vs := [_, _]) 28 _ Tryz.func61 rfl Tryz.ntmps61 rfl rfl ?_; intro W
 refine wAb (wAa (jp rfl (wAc (jT (wAb (wAa (jp rfl (wCe rfl rfl (hMake rfl rfl rfl rfl (by omega) (by rfl)) ?_)))))))); rintro _ _ _ ⟨b8, rfl, rfl, rfl⟩
 rw [zero_flat, Int.toNat_natCast]
 refine jp rfl (wAc (jT (wAb (wAb (wAa (jp rfl (wAc (jT (wAk ?_)))))))))
 refine wBr (α := Nat) (fun i => [(0, .slice a xs.length c), (1, .int .i64 m), (5, .slice (some ⟨b8, 0, none⟩) m m), (6, .int .i64 i)]) (fun _ => M) (fun i => [(b8, .cells (wAn (xs.take i ++ List.replicate (m - i) 0)).toArray 5 (0, 0))]) (fun i => i ≤ xs.length ∧ i ≤ m) (fun i => m - i)
  0 (.cons (t := 0) rfl (.cons (t := 1) rfl (.cons (t := 5) rfl (.cons (t := 6) rfl .nil)))) ⟨Nat.zero_le _, Nat.zero_le _⟩ (fun _ h => h) ?_
 rintro i ⟨hi1, hi2⟩
 try dsimp only at hi1 hi2 ⊢
 refine wAb (wAb (wAa (jp rfl (jp rfl (js rfl (fun h11 => ?_) (fun h11 => ?_))))))
 ·refine jp rfl (jp rfl (jp rfl (lq (wCd rfl rfl rfl) ?_)))
  refine js rfl (fun h16 => ?_) (fun h16 => ?_)
  ·refine jp rfl (wAc (jT (wAf rfl (wAd (jT (wAb (wAk (wAa (jp rfl (jp rfl (jp rfl (jp rfl ?_))))))))))))
   have hk1 : i < xs.length := by omega
   have hk2 : i < m := by omega
   obtain ⟨qb, qo, e0, hc⟩ := byte_at hx hk1
   refine lq (wAp rfl rfl rfl rfl e0 (by omega)) ?_
   refine lq (qLd rfl rfl rfl rfl (hc.cj _)) ?_
   refine lq (wEn rfl rfl rfl rfl (by omega)) ?_
   refine jl_s rfl (wBw (l2 := wAn (xs.take (i + 1) ++ List.replicate (m - (i + 1)) 0)) rfl rfl rfl rfl rfl rfl rfl (Nat.ble_eq_true_of_le (by simp only [wBd, List.length_append, List.length_take, List.length_replicate, List.length_cons, List.length_nil, Int.toNat_natCast]; omega)) (by rw [← long_next hk1 hk2]; exact bc_store1)) ?_; rintro _ _ _ ⟨rfl, rfl⟩
   refine wAc (jB (jT (wAa (jp rfl (ja rfl (by omega) ?_)))))
   refine jp rfl (wAc ?_)
   refine wBu (i + 1) (.cons (t := 0) rfl (.cons (t := 1) rfl (.cons (t := 5) rfl (.cons (t := 6) rfl .nil)))) ⟨by omega, by omega⟩ (by omega) (fun _ h => h)
  refine jp rfl (wAc (jT (wAh rfl (wBx (jTx (jTx (jBx (jT (wAb (wAa (jp rfl (jp rfl (wAc (jT (wAg (jr1 rfl rfl ?_))))))))))))))))
  rw [sized_end hi1 hi2 (by omega)]
  exact ⟨b8, by rw [wAq], rfl, rfl⟩
 refine jp rfl (jp rfl (jp rfl (jp rfl (jp rfl (jp rfl (wAc (jT (wAh rfl (wBx (jTx (jTx (jBx (jT (wAb (wAa (jp rfl (jp rfl (wAc (jT (wAg (jr1 rfl rfl ?_)))))))))))))))))))))
 rw [sized_end hi1 hi2 (by omega)]
 exact ⟨b8, by rw [wAq], rfl, rfl⟩
theorem fls_snoc (l : List GF) (g : GF) : flsOf' (l ++ [g]) = flsOf' l ++ [(g.id, g.x)] := by simp
theorem vls_snoc (l : List GV) (g : GV) : wAv (l ++ [g]) = wAv l ++ [(g.id, g.abs)] := by simp
def TwP (v : GV) (u : Value) (M' : Mem) (L' : Lc) : Prop := ∃ (fs : List GF) (a : Option Addr) (c : Nat) (R : Lc), u = .agg (gvC { v with files := fs, fa := a, fc := c }).toArray ∧ flsOf' fs = flsOf' v.files ∧ Own (.slice a fs.length c) R 93 5 fs.length (fs.flatMap gfC) ∧ (∀ g ∈ fs, g.Ok M') ∧ L' = R
structure TwI (v : GV) (M : Mem) (z : Nat × Mem × List GF × Option Addr × Nat × Lc) : Prop where
 le : z.1 ≤ v.files.length
 len : z.2.2.1.length = z.1
 mem : MLe M z.2.1
 fls : flsOf' z.2.2.1 = flsOf' (v.files.take z.1)
 own : Own (.slice z.2.2.2.1 z.1 z.2.2.2.2.1) z.2.2.2.2.2 93 5 z.1 (z.2.2.1.flatMap gfC)
 all : ∀ g ∈ z.2.2.1, g.Ok z.2.1
set_option maxHeartbeats 4000000 in
theorem rtwin_spec (v : GV) (M : Mem) (hv : v.Ok M) (hn : v.files.length ≤ 1000000) (hsz : ∀ g ∈ v.files, g.x.data.length ≤ 1000000 ∧ g.ns.length ≤ 1000000) :
  SpecL Tryz.prog 56 #[.agg (gvC v).toArray] M [] (TwP v) := by
 refine wAe (vs := [_]) 52 _ Tryz.func56 rfl Tryz.ntmps56 rfl rfl ?_; intro W
 refine wAb (wAa (sBx [_, _, _, _] rfl fun b1 => ?_))
 refine sAl rfl fun b2 => ?_
 refine wAc (jT (wAb (wAa (sFL rfl rfl ?_))))
 refine sFL rfl rfl ?_
 refine sFL rfl rfl ?_
 refine lq (wBe (cs := [_, _, _, _]) rfl rfl rfl (by rfl)) ?_
 refine sAl rfl fun b3 => ?_
 refine sSt rfl ?_
 refine wAc (jT (wAb (wAb (wAa (jp rfl (wAc (jT (wAk ?_))))))))
 refine wBr (α := Nat × Mem × List GF × Option Addr × Nat × Lc) (fun z => [(1, pt b1), (2, pt b2), (3, pt b3), (4, .int .i64 z.1)]) (fun z => z.2.1) (fun z => (b3, .cells [.int .i64 v.id, .bool v.frozen, .int .u32 v.next, .slice z.2.2.2.1 z.1 z.2.2.2.2.1].toArray 96 (0, 0)) :: (b2, .cells [.int .i64 0, .bool false, .int .u32 0, .slice none 0 0].toArray 96 (0, 0)) :: (b1, .cells (gvC v).toArray 96 (0, 0)) :: z.2.2.2.2.2) (fun z => TwI v M z) (fun z => v.files.length - z.1)
  (0, M, [], none, 0, []) (.cons (t := 1) rfl (.cons (t := 2) rfl (.cons (t := 3) rfl (.cons (t := 4) rfl .nil)))) ⟨Nat.zero_le _, rfl, MLe.refl _, rfl, Own.nil _ _, fun _ h => by cases h⟩ (fun _ h => h) ?_
 rintro ⟨i, Mk, fs, fa, fc, R⟩ hI
 have hi := hI.le
 dsimp only at hi ⊢
 refine wAb (wAb (wAa (jp rfl (sFL rfl rfl ?_))))
 refine lq (wCd rfl rfl rfl) ?_
 refine js rfl (fun h18 => ?_) (fun h18 => ?_)
 ·refine wAc (jT (wAf rfl (wAd (jT (wAb (wAk (wAb (wAa (sFL rfl rfl ?_)))))))))
  refine jp rfl ?_
  have hk1 : i < v.files.length := by omega
  obtain ⟨fb, fo, ef, hfx⟩ := wDh wBa hv.fa hk1 (by omega)
  have hgo := hv.all _ (List.getElem_mem hk1)
  obtain ⟨hz1, hz2⟩ := hsz _ (List.getElem_mem hk1)
  have hgk := hgo.mono hI.mem
  refine lq (wAp rfl rfl rfl rfl ef (by omega)) ?_
  refine lq (wFt (cs := gfC v.files[i]) rfl rfl rfl rfl rfl (fun j u hu => ((hfx j u hu).mono hI.mem).cj _)) ?_
  refine sAl rfl fun b5 => ?_
  refine sSt rfl ?_
  refine wAc (jT (wAb (wAa (sFL rfl rfl ?_))))
  refine sFL rfl rfl ?_
  refine sFL rfl rfl ?_
  refine lq (wBe (cs := [_, _, _, _, _]) rfl rfl rfl (by rfl)) ?_
  refine sAl rfl fun b6 => ?_
  refine sSt rfl ?_
  refine wAc (jT (wAb (wAa (sFL rfl rfl ?_))))
  refine sFL rfl rfl ?_
  refine wCe rfl rfl (wLp (R := []) rfl rfl rfl rfl (Own.nil _ _) (by rw [wBd, Nat.mul_one]) hgk.da rfl (wKe _) (by omega) (by omega)) ?_; rintro v1 _ _ ⟨rfl, R1, rfl, hown1⟩
  rw [Nat.zero_add, List.nil_append] at hown1
  refine jl_own hown1 (by simp) ?_
  intro M2 a2 c2 hM2 e2 hc2 hs2
  subst e2
  refine sFa rfl ?_
  refine sSt rfl ?_
  refine wAc (jT (wAb (wAa (sFL rfl rfl ?_))))
  refine sFL rfl rfl ?_
  refine wCe rfl rfl (wLp (R := []) rfl rfl rfl rfl (Own.nil _ _) (wDr eC 2 eC_len _) (hgk.na.mono hM2) rfl (eC_one _) (by omega) (by omega)) ?_; rintro v3 _ _ ⟨rfl, R3, rfl, hown3⟩
  rw [Nat.zero_add, List.nil_append] at hown3
  refine jl_own hown3 (by simp) ?_
  intro M4 a4 c4 hM4 e4 hc4 hs4
  subst e4
  refine sFa rfl ?_
  refine sSt rfl ?_
  refine wAc (jT (wAa (sFL rfl rfl ?_)))
  refine sLL rfl ?_
  refine wCe rfl rfl (wBt (cs := [_, _, _, _, _]) rfl rfl rfl (by rfl) (by rfl) (by rfl)) ?_; rintro _ _ _ ⟨b48, rfl, rfl, rfl⟩
  refine wCe rfl rfl (wDt (R := R) (news := gfC ({ v.files[i] with da := a2, dc := c2, na := a4, nc := c4 } : GF)) rfl rfl rfl rfl hI.own rfl (fun j v hv => CJ.loc (by rw [Nat.zero_add]; simpa using hv)) rfl rfl (fun u hu => List.all_eq_true.1 (rfl : ((gfC ({ v.files[i] with da := a2, dc := c2, na := a4, nc := c4 } : GF)).all fun v => v.oneCell') = true) u hu) (by omega) (by omega)) ?_; rintro out5 _ _ ⟨rfl, R5, rfl, hown5, _⟩
  obtain ⟨a5, c5, rfl⟩ := hown5.form
  refine sFa rfl ?_
  refine sSt rfl ?_
  refine wAc (jB (jT (wAa (jp rfl (ja rfl (by omega) ?_)))))
  refine jp rfl (wAc ?_)
  refine wBu (i + 1, M4, fs ++ [({ v.files[i] with da := a2, dc := c2, na := a4, nc := c4 } : GF)], a5, c5, R5) (.cons (t := 1) rfl (.cons (t := 2) rfl (.cons (t := 3) rfl (.cons (t := 4) rfl .nil)))) ⟨by show i + 1 ≤ _; omega, by show (fs ++ [_]).length = _; rw [List.length_append, hI.len]; rfl, (hI.mem.trans hM2).trans hM4, ?_, ?_, ?_⟩ (by show v.files.length - (i + 1) < v.files.length - i; omega) (fun _ h => h.subC fun f => by simp only [List.map_append, List.map_cons, List.map_nil, List.sum_append, List.sum_cons, List.sum_nil]; omega)
  ·have := hI.fls; dsimp only at this ⊢; rw [List.take_succ_eq_append_getElem hk1, fls_snoc, fls_snoc, this]
  ·show Own _ R5 _ 5 (i + 1) ((fs ++ [({ v.files[i] with da := a2, dc := c2, na := a4, nc := c4 } : GF)]).flatMap gfC); rw [List.flatMap_append, List.flatMap_cons, List.flatMap_nil, List.append_nil]; exact hown5
  intro g hg
  rcases List.mem_append.1 hg with hg | hg
  ·exact (hI.all g hg).mono (hM2.trans hM4)
  rw [List.mem_singleton.1 hg]; exact ⟨hs2.mono hM4, hc2, hs4, hc4, hgo.pm, hgo.st⟩
 refine wAc (jT (wAh rfl (wBx (jTx (jTx (jBx (jT (wAb (wAa (sLL rfl ?_))))))))))
 refine sSt rfl ?_
 refine wAc (jT (wAg (jrsd (rs := [_]) (R) (by repeat (first | exact List.Sublist.refl _ | apply List.Sublist.cons)) rfl (.cons (.agg rfl rfl rfl) .nil) ?_)))
 obtain rfl : i = v.files.length := by omega
 have h1 := hI.fls
 have h2 := hI.own
 have h3 := hI.len
 dsimp only at h1 h2 h3
 rw [List.take_length] at h1
 rw [← h3] at h2
 exact ⟨fs, fa, fc, R, by show Value.agg #[_, _, _, .slice fa v.files.length fc] = Value.agg #[_, _, _, .slice fa fs.length fc]; rw [h3], h1, h2, hI.all, rfl⟩
abbrev GO := GV × Lc
def GO.Ok (M : Mem) (p : GO) : Prop := Own (.slice p.1.fa p.1.files.length p.1.fc) p.2 93 5 p.1.files.length (p.1.files.flatMap gfC) ∧ ∀ g ∈ p.1.files, g.Ok M
theorem GO.Ok.mono {M M' : Mem} {p : GO} (h : GO.Ok M p) (hM : MLe M M') : GO.Ok M' p := ⟨h.1, fun g hg => (h.2 g hg).mono hM⟩
abbrev vsF (vs : List GO) : List GV := vs.map (·.1)
abbrev vsL (vs : List GO) : Lc := vs.flatMap (·.2)
def TwsP (f : GS) (u : Value) (M' : Mem) (L' : Lc) : Prop := ∃ (vs : List GO) (a : Option Addr) (c : Nat) (R : Lc), u = .agg [.int .i64 f.made, .slice a vs.length c].toArray ∧ wAv (vsF vs) = wAv f.vols ∧ Own (.slice a vs.length c) R 96 4 vs.length ((vsF vs).flatMap gvC) ∧ (∀ p ∈ vs, GO.Ok M' p) ∧ L' = R ++ vsL vs
structure TwsI (f : GS) (M : Mem) (z : Nat × Mem × List GO × Option Addr × Nat × Lc) : Prop where
 le : z.1 ≤ f.vols.length
 len : z.2.2.1.length = z.1
 mem : MLe M z.2.1
 fls : wAv (vsF z.2.2.1) = wAv (f.vols.take z.1)
 own : Own (.slice z.2.2.2.1 z.1 z.2.2.2.2.1) z.2.2.2.2.2 96 4 z.1 ((vsF z.2.2.1).flatMap gvC)
 all : ∀ p ∈ z.2.2.1, GO.Ok z.2.1 p
theorem vsL_snoc (vs : List GO) (p : GO) : vsL (vs ++ [p]) = vsL vs ++ p.2 := by unfold vsL; rw [List.flatMap_append, List.flatMap_cons, List.flatMap_nil, List.append_nil]
set_option maxHeartbeats 4000000 in
theorem wFd (f : GS) (M : Mem) (hf : f.Ok M) (hn : f.vols.length ≤ 1000000) (hsz : ∀ v ∈ f.vols, v.files.length ≤ 1000000 ∧ ∀ g ∈ v.files, g.x.data.length ≤ 1000000 ∧ g.ns.length ≤ 1000000) :
  SpecL Tryz.prog 54 #[gsV f] M [] (TwsP f) := by
 refine wAe (vs := [_]) 27 _ Tryz.func54 rfl Tryz.ntmps54 rfl rfl ?_; intro W
 refine wAb (wAa (sBx [_, _] rfl fun b1 => ?_))
 refine sAl rfl fun b2 => ?_
 refine wAc (jT (wAb (wAa (sFL rfl rfl ?_))))
 refine lq (wBe (cs := [_, _]) rfl rfl rfl (by rfl)) ?_
 refine sAl rfl fun b3 => ?_
 refine sSt rfl ?_
 refine wAc (jT (wAb (wAb (wAa (jp rfl (wAc (jT (wAk ?_))))))))
 refine wBr (α := Nat × Mem × List GO × Option Addr × Nat × Lc) (fun z => [(1, pt b1), (2, pt b2), (3, pt b3), (4, .int .i64 z.1)]) (fun z => z.2.1) (fun z => (b3, .cells [.int .i64 f.made, .slice z.2.2.2.1 z.1 z.2.2.2.2.1].toArray 53 (0, 0)) :: (b2, .cells [.int .i64 0, .slice none 0 0].toArray 53 (0, 0)) :: (b1, .cells (gsC f).toArray 53 (0, 0)) :: (z.2.2.2.2.2 ++ vsL z.2.2.1)) (fun z => TwsI f M z) (fun z => f.vols.length - z.1)
  (0, M, [], none, 0, []) (.cons (t := 1) rfl (.cons (t := 2) rfl (.cons (t := 3) rfl (.cons (t := 4) rfl .nil)))) ⟨Nat.zero_le _, rfl, MLe.refl _, rfl, Own.nil _ _, fun _ h => by cases h⟩ (fun _ h => h) ?_
 rintro ⟨i, Mk, vs, fa, fc, R⟩ hI
 have hi := hI.le
 dsimp only at hi ⊢
 refine wAb (wAb (wAa (jp rfl (sFL rfl rfl ?_))))
 refine lq (wCd rfl rfl rfl) ?_
 refine js rfl (fun h12 => ?_) (fun h12 => ?_)
 ·refine wAc (jT (wAf rfl (wAd (jT (wAb (wAk (wBn (p := { A := fun i => !([11].contains i), U := fun i => !([11].contains i) }) [(0, true), (1, true), (2, true), (3, true), (4, true), (5, true), (6, true), (7, false), (8, false), (9, false), (10, true), (11, false)] Mk ([(b3, .cells [.int .i64 f.made, .slice fa i fc].toArray 53 (0, 0)), (b2, .cells [.int .i64 0, .slice none 0 0].toArray 53 (0, 0)), (b1, .cells (gsC f).toArray 53 (0, 0))]) ([]) (by kernel_rfl) (by kernel_rfl) (by kernel_rfl) (by kernel_rfl) rfl (by simp) (MLe.refl _) (by simp) ?_)))))))
  refine dFa rfl rfl ?_
  refine dLd rfl rfl ?_
  refine dFa rfl rfl ?_
  refine dLd rfl rfl ?_
  refine dp rfl rfl ?_
  have hk1 : i < f.vols.length := by omega
  obtain ⟨fb, fo, ef, hfx⟩ := wDh wBy hf.va hk1 (by omega)
  have hgo := hf.all _ (List.getElem_mem hk1)
  obtain ⟨hz1, hz2⟩ := hsz _ (List.getElem_mem hk1)
  refine dq rfl (wAp rfl rfl rfl rfl ef (by omega)) ?_
  refine dq rfl (wFt (cs := gvC f.vols[i]) rfl rfl rfl rfl rfl (fun j u hu => ((hfx j u hu).mono hI.mem).cj _)) ?_
  refine wJf rfl rfl rfl (hCl (rtwin_spec f.vols[i] Mk (hgo.mono hI.mem) hz1 hz2)) ?_; rintro _ M2 _ ⟨hM2, R2, rfl, ⟨fs2, a2, c2, _, rfl, hfl2, hown2, hall2, rfl⟩⟩
  refine ⟨_, _, MLe.refl _, hM2, fun _ h => h, by simp, ?_⟩
  refine wJf rfl rfl rfl (wBt (cs := [_, _, _, _]) rfl rfl rfl (by rfl) (by rfl) (by rfl)) ?_; rintro _ _ _ ⟨b23, rfl, rfl, rfl⟩
  refine wHf (MLe.refl _) (fun _ h => List.mem_cons_of_mem _ h) (by first | exact MLe.refl _ | assumption) (by simp) ?_
  refine wJf rfl rfl rfl (wDt (R := R) (news := gvC ({ f.vols[i] with files := fs2, fa := a2, fc := c2 } : GV)) rfl rfl rfl rfl hI.own rfl (fun j v hv => CJ.loc (by rw [Nat.zero_add]; simpa using hv)) rfl rfl (fun u hu => List.all_eq_true.1 (rfl : ((gvC ({ f.vols[i] with files := fs2, fa := a2, fc := c2 } : GV)).all fun v => v.oneCell') = true) u hu) (by omega) (by omega)) ?_; rintro out5 _ _ ⟨rfl, R5, rfl, hown5, _⟩
  obtain ⟨a5, c5, rfl⟩ := hown5.form
  refine ⟨_, _, MLe.refl _, hM2, fun _ h => h, by simp, ?_⟩
  refine dFa rfl rfl ?_
  refine wJu rfl rfl (wBw rfl rfl rfl rfl rfl rfl rfl rfl) ?_; rintro _ _ _ ⟨rfl, rfl⟩
  refine ⟨hM2, by simp, ?_⟩
  refine wCu ?_
  refine jPn (jB (jT (wAa (jp rfl (ja rfl (by omega) ?_)))))
  refine jp rfl (wAc ?_)
  refine wBu (i + 1, M2, vs ++ [(({ f.vols[i] with files := fs2, fa := a2, fc := c2 } : GV), R2)], a5, c5, R5) (.cons (t := 1) rfl (.cons (t := 2) rfl (.cons (t := 3) rfl (.cons (t := 4) rfl .nil)))) ⟨by show i + 1 ≤ _; omega, by show (vs ++ [_]).length = _; rw [List.length_append, hI.len]; rfl, hI.mem.trans hM2, ?_, ?_, ?_⟩ (by show f.vols.length - (i + 1) < f.vols.length - i; omega) (fun _ h => h.subC fun f => by simp only [vsL_snoc, List.map_append, List.map_cons, List.map_nil, List.sum_append, List.sum_cons, List.sum_nil]; omega)
  ·have := hI.fls; dsimp only at this ⊢; rw [List.take_succ_eq_append_getElem hk1, vsF, List.map_append, List.map_cons, List.map_nil, vls_snoc, vls_snoc, this]; simp only [GV.abs, hfl2]
  ·show Own _ R5 _ 4 (i + 1) ((vsF (vs ++ [(({ f.vols[i] with files := fs2, fa := a2, fc := c2 } : GV), R2)])).flatMap gvC); rw [vsF, List.map_append, List.flatMap_append]; simpa using hown5
  intro g hg
  rcases List.mem_append.1 hg with hg | hg
  ·exact (hI.all g hg).mono hM2
  rw [List.mem_singleton.1 hg]; exact ⟨hown2, hall2⟩
 refine wAc (jT (wAh rfl (wBx (jTx (jTx (jBx (jT (wAb (wAa (sLL rfl ?_))))))))))
 refine sSt rfl ?_
 refine wAc (jT (wAg (jrsd (rs := [_]) (R ++ vsL vs) (by repeat (first | exact List.Sublist.refl _ | apply List.Sublist.cons)) rfl (.cons (.agg rfl rfl rfl) .nil) ?_)))
 obtain rfl : i = f.vols.length := by omega
 have h1 := hI.fls
 have h2 := hI.own
 have h3 := hI.len
 dsimp only at h1 h2 h3
 rw [List.take_length] at h1
 rw [← h3] at h2
 exact ⟨vs, fa, fc, R, by show Value.agg #[_, .slice fa f.vols.length fc] = Value.agg #[_, .slice fa vs.length fc]; rw [h3], h1, h2, hI.all, rfl⟩
theorem set_flat {α : Type} {f : α → List Value} {m : Nat} (hf : ∀ x, (f x).length = m) : ∀ {qs : List α} {sp : List Value} {i j : Nat} {q' : α} {u : Value} (hi : i < qs.length), j < m → f q' = (f qs[i]).set j u → (qs.flatMap f ++ sp).set (i * m + j) u = (qs.set i q').flatMap f ++ sp
 | q :: qs, sp, 0, j, q', u, hi, hj, hq => by
  rw [List.flatMap_cons, List.append_assoc, Nat.zero_mul, Nat.zero_add, List.set_append_left _ _ (by rw [hf]; exact hj), List.set_cons_zero, List.flatMap_cons, hq, List.append_assoc]; rfl
 | q :: qs, sp, i + 1, j, q', u, hi, hj, hq => by
  have := set_flat hf (qs := qs) (sp := sp) (i := i) (j := j) (q' := q') (u := u) (by simpa using hi) hj hq
  rw [List.flatMap_cons, List.append_assoc, List.set_append_right _ _ (by rw [hf, Nat.add_mul]; omega), hf, show (i + 1) * m + j - m = i * m + j by rw [Nat.add_mul]; omega, this, List.set_cons_succ, List.flatMap_cons, List.append_assoc]
theorem row_set {α : Type} {f : α → List Value} {m : Nat} (hf : ∀ x, (f x).length = m) {qs : List α} {sp : List Value} {i j : Nat} (hi : i < qs.length) (hj : j < m) {q' : α} {u : Value} (hq : f q' = (f qs[i]).set j u) :
  (qs.flatMap f ++ sp).take (0 + ((i : Int)).toNat * m + j) ++ [u] ++ (qs.flatMap f ++ sp).drop (0 + ((i : Int)).toNat * m + j + 1) = (qs.set i q').flatMap f ++ sp := by
 rw [← set_flat hf hi hj hq, Int.toNat_natCast, Nat.zero_add, List.set_eq_take_append_cons_drop, if_pos]
 ·simp
 have h1 := wDr f m hf qs
 rw [List.length_append, h1]
 have h2 : (i + 1) * m ≤ qs.length * m := Nat.mul_le_mul_right _ hi
 rw [Nat.add_mul] at h2
 omega
theorem row_fit {α : Type} {f : α → List Value} {m : Nat} (hf : ∀ x, (f x).length = m) {qs : List α} {sp : List Value} {i j k : Nat} (hi : i < qs.length) (hj : j + k ≤ m) : Nat.ble (0 + ((i : Int)).toNat * m + j + k) (qs.flatMap f ++ sp).length = true := by
 refine Nat.ble_eq_true_of_le ?_
 have h1 := wDr f m hf qs
 rw [List.length_append, h1, Int.toNat_natCast]
 have h2 : (i + 1) * m ≤ qs.length * m := Nat.mul_le_mul_right _ hi
 rw [Nat.add_mul] at h2
 omega
theorem row_cj {α : Type} {f : α → List Value} {m : Nat} (hf : ∀ x, (f x).length = m) {M : Mem} {L : Lc} {b : Nat} {e : TypeId} {qs : List α} {sp : List Value} {i : Nat} (hm : (b, Obj.cells (qs.flatMap f ++ sp).toArray e (0, 0)) ∈ L) (hi : i < qs.length) : ∀ j v, (f qs[i])[j]? = some v → CJ M L b (0 + ((i : Int)).toNat * m + j) v := fun j v hv => by
 have hj : j < m := by rw [← hf qs[i]]; exact (List.getElem?_eq_some_iff.1 hv).1
 have h1 := wDr f m hf qs
 have h2 : (i + 1) * m ≤ qs.length * m := Nat.mul_le_mul_right _ hi
 rw [Nat.add_mul] at h2
 refine ⟨_, _, _, .inr hm, ?_⟩
 rw [Int.toNat_natCast, Nat.zero_add, List.getElem?_toArray, List.getElem?_append_left (by rw [h1]; omega), flat_at f m hf qs i hi j hj]
 exact hv
theorem own_of {b n c size : Nat} {e : TypeId} {xs sp : List Value} (h1 : xs.length = n * size) (h2 : n ≤ c) (h3 : c ≤ maxLen) (h4 : (xs ++ sp).length = c * size) : Own (.slice (some ⟨b, 0, none⟩) n c) [(b, .cells (xs ++ sp).toArray e (0, 0))] e size n xs :=
 ⟨h1, .inr ⟨b, c, (xs ++ sp).toArray, rfl, rfl, h2, h3, by simpa using h4, by rw [← h1]; exact List.take_left⟩⟩
theorem sm_of {M : Mem} {b : Nat} {e : TypeId} {xs sp : List Value} (h : M b = some (.cells (xs ++ sp).toArray e (0, 0))) : SM M (some ⟨b, 0, none⟩) xs := .inr ⟨b, 0, rfl, fun i u hu => ⟨_, _, _, h, by
 have hi := (List.getElem?_eq_some_iff.1 hu).1
 rw [Nat.zero_add, List.getElem?_toArray, List.getElem?_append_left hi]; exact hu⟩⟩
theorem Own.opn {v : Value} {R : Lc} {e : TypeId} {size n : Nat} {xs : List Value} (ho : Own v R e size n xs) (hn : 0 < n) : ∃ g cap sp, v = .slice (some ⟨g, 0, none⟩) n cap ∧ R = [(g, .cells (xs ++ sp).toArray e (0, 0))] ∧ n ≤ cap ∧ cap ≤ maxLen ∧ (xs ++ sp).length = cap * size := by
 obtain ⟨g, cap, cur, rfl, rfl, h1, h2, h3, h4⟩ := ho.open hn
 have e : xs ++ cur.toList.drop (n * size) = cur.toList := by rw [← h4, List.take_append_drop]
 refine ⟨g, cap, cur.toList.drop (n * size), rfl, ?_, h1, h2, by rw [e]; simpa using h3⟩
 rw [e]
section
variable {P : Program} {ops : Array Oper} {N : Fs} {F : Fr} {W : World} {M0 M : Mem} {L : Lc} {Q : Exit → Act → World → Prop} {rest : List Oper}
theorem St.frzAll : ∀ (vs : List GO) {M : Mem} {L : Lc} {w : World}, (∀ p ∈ vs, GO.Ok M p) → St ⟨W, [], M0⟩ M (vsL vs ++ L) w → ∃ M', MLe M M' ∧ (∀ p ∈ vs, p.1.Ok M') ∧ St ⟨W, [], M0⟩ M' L w
 | [], M, L, w, _, h => ⟨M, MLe.refl _, fun _ h => (by cases h), h⟩
 | p :: vs, M, L, w, ha, h => by
  have hp := ha p (by simp)
  have h' : St ⟨W, [], M0⟩ M (p.2 ++ (vsL vs ++ L)) w := by
   have : vsL (p :: vs) ++ L = p.2 ++ (vsL vs ++ L) := by unfold vsL; rw [List.flatMap_cons, List.append_assoc]
   rw [← this]; exact h
  obtain ⟨M1, a, cap, k1, k2, k3, k4, k5⟩ := hp.1.freeze (fun _ _ h => by cases h) h'
  simp only [Value.slice.injEq] at k2
  obtain ⟨k2, _, k6⟩ := k2
  obtain ⟨M2, m1, m2, m3⟩ := St.frzAll vs (fun q hq => (ha q (by simp [hq])).mono k1) k5
  refine ⟨M2, k1.trans m1, fun q hq => ?_, m3⟩
  rcases List.mem_cons.1 hq with rfl | hq
  ·exact ⟨by rw [k2]; exact k4.mono m1, by rw [k6]; exact k3, fun g hg => (hp.2 g hg).mono (k1.trans m1)⟩
  exact m2 q hq
theorem vsL_take (vs : List GO) {i : Nat} (hi : i < vs.length) : (vsL vs).Perm (vsL (vs.take i ++ vs.drop (i + 1)) ++ vs[i].2) := by
 have e : vs = vs.take i ++ vs[i] :: vs.drop (i + 1) := by rw [List.getElem_cons_drop, List.take_append_drop]
 conv => lhs; rw [e]
 unfold vsL
 rw [List.flatMap_append, List.flatMap_cons, List.flatMap_append, List.append_assoc]
 exact List.Perm.append_left _ List.perm_append_comm
structure Foc (vs : List GO) (i : Nat) (hi : i < vs.length) (a : Option Addr) (c : Nat) (M M' : Mem) (vb fb : Nat) (sp fsp : List Value) : Prop where
 mem : MLe M M'
 oth : ∀ j (hj : j < vs.length), j ≠ i → (vs[j]).1.Ok M'
 fs : ∀ g ∈ (vs[i]).1.files, g.Ok M'
 va : a = some ⟨vb, 0, none⟩
 vc : vs.length ≤ c
 vl : ((vsF vs).flatMap gvC ++ sp).length = c * 4
 vm : c ≤ maxLen
 fa : (vs[i]).1.fa = some ⟨fb, 0, none⟩
 fc : (vs[i]).1.files.length ≤ (vs[i]).1.fc
 fl : ((vs[i]).1.files.flatMap gfC ++ fsp).length = (vs[i]).1.fc * 5
 fm : (vs[i]).1.fc ≤ maxLen
theorem St.focus {vs : List GO} {a : Option Addr} {c : Nat} {R : Lc} {i : Nat} (hi : i < vs.length) (ho : Own (.slice a vs.length c) R 96 4 vs.length ((vsF vs).flatMap gvC)) (hall : ∀ p ∈ vs, GO.Ok M p) (hfl : 0 < (vs[i]).1.files.length) {w : World} (h : St ⟨W, [], M0⟩ M ((R ++ vsL vs) ++ L) w) :
  ∃ M' vb fb sp fsp, Foc vs i hi a c M M' vb fb sp fsp ∧ St ⟨W, [], M0⟩ M' ((vb, .cells ((vsF vs).flatMap gvC ++ sp).toArray 96 (0, 0)) :: (fb, .cells ((vs[i]).1.files.flatMap gfC ++ fsp).toArray 93 (0, 0)) :: L) w := by
 have hp : ((R ++ vsL vs) ++ L).Perm (vsL (vs.take i ++ vs.drop (i + 1)) ++ (R ++ (vs[i].2 ++ L))) := by
  have h1 := vsL_take vs hi
  refine wJq fun f => ?_
  have h2 := (h1.map f).sum_nat
  simp only [List.map_append, List.sum_append] at h2 ⊢
  omega
 obtain ⟨M1, m1, m2, m3⟩ := St.frzAll (vs.take i ++ vs.drop (i + 1)) (fun p hp => hall p (by
  rcases List.mem_append.1 hp with h | h
  ·exact List.mem_of_mem_take h
  exact List.mem_of_mem_drop h)) (h.perm hp)
 have hv := hall _ (List.getElem_mem hi)
 obtain ⟨vb, c2, sp, e1, rfl, k1, k2, k3⟩ := ho.opn (by omega)
 obtain ⟨fb, c3, fsp, e2, e3, n1, n2, n3⟩ := hv.1.opn hfl
 simp only [Value.slice.injEq] at e1 e2
 obtain ⟨rfl, _, rfl⟩ := e1
 obtain ⟨e2, _, rfl⟩ := e2
 refine ⟨M1, vb, fb, sp, fsp, ⟨m1, fun j hj hne => ?_, fun g hg => (hv.2 g hg).mono m1, rfl, k1, k3, k2, e2, n1, n3, n2⟩, by rw [e3] at m3; exact m3⟩
 refine m2 _ (List.mem_append.2 ?_)
 rcases Nat.lt_or_gt_of_ne hne with h | h
 ·exact .inl (List.mem_iff_getElem.2 ⟨j, by rw [List.length_take]; omega, by rw [List.getElem_take]⟩)
 refine .inr (List.mem_iff_getElem.2 ⟨j - (i + 1), by rw [List.length_drop]; omega, ?_⟩)
 rw [List.getElem_drop]
 congr 1; omega
theorem wGg {vs : List GO} {a : Option Addr} {c : Nat} {R : Lc} {i : Nat} (hi : i < vs.length) (ho : Own (.slice a vs.length c) R 96 4 vs.length ((vsF vs).flatMap gvC)) (hall : ∀ p ∈ vs, GO.Ok M p) (hfl : 0 < (vs[i]).1.files.length)
  (k : ∀ M' vb fb sp fsp, Foc vs i hi a c M M' vb fb sp fsp → JL P ops N Q rest F ⟨W, [], M0⟩ M' ((vb, .cells ((vsF vs).flatMap gvC ++ sp).toArray 96 (0, 0)) :: (fb, .cells ((vs[i]).1.files.flatMap gfC ++ fsp).toArray 93 (0, 0)) :: L)) :
  JL P ops N Q rest F ⟨W, [], M0⟩ M ((R ++ vsL vs) ++ L) := fun ac w ha hw => by
 obtain ⟨M', vb, fb, sp, fsp, hF, hS⟩ := St.focus hi ho hall hfl hw
 exact k M' vb fb sp fsp hF ac w ha hS
theorem wHo {vs : List GO} {R : Lc} (hall : ∀ p ∈ vs, GO.Ok M p) (k : ∀ M', MLe M M' → (∀ p ∈ vs, p.1.Ok M') → JL P ops N Q rest F ⟨W, [], M0⟩ M' (R ++ L)) :
  JL P ops N Q rest F ⟨W, [], M0⟩ M ((R ++ vsL vs) ++ L) := fun ac w ha hw => by
 have hp : ((R ++ vsL vs) ++ L).Perm (vsL vs ++ (R ++ L)) := wJq fun f => by simp only [List.map_append, List.sum_append]; omega
 obtain ⟨M', m1, m2, m3⟩ := St.frzAll vs hall (hw.perm hp)
 exact k M' m1 m2 ac w ha m3
end
def RDoP (r : PS × RP) (u : Value) (M' : Mem) (L' : Lc) : Prop := ∃ (g : GS) (dv nv : Value), u = .tuple #[gsV g, .agg (rpc r.2 dv nv).toArray] ∧ g.Ok M' ∧ g.abs = r.1 ∧ BsP M' dv r.2.data ∧ NsP M' nv r.2.names ∧ L' = []
theorem BsP.nil {M : Mem} : BsP M (.slice none 0 0) [] := ⟨none, 0, rfl, Nat.le_refl _, Nat.zero_le _, .inl rfl⟩
theorem NsP.nil {M : Mem} : NsP M (.slice none 0 0) [] := ⟨none, 0, rfl, Nat.le_refl _, Nat.zero_le _, .inl rfl⟩
theorem RDoP.plain {r : PS × RP} {M : Mem} {g : GS} (hg : g.Ok M) (h1 : g.abs = r.1) (h2 : r.2.data = []) (h3 : r.2.names = []) : RDoP r (.tuple #[gsV g, rp0 r.2]) M [] := ⟨g, _, _, rfl, hg, h1, by rw [h2]; exact BsP.nil, by rw [h3]; exact NsP.nil, rfl⟩
theorem RDoP.err {f : GS} {e : Int} {M : Mem} {r : PS × RP} (hf : f.Ok M) (h : r = (f.abs, wCa e)) : RDoP r (.tuple #[gsV f, rp0 (wCa e)]) M [] := by
 subst h; exact RDoP.plain hf rfl rfl rfl
theorem wCy {f : GS} {n : Nat} (hwf : WFS n f.abs) {M : Mem} (hf : f.Ok M) (hn : n ≤ 100) : f.vols.length ≤ 1000000 ∧ ∀ v ∈ f.vols, v.files.length ≤ 1000000 ∧ ∀ g ∈ v.files, g.x.data.length ≤ 1000000 ∧ g.ns.length ≤ 1000000 := by
 refine ⟨by have := wBh hwf; omega, fun v hv => ?_⟩
 have hwv : WFV n v.abs := hwf.vol v.id v.abs (wFf hwf.nd (List.mem_map.2 ⟨v, hv, rfl⟩))
 refine ⟨by have := wEc hwv; omega, fun g hg => ?_⟩
 have := hwv.wf.len g.id g.x (wFf hwv.wf.nd (List.mem_map.2 ⟨g, hg, rfl⟩))
 have h2 := wCk ((hf.all v hv).all g hg)
 omega
theorem vols_set {f : GS} {n : Nat} (hwf : WFS n f.abs) {vs : List GO} (hvs : wAv (vsF vs) = wAv f.vols) {i : Nat} (hi : i < vs.length) {v' : GV} {vol : Int} (hid : (vs[i]).1.id = vol) (hv' : v'.id = vol) : wAv ((vsF vs).set i v') = wBq vol v'.abs f.abs.vols := by
 have hi2 : i < f.abs.vols.length := by
  have := congrArg List.length hvs
  simp only [List.length_map] at this
  simp only [GS.abs, List.length_map]; omega
 have he : f.abs.vols[i].1 = vol := by
  have : f.abs.vols = wAv (vsF vs) := hvs.symm
  simp only [this]; simpa using hid
 rw [putA_at hwf.nd hi2 he]
 show List.map _ (List.set _ _ _) = List.set (wAv f.vols) _ _
 rw [List.map_set, hv', ← hvs]
theorem GS.Ok.of_set {vs : List GO} {i : Nat} {hi : i < vs.length} {M' : Mem} (hoth : ∀ j (hj : j < vs.length), j ≠ i → (vs[j]).1.Ok M') {v' : GV} (hv : v'.Ok M') {g : GS} (hg : g.vols = (vsF vs).set i v') (ha : SM M' g.va (((vsF vs).set i v').flatMap gvC)) (hc : vs.length ≤ g.vc) : g.Ok M' := by
 refine ⟨by rw [hg]; exact ha, by rw [hg, List.length_set, List.length_map]; exact hc, fun v hv2 => ?_⟩
 rw [hg] at hv2
 obtain ⟨j, hj, e⟩ := List.mem_iff_getElem.1 hv2
 rw [List.getElem_set] at e
 rw [List.length_set, List.length_map] at hj
 split at e
 ·rw [← e]; exact hv
 rename_i hne
 rw [← e, List.getElem_map]; exact hoth j hj (Ne.symm hne)
end Go.Proofs.YtokljhkplbkggaaGreatDoor
