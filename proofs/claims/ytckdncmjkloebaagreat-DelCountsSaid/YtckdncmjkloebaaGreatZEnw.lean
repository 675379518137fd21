/- Arrays of numbers; what the statements count. No statement of the seat is proved here. -/
import Derived.Test.YtckdncmjkloebaaGreatZHg
import Derived.Test.YtckdncmjkloebaaGreatZNodes
import Derived.Test.YtckdncmjkloebaaGreatZAlivep
namespace Go.Proofs.YtckdncmjkloebaaGreat
set_option linter.unusedSimpArgs false
set_option linter.unusedVariables false
open Go.RowKit
theorem set_eq {bs : List Bool} {i : Nat} {v : Bool} (h : i < bs.length) : (bs.map Value.bool).take i ++ [Value.bool v] ++ (bs.map Value.bool).drop (i + 1) = (bs.set i v).map Value.bool := by
 rw [List.map_set, List.set_eq_take_append_cons_drop, if_pos (by simpa using h)]; simp
section
variable {P : Program} {ops : Array Oper} {N : Fs} {F : Fr} {E : Ent} {M : Mem} {L : Lc} {o : Oper}
theorem hSetB {t e : TypeId} {x y : Operand} {b i by_ : Nat} {bs : List Bool} {v : Bool} {L' : Lc} {z : List Value} (hg : gd ops F o = some true) (ho : o.op = .store t x y) (hx : ev F x = some (.pointer (some ⟨b, i, none⟩))) (hy : ev F y = some (.bool v))
  [hl : Lay P t 1 by_ z] [at_ : At b (.cells (bs.map Value.bool).toArray e (0, 0)) L] (hfit : i < bs.length)
  [hp : PutAt b (.cells (bs.map Value.bool).toArray e (0, 0)) (.cells ((bs.set i v).map Value.bool).toArray e (0, 0)) L L'] :
  HF P ops N F E M L o (fun _ M' L'' => M = M' ∧ L'' = L') := by
 have hp' : PutAt b (.cells (bs.map Value.bool).toArray e (0, 0)) (.cells ((bs.map Value.bool).take i ++ [Value.bool v] ++ (bs.map Value.bool).drop (i + [Value.bool v].length)).toArray e (0, 0)) L L' := by
  rw [show i + [Value.bool v].length = i + 1 from rfl, set_eq hfit]; exact hp
 exact hStore (hp := hp') hg ho hx hy rfl rfl (fun u hu => by rw [List.mem_singleton.1 hu]; rfl) (by simp; omega)
end
theorem bcj {M : Mem} {L : Lc} {b i : Nat} {bs : List Bool} {e : TypeId} {v : Bool} [h : At b (.cells (bs.map Value.bool).toArray e (0, 0)) L] (hv : bs[i]? = some v) : CJ M L b i (.bool v) :=
 CJ.loc (l := bs.map Value.bool) (by simp [hv])
theorem repl_map : (List.replicate 256 (Value.bool false)) = (List.replicate 256 false).map Value.bool := by rw [List.map_replicate]
def icl (f : Nat → Nat) : List Value := (List.range 256).map fun k => Value.int .i64 (f k)
def bump (f : Nat → Nat) (i : Nat) : Nat → Nat := fun k => if k = i then f k + 1 else f k
theorem icl_get (f : Nat → Nat) {k : Nat} (h : k < 256) : (icl f)[k]? = some (.int .i64 (f k)) := by unfold icl; simp [h]
theorem icl_len (f : Nat → Nat) : (icl f).length = 256 := by unfold icl; simp
theorem icl_set (f : Nat → Nat) {i : Nat} (h : i < 256) : (icl f).take i ++ [Value.int .i64 ((f i : Int) + 1)] ++ (icl f).drop (i + 1) = icl (bump f i) := by
 have e : (icl f).take i ++ [Value.int .i64 ((f i : Int) + 1)] ++ (icl f).drop (i + 1) = (icl f).set i (.int .i64 ((f i : Int) + 1)) := by
  rw [List.set_eq_take_append_cons_drop, if_pos (by rw [icl_len]; exact h)]; simp
 rw [e]
 refine List.ext_getElem? fun k => ?_
 rw [List.getElem?_set]
 by_cases hk : k < 256
 ·rw [icl_get _ hk]
  by_cases e2 : i = k
  ·subst e2; rw [if_pos rfl, if_pos (by rw [icl_len]; exact h)]; have e3 : bump f i i = f i + 1 := by unfold bump; exact if_pos rfl
   rw [icl_get _ hk, e3]; rfl
  ·have e3 : bump f i k = f k := by unfold bump; exact if_neg (Ne.symm e2)
   rw [if_neg e2, icl_get _ hk, e3]
 ·rw [if_neg (by omega), List.getElem?_eq_none (by rw [icl_len]; omega), List.getElem?_eq_none (by rw [icl_len]; omega)]
theorem icl_zero : List.replicate 256 (Value.int .i64 0) = icl (fun _ => 0) := by
 unfold icl
 rw [List.map_const', List.length_range]; rfl
section
variable {P : Program} {ops : Array Oper} {N : Fs} {F : Fr} {E : Ent} {M : Mem} {L : Lc} {o : Oper}
theorem hBump {t e : TypeId} {x y : Operand} {b i by_ : Nat} {f : Nat → Nat} {L' : Lc} {z : List Value} (hg : gd ops F o = some true) (ho : o.op = .store t x y) (hx : ev F x = some (.pointer (some ⟨b, i, none⟩))) (hy : ev F y = some (.int .i64 ((f i : Int) + 1)))
  [hl : Lay P t 1 by_ z] [at_ : At b (.cells (icl f).toArray e (0, 0)) L] (hfit : i < 256)
  [hp : PutAt b (.cells (icl f).toArray e (0, 0)) (.cells (icl (bump f i)).toArray e (0, 0)) L L'] :
  HF P ops N F E M L o (fun _ M' L'' => M = M' ∧ L'' = L') := by
 have hp' : PutAt b (.cells (icl f).toArray e (0, 0)) (.cells ((icl f).take i ++ [Value.int .i64 ((f i : Int) + 1)] ++ (icl f).drop (i + [Value.int .i64 ((f i : Int) + 1)].length)).toArray e (0, 0)) L L' := by
  rw [show i + [Value.int .i64 ((f i : Int) + 1)].length = i + 1 from rfl, icl_set _ hfit]; exact hp
 exact hStore (hp := hp') hg ho hx hy rfl rfl (fun u hu => by rw [List.mem_singleton.1 hu]; rfl) (by rw [icl_len]; show i + 1 ≤ 256; omega)
end
theorem icj {M : Mem} {L : Lc} {b i : Nat} {f : Nat → Nat} {e : TypeId} [h : At b (.cells (icl f).toArray e (0, 0)) L] (hi : i < 256) : CJ M L b i (.int .i64 (f i)) :=
 CJ.loc (l := icl f) (icl_get f hi)
def bst (S : List Nat) : List Bool := (List.range 256).map fun k => decide (k ∈ S)
theorem bst_get (S : List Nat) {k : Nat} (h : k < 256) : (bst S)[k]? = some (decide (k ∈ S)) := by unfold bst; simp [h]
theorem bst_len (S : List Nat) : (bst S).length = 256 := by unfold bst; simp
theorem bst_set {S S' : List Nat} {n : Nat} (hn : n < 256) (h : ∀ k, k ∈ S' ↔ k ∈ S ∨ k = n) : (bst S).set n true = bst S' := by
 refine List.ext_getElem? fun k => ?_
 rw [List.getElem?_set]
 by_cases hk : k < 256
 ·rw [bst_get _ hk]
  by_cases e : n = k
  ·subst e; rw [if_pos rfl, if_pos (by rw [bst_len]; exact hn), bst_get _ hn]; exact congrArg some (decide_eq_true ((h n).2 (.inr rfl))).symm
  ·rw [if_neg e, bst_get _ hk]; exact congrArg some (decide_eq_decide.2 ⟨fun a => (h k).2 (.inl a), fun a => ((h k).1 a).resolve_right fun e2 => e e2.symm⟩)
 ·rw [if_neg (by omega), List.getElem?_eq_none (by rw [bst_len]; omega), List.getElem?_eq_none (by rw [bst_len]; omega)]
theorem bst_none : List.replicate 256 false = bst [] := by
 have : bst [] = (List.range 256).map fun _ => false := List.map_congr_left fun k _ => decide_eq_false (List.not_mem_nil)
 rw [this, List.map_const', List.length_range]
def EnP (s : Sto) (roots held : List Int) : Prop := ∃ S : List Nat, S.Nodup ∧ (∀ n, n ∈ S ↔ ∃ r ∈ roots, Rch s r.toNat n) ∧ ∀ k : Int, 0 < k → k < 256 → wS s S k + (roots ++ held).count k ≤ (s.now.getD k.toNat 0).toNat
theorem sum_perm {α : Type} (f : α → Nat) {A B : List α} (h : A.Perm B) : (A.map f).sum = (B.map f).sum := (h.map f).sum_nat
theorem EnP.any {s : Sto} {roots held : List Int} {S : List Nat} (h : EnP s roots held) (hn : S.Nodup) (hS : ∀ n, n ∈ S ↔ ∃ r ∈ roots, Rch s r.toNat n) : ∀ k : Int, 0 < k → k < 256 → wS s S k + (roots ++ held).count k ≤ (s.now.getD k.toNat 0).toNat := fun k h0 h1 => by
 obtain ⟨S2, h2, h3, h4⟩ := h
 have hp : S.Perm S2 := (List.perm_ext_iff_of_nodup hn h2).2 fun n => (hS n).trans (h3 n).symm
 have : wS s S k = wS s S2 k := sum_perm _ hp
 rw [this]; exact h4 k h0 h1
theorem EnP.en {s : Sto} {roots held : List Int} (h : EnP s roots held) (hst : wCx s) (hr : ∀ r ∈ roots, (wCj s r).2 = 0) : ∃ S, En s S (roots ++ held) ∧ ∀ r ∈ roots, r.toNat ∈ S := by
 obtain ⟨S, h1, h2, h3⟩ := h
 refine ⟨S, ⟨hst, fun k h0 h256 => by have := h3 k h0 h256; omega, fun n hn lv ys hnd hlv x hx => ?_⟩, fun r hr => (h2 _).2 ⟨r, hr, .root⟩⟩
 obtain ⟨r, hrr, hrch⟩ := (h2 n).1 hn
 obtain ⟨_, h8, h256, _, lev, xs, hnd0, ht, _⟩ := wCb (hr r hrr)
 obtain ⟨_, l, zs, e1, e2⟩ := Rch.tree (by omega) hnd0 ht hrch
 rw [hnd] at e1
 obtain ⟨rfl, rfl⟩ : lv = (l : Int) ∧ ys = zs := by simpa using e1
 obtain ⟨l', rfl⟩ : ∃ l', l = l' + 1 := ⟨l - 1, by omega⟩
 obtain ⟨us, c1, _⟩ := wCu e2 hx
 exact ⟨(h2 _).2 ⟨r, hrr, .kid hrch hnd hlv hx⟩, us, by rw [c1]; congr 2; omega⟩
theorem En.rch {s : Sto} {S : List Nat} {R : List Int} (h : En s S R) {k0 : Nat} (hk : k0 ∈ S) : ∀ {n : Nat}, Rch s k0 n → n ∈ S := by
 intro n hn
 induction hn with
 | root => exact hk
 | kid h1 hnd hl hx ih => exact (h.closed _ ih _ _ hnd hl _ hx).1
theorem sum_nodup {f : Nat → Nat} : ∀ {A B : List Nat}, A.Nodup → (∀ x ∈ A, x ∈ B) → (A.map f).sum ≤ (B.map f).sum
 | [], _, _, _ => Nat.zero_le _
 | x :: A, B, hn, h => by
  have h2 := List.nodup_cons.1 hn
  have hp := List.perm_cons_erase (h x (by simp))
  rw [sum_perm f hp]
  simp only [List.map_cons, List.sum_cons]
  have := sum_nodup (f := f) (B := B.erase x) h2.2 fun y hy => by
   have hne : y ≠ x := fun e => h2.1 (by rw [← e]; exact hy)
   exact (List.mem_erase_of_ne hne).2 (h y (by simp [hy]))
  omega
theorem En.enp {s : Sto} {S : List Nat} {roots : List Int} (h : En s S roots) (hr : ∀ r ∈ roots, r.toNat ∈ S ∧ (wCj s r).2 = 0) : EnP s roots [] := by
 classical
 refine ⟨(List.range 256).filter fun n => decide (∃ r ∈ roots, Rch s r.toNat n), List.Pairwise.filter _ List.nodup_range, fun n => ?_, fun k h0 h256 => ?_⟩
 ·rw [List.mem_filter, decide_eq_true_eq, List.mem_range]
  refine ⟨fun h => h.2, fun hn => ⟨?_, hn⟩⟩
  obtain ⟨r, hrr, hrch⟩ := hn
  obtain ⟨_, h8, h256, _, lev, xs, hnd0, ht, _⟩ := wCb (hr r hrr).2
  exact (Rch.tree (by omega) hnd0 ht hrch).1.2
 ·rw [List.append_nil]
  have h1 := h.enough k h0 h256
  have h2 : wS s ((List.range 256).filter fun n => decide (∃ r ∈ roots, Rch s r.toNat n)) k ≤ wS s S k := sum_nodup (List.Pairwise.filter _ List.nodup_range) fun n hn => by
   have := (List.mem_filter.1 hn).2
   obtain ⟨r, hrr, hrch⟩ := of_decide_eq_true this
   exact h.rch (hr r hrr).1 hrch
  omega
theorem refs_len (s : Sto) (n : Nat) : (wEb s n).length ≤ 5 := by
 unfold wEb
 split
 ·rename_i h; rw [List.length_map]; exact (wBm h).len
 ·exact Nat.zero_le _
theorem wS_le5 (s : Sto) (k : Int) : ∀ (S : List Nat), wS s S k ≤ 5 * S.length
 | [] => Nat.zero_le _
 | n :: S => by
  have h1 := wS_le5 s k S
  have h2 := refs_len s n
  have h3 : (wEb s n).count k ≤ (wEb s n).length := List.count_le_length
  show ((n :: S).map fun n => (wEb s n).count k).sum ≤ _
  rw [List.map_cons, List.sum_cons, List.length_cons]
  have : wS s S k = (S.map fun n => (wEb s n).count k).sum := rfl
  omega
theorem wLx {l : List Nat} (hn : l.Nodup) (h : ∀ k ∈ l, k < 256) : l.length ≤ 256 := by
 have h1 : ∀ l : List Nat, (l.map fun _ => 1).sum = l.length := fun l => by
  induction l with
  | nil => rfl
  | cons a l ih => rw [List.map_cons, List.sum_cons, ih, List.length_cons]; omega
 have := sum_nodup (f := fun _ => 1) hn (B := List.range 256) fun k hk => List.mem_range.2 (h k hk)
 rw [h1, h1, List.length_range] at this
 exact this
theorem wS_snoc (s : Sto) (S : List Nat) (n : Nat) (k : Int) : wS s (S ++ [n]) k = wS s S k + (wEb s n).count k := by
 unfold wS; rw [List.map_append, List.sum_append]; simp
theorem bump_count {l : List Int} {i : Nat} (h : i < l.length) (h0 : 0 ≤ l[i]) (A : Nat → Nat) : bump (fun k => A k + (l.take i).count (k : Int)) l[i].toNat = fun k => A k + (l.take (i + 1)).count (k : Int) := by
 funext k
 unfold bump
 rw [List.take_succ_eq_append_getElem h, List.count_append, List.count_singleton]
 by_cases e : k = l[i].toNat
 ·have e2 : (l[i] == (k : Int)) = true := by rw [beq_iff_eq]; omega
  rw [if_pos e, e2, if_pos rfl]; show A k + _ + 1 = A k + (_ + 1); omega
 ·have e2 : (l[i] == (k : Int)) = false := by rw [beq_eq_false_iff_ne]; omega
  rw [if_neg e, e2]; rfl
theorem bump_refs {ys : List It} {m : Nat} (h : m < ys.length) (h0 : 0 ≤ ys[m].ref) (A : Nat → Nat) : bump (fun k => A k + ((ys.take m).map (·.ref)).count (k : Int)) ys[m].ref.toNat = fun k => A k + ((ys.take (m + 1)).map (·.ref)).count (k : Int) := by
 have hm : m < (ys.map (·.ref)).length := by rw [List.length_map]; exact h
 have e : (ys.map (·.ref))[m] = ys[m].ref := by simp
 have := bump_count (l := ys.map (·.ref)) hm (by rw [e]; exact h0) A
 rw [e] at this
 simpa [List.map_take] using this
theorem bump_cnt {l : List Int} {i : Nat} (h : i < l.length) (h0 : 0 ≤ l[i]) {f A B : Nat → Nat} (hf : ∀ k, f k = A k + (l.take i).count (k : Int) + B k) : ∀ k, bump f l[i].toNat k = A k + (l.take (i + 1)).count (k : Int) + B k := fun k => by
 have e := congrFun (bump_count h h0 fun k => A k + B k) k
 have e2 : f = fun k => A k + B k + (l.take i).count (k : Int) := by funext k; rw [hf]; omega
 rw [e2]
 rw [e]; omega
theorem bump_ref {ys : List It} {m : Nat} (h : m < ys.length) (h0 : 0 ≤ ys[m].ref) {f A : Nat → Nat} (hf : ∀ k, f k = A k + ((ys.take m).map (·.ref)).count (k : Int)) : ∀ k, bump f ys[m].ref.toNat k = A k + ((ys.take (m + 1)).map (·.ref)).count (k : Int) := fun k => by
 have e : f = fun k => A k + ((ys.take m).map (·.ref)).count (k : Int) := funext hf
 rw [e]; exact congrFun (bump_refs h h0 A) k
theorem met_step {s : Sto} {S : List Nat} {n : Nat} {lv : Int} {xs : List It} {m : Nat} {f C : Nat → Nat} (hnd : wBs s n = some (lv, xs)) (hS : S.Nodup) (h0 : n ∈ S → m = 0) (hm : n ∉ S → xs.length ≤ m) (hf : ∀ k : Nat, f k = C k + wS s S k + ((xs.take m).map (·.ref)).count (k : Int)) :
  ∃ S2 : List Nat, S2.Nodup ∧ (∀ x, x ∈ S2 ↔ x ∈ S ∨ x = n) ∧ ∀ k : Nat, f k = C k + wS s S2 k := by
 by_cases h : n ∈ S
 ·refine ⟨S, hS, fun x => ⟨.inl, fun hx => hx.elim id fun e => e ▸ h⟩, fun k => ?_⟩
  rw [hf, h0 h]; rfl
 ·refine ⟨S ++ [n], List.nodup_append.2 ⟨hS, by simp, fun a ha b hb e => h (by rw [List.mem_singleton.1 hb] at e; exact e ▸ ha)⟩, fun x => by simp, fun k => ?_⟩
  rw [hf, wS_snoc, wFh hnd, List.take_of_length_le (hm h)]; omega
theorem idx_lt3 {α : Type} {l : List α} {i : Nat} (h : (i : Int) < (l.length : Int)) : i < l.length := by omega
theorem NdsOk.readE {s : Sto} {root : Int} {ns rs : List Int} (h : NdsOk s root.toNat ns rs) (hok : (wCj s root).2 = 0) {x : Int} (hx : x ∈ ns) : askE s x = 0 ∧ ∃ (lev : Nat) (ys : List It), wBs s x.toNat = some ((lev : Int), ys) ∧ (∀ y ∈ ys, (0 < (lev : Int) → y.ref ∈ ns) ∧ ((lev : Int) = 0 → y.ref ≠ 0 → y.ref ∈ rs)) := by
 obtain ⟨hst, h8, h256, hnz, lev, xs, hnd, htr, _⟩ := wCb hok
 have h0 : 8 ≤ root.toNat ∧ root.toNat < 256 := by omega
 obtain ⟨n, rfl, hr⟩ := (h.is x).1 hx
 obtain ⟨hb, l, ys, hy, ht⟩ := Rch.tree h0 hnd htr hr
 refine ⟨ask_yes hst (by omega) (by rw [Int.toNat_natCast]; exact Rch.now h0 hnd htr hr), l, ys, by rw [Int.toNat_natCast]; exact hy, fun y hym => ⟨fun hl => ?_, fun hl hn => ?_⟩⟩
 ·have h1 := (wBm hy).up hl y hym
  have h2 := (wBm hy).ref y hym
  exact (h.is y.ref).2 ⟨y.ref.toNat, by omega, .kid hr hy hl hym⟩
 ·exact (h.ris y.ref).2 ⟨hn, n, ys, y, hr, by rw [hy, hl], hym, rfl⟩
theorem RnPost.nodeE {s : Sto} {k : Int} {u : Value} {M' : Mem} {lev : Nat} {xs : List It} (h : RnPost s k u M') (h0 : askE s k = 0) (hnd : wBs s k.toNat = some ((lev : Int), xs)) : ∃ sl, u = .tuple #[.agg #[.int .i64 (lev : Int), sl], .int .i64 0] ∧ NS M' sl xs := by
 unfold RnPost at h; rw [if_pos h0] at h; unfold BnPost at h; rw [hnd] at h; exact h
theorem NdsOk.nlenE {s : Sto} {root : Int} {ns rs : List Int} (h : NdsOk s root.toNat ns rs) (hok : (wCj s root).2 = 0) : ns.length ≤ 256 := by
 obtain ⟨_, h8, h256, _, lev, xs, hnd, htr, _⟩ := wCb hok
 have hb : ∀ x ∈ ns, 0 ≤ x ∧ x < 256 := fun x hx => by
  obtain ⟨n, rfl, hr⟩ := (h.is x).1 hx
  have := (Rch.tree (by omega) hnd htr hr).1
  omega
 have h1 : (ns.map Int.toNat).Nodup := by
  refine List.pairwise_map.2 ((List.pairwise_iff_forall_sublist.2 fun {a b} hs => ?_))
  have h2 := List.pairwise_iff_forall_sublist.1 h.up hs
  have ha := hb a (hs.subset (by simp))
  have hbb := hb b (hs.subset (by simp))
  show a.toNat ≠ b.toNat
  omega
 have := wLx h1 fun k hk => by
  obtain ⟨x, hx, rfl⟩ := List.mem_map.1 hk
  have := hb x hx
  omega
 rwa [List.length_map] at this
end Go.Proofs.YtckdncmjkloebaaGreat
