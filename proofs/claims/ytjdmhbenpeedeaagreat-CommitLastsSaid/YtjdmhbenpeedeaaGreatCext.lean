/- Plain laws of commits: whether a pool may be hangs on what is seen of counted blocks alone; what is committed may be. No statement of the seat is proved here. -/
import Derived.Test.YtjdmhbenpeedeaaGreatCom
namespace Go.Proofs.YtjdmhbenpeedeaaGreat
set_option linter.unusedVariables false
set_option linter.unusedSimpArgs false
open Go.RowKit

/-- two stores whose counts and nodes are the same -/
structure Eqv (s t : Sto) : Prop where
  now : s.now = t.now
  nd : ∀ k, ndAt s k = ndAt t k
section
variable {s t : Sto}
theorem Eqv.one (h : Eqv s t) : ∀ (l : Nat), oneOf s l = oneOf t l
  | 0 => by funext x; simp only [oneOf, h.now]
  | l + 1 => by funext x; simp only [oneOf, h.nd, h.one l]
theorem Eqv.rd (h : Eqv s t) (lv : Int) (xs : List It) : rdSp s lv xs = rdSp t lv xs := by unfold rdSp; rw [h.one]
theorem Eqv.lrn (h : Eqv s t) (k level : Int) : lrn s k level = Go.Proofs.YtjdmhbenpeedeaaGreat.lrn t k level := by unfold Go.Proofs.YtjdmhbenpeedeaaGreat.lrn; rw [h.nd]
theorem Eqv.rt (h : Eqv s t) (k : Int) : rtOk s k = rtOk t k := by
  unfold rtOk; rw [h.lrn]
  split
  · rfl
  · exact congrArg Sp.is (h.rd _ _)
theorem Eqv.kid (h : Eqv s t) : kid s = Go.Proofs.YtjdmhbenpeedeaaGreat.kid t := by funext x; unfold Go.Proofs.YtjdmhbenpeedeaaGreat.kid; rw [h.nd]
theorem Eqv.vols (h : Eqv s t) (next : Int) : ∀ l, volsL s next l = volsL t next l
  | 0 => rfl
  | l + 1 => by funext xs; simp only [volsL, h.vols next l, h.kid]
theorem Eqv.tree (h : Eqv s t) : ∀ (f : Nat) (st refs nodes : List Int), treeF s f st refs nodes = treeF t f st refs nodes
  | 0, _, _, _ => rfl
  | f + 1, st, refs, nodes => by simp only [treeF, h.nd, h.tree f]
theorem Eqv.trees (h : Eqv s t) : ∀ (rs refs nodes : List Int), treesF s rs refs nodes = treesF t rs refs nodes
  | [], _, _ => rfl
  | r :: rs, refs, nodes => by simp only [treesF, h.rt, h.tree, h.trees rs]
theorem Eqv.cens (h : Eqv s t) (hs : stOk s) (ht : stOk t) (root next : Int) (dead : List Int) : cens s root next dead = Go.Proofs.YtjdmhbenpeedeaaGreat.cens t root next dead := by
  have he : ∀ r, enough s r = enough t r := fun r => by unfold enough; rw [h.now]
  unfold Go.Proofs.YtjdmhbenpeedeaaGreat.cens
  simp only [h.rt, h.lrn, h.vols, h.trees, he, hs, ht]
end
/-! ### disks as they are seen -/
theorem seenW (bs : List (List By)) (ws : List Wt) (n l : List By) (k : Nat) (w : Wt) : seen ⟨bs, ws ++ [w], n, l⟩ k = if w.1 = (k : Int) then w.2 else seen ⟨bs, ws, n, l⟩ k := by
  unfold seen
  rw [List.reverse_append, List.reverse_singleton, List.singleton_append, List.find?_cons]
  by_cases h : w.1 = (k : Int)
  · simp [h]
  · have h2 : (w.1 == (k : Int)) = false := by simpa using h
    rw [h2, if_neg h]
theorem setB_snoc (bs : List (List By)) (ws : List Wt) (w : Wt) : setB bs (ws ++ [w]) = (setB bs ws).set w.1.toNat w.2 := by unfold setB; rw [List.foldl_append]; rfl
theorem list_snoc {α : Type} {p : List α → Prop} (h0 : p []) (h1 : ∀ xs x, p xs → p (xs ++ [x])) (xs : List α) : p xs := by
  have : ∀ ys : List α, p ys.reverse := fun ys => by
    induction ys with
    | nil => exact h0
    | cons y ys ih => rw [List.reverse_cons]; exact h1 _ _ ih
  have := this xs.reverse
  rwa [List.reverse_reverse] at this
theorem setB_get (bs : List (List By)) (n l : List By) (k : Nat) (hk : k < bs.length) (ws : List Wt) : (∀ w ∈ ws, 0 ≤ w.1) → (setB bs ws).getD k [] = seen ⟨bs, ws, n, l⟩ k := by
  refine list_snoc (p := fun ws => (∀ w ∈ ws, 0 ≤ w.1) → (setB bs ws).getD k [] = seen ⟨bs, ws, n, l⟩ k) (fun _ => by unfold seen setB; rfl) (fun ws w ih h => ?_) ws
  rw [setB_snoc, seenW]
  have h0 := h w (by simp)
  have ih := ih fun v hv => h v (by simp [hv])
  by_cases e : w.1 = (k : Int)
  · rw [if_pos e, e, Int.toNat_natCast]; simp [List.getD, setB_len, hk]
  · rw [if_neg e, ← ih]; simp [List.getD, List.getElem?_set_ne (show w.1.toNat ≠ k by omega)]
theorem setB_low (bs : List (List By)) (k : Nat) (hk : 8 ≤ k) (ws : List Wt) : (∀ w ∈ ws, 0 ≤ w.1 ∧ w.1 < 8) → (setB bs ws).getD k [] = bs.getD k [] := by
  refine list_snoc (p := fun ws => (∀ w ∈ ws, 0 ≤ w.1 ∧ w.1 < 8) → (setB bs ws).getD k [] = bs.getD k []) (fun _ => rfl) (fun ws w ih h => ?_) ws
  have h0 := h w (by simp)
  rw [setB_snoc, ← ih fun v hv => h v (by simp [hv])]; simp [List.getD, List.getElem?_set_ne (show w.1.toNat ≠ k by omega)]
theorem seen_nil (bs : List (List By)) (n l : List By) (k : Nat) : seen ⟨bs, [], n, l⟩ k = bs.getD k [] := rfl
theorem cmt_low {p : Po} (h : PoOk p) (hn : PoN p) {k : Nat} (hk : 8 ≤ k) (hk2 : k < 256) : (setB (dsk p 3).1 (dsk p 3).2).getD k [] = seen p.st k := by
  have h3 := cmAdd_ok h hn 2
  have h2 := cmAdd_ok h hn 1
  show (setB (setB (setB p.st.blocks p.st.waits) (cmAdd p 1)) (cmAdd p 2)).getD k [] = _
  rw [setB_low _ k hk _ fun w hw => ⟨(h3.2 w hw).1, (h3.2 w hw).2.1⟩, setB_low _ k hk _ fun w hw => ⟨(h2.2 w hw).1, (h2.2 w hw).2.1⟩]
  exact setB_get p.st.blocks p.st.now p.st.last k (by rw [h.st.1.1]; exact hk2) p.st.waits fun w hw => (h.st.1.w w hw).1
theorem now_low {xs : List By} (h : ctOk xs) {k : Nat} (hk : k < 8 ∨ 256 ≤ k) : xs.getD k 0 = 0 := by
  rcases hk with hk | hk
  · have h1 := List.all_eq_true.1 h.2 (xs.getD k 0) (by rw [getD_at (by rw [h.1]; omega)]; exact List.mem_iff_getElem.2 ⟨k, by rw [List.length_take, h.1]; omega, by rw [List.getElem_take]⟩)
    simpa using h1
  · simp [List.getD, List.getElem?_eq_none (show xs.length ≤ k by rw [h.1]; exact hk)]
theorem nd_low {s : Sto} (h : ctOk s.now) {k : Nat} (hk : k < 8 ∨ 256 ≤ k) : ndAt s k = none := by unfold ndAt; rw [if_pos (now_low h hk)]
theorem cmt_eqv {p : Po} (h : PoOk p) (hn : PoN p) : Eqv (cmt p).st p.st := ⟨rfl, fun k => by
  by_cases hk : k < 8 ∨ 256 ≤ k
  · rw [nd_low h.st.2.1 hk, nd_low (s := (cmt p).st) h.st.2.1 hk]
  · unfold ndAt
    show (if p.st.now.getD k 0 = 0 then none else rdNode (seen (cmt p).st k)) = _
    rw [show seen (cmt p).st k = seen p.st k from cmt_low h hn (by omega) (by omega)]⟩
theorem cmt_st {p : Po} (h : PoOk p) (hn : PoN p) : stOk (cmt p).st := ⟨setB_ok (dsk_ok h hn 3) fun w hw => ((dsk_ok h hn 3).w w hw).2.2, h.st.2.1, h.st.2.1⟩
theorem cmt_chk {p : Po} (h : askC p = 0) (hn : PoN p) : poChk (cmt p) = 0 := by
  have hp := (askC_ok h).1
  have hc : poChk p = 0 := by
    rcases poChk_cases p with h0 | h0
    · exact h0
    · unfold askC at h; rw [if_pos (by omega)] at h; omega
  obtain ⟨x, hx⟩ := poChk_is.1 hc
  refine poChk_is.2 ⟨x, ?_⟩
  rw [← hx]; exact (cmt_eqv hp hn).cens (cmt_st hp hn) hp.st _ _ _
theorem cmt_n {p : Po} (h : askC p = 0) (hn : PoN p) : PoN (cmt p) := by
  have := (askC_ok h).2
  have hg := hn.gen
  exact ⟨⟨by show 0 ≤ p.gen + 1; omega, by show p.gen + 1 < 4294967296; omega⟩, hn.next, hn.dead⟩
theorem cmt_ask {p : Po} (h : askC p = 0) (hn : PoN p) (hg : p.gen + 1 ≠ 4294967295) : askC (cmt p) = 0 := by
  unfold askC; rw [if_neg (by rw [cmt_chk h hn]; decide), if_neg (show ¬ (cmt p).gen = 4294967295 from hg)]
/-! ### a new pool -/
def po0 : Po := ⟨mkS st0 0 [], 0, 8, 1, []⟩
theorem po0_ask : askC po0 = 0 := by decide +kernel
theorem po0_n : PoN po0 := ⟨by decide, by decide, by decide⟩
end Go.Proofs.YtjdmhbenpeedeaaGreat
