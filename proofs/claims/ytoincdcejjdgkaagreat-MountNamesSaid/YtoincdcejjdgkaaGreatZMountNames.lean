/- MountNames: the errors have their numbers; the chapter's examples are so. No condition. -/
import Derived.Test.YtoincdcejjdgkaaGreatZWith
import Derived.Test.YtoincdcejjdgkaaGreatZHbm
import Derived.Test.YtoincdcejjdgkaaGreatZOpenp
import Derived.Test.YtoincdcejjdgkaaGreatRows
import Derived.Lib.SmallJoins
namespace Go.Proofs.YtoincdcejjdgkaaGreat
set_option linter.unusedVariables false
set_option linter.unusedSimpArgs false
open Go.RowKit
def dsk0 : Sto := ⟨List.replicate 256 Z128, [], [], []⟩
theorem dsk0_ok : dkOk dsk0.blocks dsk0.waits := by decide +kernel
theorem dsk0_no (x : Su) : x ∉ wHg dsk0 4 := fun h => by
 obtain ⟨k, hk, hx⟩ := fndL_is.1 h
 have ho := (wFt hx).2.2.1
 have : k = 0 ∨ k = 1 ∨ k = 2 ∨ k = 3 := by omega
 rcases this with rfl | rfl | rfl | rfl <;> exact absurd ho (by decide +kernel)
theorem kept_no : ∀ (n : Nat) (ws : List Wt), kept (List.replicate n false) ws = []
 | 0, _ => rfl
 | _ + 1, [] => rfl
 | n + 1, _ :: ws => by rw [List.replicate_succ]; exact kept_no n ws
theorem po0_cens : ∃ refs nodes, cens (cmt po0).st (cmt po0).root (cmt po0).next (cmt po0).dead = some ([], refs, nodes) := by
 have h : (match cens (cmt po0).st (cmt po0).root (cmt po0).next (cmt po0).dead with | some ([], _, _) => true | _ => false) = true := by decide +kernel
 split at h
 ·rename_i refs nodes hc; exact ⟨refs, nodes, hc⟩
 ·cases h
section
variable {P : Program} {ops : Array Oper} {N : Fs} {F : Fr} {M : Mem} {L : Lc} {o : Oper}
theorem hMakeM {W : World} {M0 : Mem} {x y : Operand} {t e : TypeId} {k k' : IntKind} {n c : Int} {sz by_ : Nat} {z : List Value} (hg : gd ops F o = some true) (ho : o.op = .makeSlice t x y) (hx : ev F x = some (.int k n)) (hy : ev F y = some (.int k' c)) [ht : Und P t (.slice e)] [hl : Lay P e sz by_ z]
  (h : 0 ≤ n ∧ n ≤ c ∧ c ≤ 1000000000) (hby : Nat.ble by_ 100000 = true) :
  HF P ops N F ⟨W, [], M0⟩ M L o (fun v M' L' => ∃ b, v = .slice (some ⟨b, 0, none⟩) n.toNat c.toNat ∧ L' = L ∧ MLe M M' ∧ M' b = some (.cells ((List.replicate c.toNat z).flatten).toArray e (0, 0))) :=
 (wKg (E := ⟨W, [], M0⟩) hg ho hx hy h hby).monoM fun w v M' L' ⟨b, e1, e2, e3⟩ hs => by
  subst e2; subst e3
  obtain ⟨h1, h2, h3⟩ := St.freeze' (List.not_mem_nil) hs
  exact ⟨_, _, h1, b, e1, rfl, h2, h3⟩
end
theorem bo_flat : ∀ n : Nat, (List.replicate n [Value.bool false]).flatten = wKu (List.replicate n false)
 | 0 => rfl
 | n + 1 => by rw [List.replicate_succ, List.replicate_succ, List.flatten_cons, bo_flat n]; rfl
theorem po0_one : po0.st.waits.length = 1 := by decide +kernel
set_option maxHeartbeats 4000000 in
theorem mnames_gen (t : Sto) (n : Int) (refs nodes : List Int) (hw : WF t n refs nodes) (M : Mem) :
  SpecL Tryz.prog 6 #[] M [] fun u M' L' => u = .bool true ∧ L' = [] := by
 refine wAg (vs := []) 71 _ Tryz.func6 rfl Tryz.ntmps6 rfl rfl ?_; intro W
 refine wAb (wAa ?_)
 refine jp rfl ?_
 refine wAc (jT (wAb (wAb (wAa ?_))))
 refine wAp rfl rfl (wAr rfl rfl rfl rfl rfl (by kernel_rfl) (malive_spec M)) ?_; rintro _ M1 _ ⟨hM1, _, rfl, ⟨rfl, rfl⟩⟩
 simp only [List.nil_append]
 refine jp rfl ?_
 refine wAc (jT (wAk rfl (wAd (jT (wAb (wAa ?_))))))
 refine wAp rfl rfl (wAr rfl rfl rfl rfl rfl (by kernel_rfl) (dnew_spec M1)) ?_; rintro _ M2 _ ⟨hM2, _, rfl, ⟨⟨dbv, dwv, rfl, hdb, hdw⟩, rfl⟩⟩
 simp only [List.nil_append]
 refine wAp rfl rfl (wAr rfl rfl rfl rfl rfl (by kernel_rfl) (wHb dsk0 M2 _ ⟨_, _, rfl, hdb, hdw⟩)) ?_; rintro _ Ma _ ⟨hMa, _, rfl, ⟨hop, rfl⟩⟩
 simp only [List.nil_append]
 obtain ⟨z0, og, orr, on, oe, rfl, hoc⟩ := hop
 obtain ⟨_, _, hno⟩ | ⟨_, _, xx, hxx, _⟩ := hoc
 rotate_left
 ·exact absurd hxx (dsk0_no xx)
 obtain rfl := (hno dsk0_ok).1
 iterate 3 refine jp rfl ?_
 refine wAp rfl rfl (wAo rfl rfl) ?_; rintro _ _ _ ⟨b1, rfl, rfl, rfl⟩
 refine sSt rfl ?_
 refine jp rfl ?_
 refine wAc (jT (wAb (wAa ?_)))
 refine wAp rfl rfl (wAr rfl rfl rfl rfl rfl (by kernel_rfl) (with_spec t n refs nodes hw Ma)) ?_; rintro _ M3 _ ⟨hM3, _, rfl, ⟨⟨x, y, rfl, hx, hy⟩, rfl⟩⟩
 simp only [List.nil_append]
 iterate 4 refine jp rfl ?_
 refine wAp rfl rfl (wAo rfl rfl) ?_; rintro _ _ _ ⟨b3, rfl, rfl, rfl⟩
 refine wAp rfl rfl (wAo rfl rfl) ?_; rintro _ _ _ ⟨b4, rfl, rfl, rfl⟩
 refine sSt rfl ?_
 refine sSt rfl ?_
 refine jp rfl ?_
 refine wAc (jT (wAb ?_))
 have hwl : y.w.n = t.waits.length := hy.w.len
 have htk : dkOk t.blocks t.waits := (PoOk.of hw.set.all).st.1
 have htw : t.waits.length ≤ 4096 := htk.2.1
 refine wFp ([(b4, .cells (pcl y w1P.gen n w1P.next).toArray 32 (0, 0))]) (by kernel_rfl) (by simp) ?_
 refine wDg (i := 0) rfl (by kernel_rfl) (by kernel_rfl) rfl rfl (wHi rfl rfl rfl rfl rfl) ?_
 refine wDg (i := 1) rfl (by kernel_rfl) (by kernel_rfl) rfl rfl (wAe rfl rfl rfl rfl rfl) ?_
 refine wDg (i := 2) rfl (by kernel_rfl) (by kernel_rfl) rfl rfl (wAe rfl rfl rfl rfl rfl) ?_
 refine wDg (i := 3) rfl (by kernel_rfl) (by kernel_rfl) rfl rfl (wAe rfl rfl rfl rfl rfl) ?_
 refine wDg (i := 4) rfl (by kernel_rfl) (by kernel_rfl) rfl rfl (qLd rfl rfl rfl rfl (CJ.loc rfl)) ?_
 refine wDg (i := 5) rfl (by kernel_rfl) (by kernel_rfl) rfl rfl (wBr rfl rfl rfl) ?_
 refine wFq (α := Mem × V5 × Nat) (fun q => MLe M3 q.1 ∧ PT5 q.1 q.2.1 (cmt po0)) (fun q => [(2, .int .i64 40), (4, .pointer (some ⟨b4, 0, none⟩)), (6, .pointer (some ⟨q.2.2, 0, none⟩)), (33, .agg (pcl q.2.1 (cmt po0).gen (cmt po0).root (cmt po0).next).toArray), (34, .int .i64 0)]) (fun q => q.1) (fun q => [(q.2.2, .cells poZ.toArray 32 (0, 0)), (b4, .cells (pcl y w1P.gen n w1P.next).toArray 32 (0, 0)), (b3, .cells (pcl x (cmt po0).gen (cmt po0).root (cmt po0).next).toArray 32 (0, 0)), (b1, .cells (pcl z0 og orr on).toArray 32 (0, 0))]) 2 #[true, true, true, true, true, true, true, true, true, true, true, true, false, false] ?_ (fun rest => ?_)
 ·rintro ⟨M5, c, b6⟩ ⟨hM5, hc⟩
  try dsimp only at hM5 hc ⊢
  refine wGb (i := 12) (by kernel_rfl) ?_
  refine js_s rfl rfl (wBq rfl rfl rfl rfl rfl rfl rfl rfl) ?_; rintro _ _ _ ⟨rfl, rfl⟩
  refine wAq (hM5) (by simp) ?_
  refine wGk (i := 13) rfl (by kernel_rfl) (by kernel_rfl) rfl ?_
  refine wLi (by kernel_rfl) ?_
  refine jPn (jT (wAb (wAa ?_)))
  refine sLL rfl ?_
  obtain ⟨crefs, cnodes, hcc⟩ := po0_cens
  refine wAp rfl rfl (wAr rfl rfl rfl rfl rfl (by kernel_rfl) (fvols_spec (cmt po0) c M5 hc (by decide))) ?_; rintro _ M6 _ ⟨hM6, _, rfl, ⟨⟨vl, rfl, hvl⟩, rfl⟩⟩
  simp only [List.nil_append]
  have hvn : vl.n = 0 := (hvl _ _ _ hcc).1
  rw [show wGn (cmt po0) = 0 from cmt_chk wCh wGx]
  iterate 5 refine jp rfl ?_
  refine wAc (jT (wAb (wAa ?_)))
  refine wAp rfl rfl (wAr rfl rfl rfl rfl rfl (by kernel_rfl) (fnew_spec M6)) ?_; rintro _ M7 _ ⟨hM7, _, rfl, ⟨hp0, rfl⟩⟩
  simp only [List.nil_append]
  obtain ⟨x7, rfl, hx7⟩ := hp0.five
  refine wAp rfl rfl (wAr rfl rfl rfl rfl rfl (by kernel_rfl) (wHk po0 x7 M7 hx7 (wCs wCh).1.st.1 [] none 0 (.inl rfl) (by decide))) ?_; rintro _ M8 _ ⟨hM8, _, rfl, ⟨hcr2, rfl⟩⟩
  simp only [List.nil_append]
  unfold CrP at hcr2
  rw [if_neg (by rw [po0_one]; decide)] at hcr2
  subst hcr2
  iterate 3 refine jp rfl ?_
  refine wAp rfl rfl (wAo rfl rfl) ?_; rintro _ _ _ ⟨b10, rfl, rfl, rfl⟩
  refine sSt rfl ?_
  refine jp rfl ?_
  refine wAc (jT (wAb (wAa ?_)))
  iterate 2 refine jp rfl ?_
  refine jt rfl (decide_eq_true (by first | omega | rfl)) ?_
  iterate 3 refine jp rfl ?_
  refine jt rfl (decide_eq_true (by first | omega | rfl)) ?_
  iterate 2 refine jp rfl ?_
  refine sFa rfl ?_
  refine sLd rfl ?_
  refine jt rfl (decide_eq_true (by first | omega | rfl)) ?_
  iterate 3 refine jp rfl ?_
  refine jt rfl (decide_eq_true (by first | omega | rfl)) ?_
  iterate 3 refine jp rfl ?_
  refine wAj rfl rfl (wBr rfl rfl rfl) ?_
  refine jt rfl (decide_eq_true (by first | omega | rfl)) ?_
  iterate 6 refine jp rfl ?_
  refine wAc (jT (wAf ?_))
  refine wAu (L' := []) (List.nil_sublist _) ?_
  refine jr1 rfl rfl ?_
  exact ⟨rfl, rfl⟩
 refine wBc [6, 11] (by kernel_rfl) rfl ⟨?_, ?_, trivial⟩
 ·refine wCe rfl rfl rfl (hMakeM rfl rfl rfl rfl (by omega) (by rfl)) ?_; rintro _ M4 _ ⟨b31, rfl, rfl, hM6, e31⟩
  refine wAq (hM6) (by simp) ?_
  rw [bo_flat] at e31
  have hks : SM M4 (some ⟨b31, 0, none⟩) (wKu (List.replicate ((y.w.n : Nat) : Int).toNat false)) := SM.of_block e31
  refine wBc [7, 11] (by kernel_rfl) rfl ⟨?_, ?_, trivial⟩
  ·refine wCe rfl rfl rfl (wAr rfl rfl rfl rfl rfl (by kernel_rfl) (by have hh := wHk ⟨t, w1P.gen, n, w1P.next, w1P.dead⟩ y M4 (hy.mono hM6) htk (List.replicate ((y.w.n : Nat) : Int).toNat false) (some ⟨b31, 0, none⟩) ((y.w.n : Nat) : Int).toNat hks (by rw [List.length_replicate]; omega); rw [List.length_replicate] at hh; exact hh)) ?_; rintro _ M5 _ ⟨hM7, R7, rfl, hcr, rfl⟩
   refine wAq ((hM6).trans hM7) (by simp) ?_
   simp only [List.nil_append]
   unfold CrP at hcr
   rw [if_pos (by rw [List.length_replicate]; show _ = t.waits.length; omega), kept_no] at hcr
   change OpnP ⟨t.blocks, [], t.now, t.last⟩ _ _ at hcr
   rw [hw.bl] at hcr
   obtain ⟨c5, og5, or5, on5, oe5, rfl, hoc5⟩ := hcr
   have hfe : wHg ⟨(cmt po0).st.blocks, [], t.now, t.last⟩ 4 = wHg (cmt po0).st 4 := fndL_q fun _ _ => rfl
   have htp := cmt_try wCh wGx
   obtain ⟨_, _, hno5⟩ | ⟨rfl, _, x5, hx5, _, _, hc5, rfl, rfl, rfl⟩ := hoc5
   ·exact absurd (⟨htp.ct, htp.sum, htp.chk⟩ : TryOk ⟨(cmt po0).st.blocks, [], t.now, t.last⟩ (sup po0)) ((hno5 (cmt_st (wCs wCh).1 wGx).1).2 _ (by rw [hfe]; exact fnd_new (wCs wCh).1 wGx (wCs wCh).2))
   obtain rfl := po0_fnd (fun _ _ => rfl) hx5
   replace hc5 : PT5 M5 c5 (poOf (cmt po0).st (sup po0)) := hc5
   rw [cmt_po (wCs wCh).1 wGx] at hc5
   refine wGk (i := 8) rfl (by kernel_rfl) (by kernel_rfl) rfl ?_
   refine wGk (i := 9) rfl (by kernel_rfl) (by kernel_rfl) rfl ?_
   refine wGk (i := 10) rfl (by kernel_rfl) (by kernel_rfl) rfl ?_
   refine wBc [11] (by kernel_rfl) rfl ⟨?_, trivial⟩
   ·refine wCe rfl rfl rfl (wAo rfl rfl) ?_; rintro _ _ _ ⟨b6, rfl, rfl, rfl⟩
    refine wAq ((hM6.trans hM7)) (by simp) ?_
    refine wBv (listed' := #[true, true, true, true, true, true, true, true, true, true, true, true, false, false]) (by kernel_rfl) (wBu (.cons (t := 2) rfl (.cons (t := 4) rfl (.cons (t := 6) rfl (.cons (t := 33) rfl (.cons (t := 34) rfl .nil))))) ?_)
    exact rest (M5, c5, b6) ⟨hM6.trans hM7, hc5⟩
  ·refine wCe rfl rfl rfl (wAo rfl rfl) ?_; rintro _ _ _ ⟨b6, rfl, rfl, rfl⟩
   refine wAq (hM6) (by simp) ?_
   refine wBc [7] (by kernel_rfl) rfl ⟨?_, trivial⟩
   ·refine wCe rfl rfl rfl (wAr rfl rfl rfl rfl rfl (by kernel_rfl) (by have hh := wHk ⟨t, w1P.gen, n, w1P.next, w1P.dead⟩ y M4 (hy.mono hM6) htk (List.replicate ((y.w.n : Nat) : Int).toNat false) (some ⟨b31, 0, none⟩) ((y.w.n : Nat) : Int).toNat hks (by rw [List.length_replicate]; omega); rw [List.length_replicate] at hh; exact hh)) ?_; rintro _ M5 _ ⟨hM7, R7, rfl, hcr, rfl⟩
    refine wAq ((hM6).trans hM7) (by simp) ?_
    simp only [List.nil_append]
    unfold CrP at hcr
    rw [if_pos (by rw [List.length_replicate]; show _ = t.waits.length; omega), kept_no] at hcr
    change OpnP ⟨t.blocks, [], t.now, t.last⟩ _ _ at hcr
    rw [hw.bl] at hcr
    obtain ⟨c5, og5, or5, on5, oe5, rfl, hoc5⟩ := hcr
    have hfe : wHg ⟨(cmt po0).st.blocks, [], t.now, t.last⟩ 4 = wHg (cmt po0).st 4 := fndL_q fun _ _ => rfl
    have htp := cmt_try wCh wGx
    obtain ⟨_, _, hno5⟩ | ⟨rfl, _, x5, hx5, _, _, hc5, rfl, rfl, rfl⟩ := hoc5
    ·exact absurd (⟨htp.ct, htp.sum, htp.chk⟩ : TryOk ⟨(cmt po0).st.blocks, [], t.now, t.last⟩ (sup po0)) ((hno5 (cmt_st (wCs wCh).1 wGx).1).2 _ (by rw [hfe]; exact fnd_new (wCs wCh).1 wGx (wCs wCh).2))
    obtain rfl := po0_fnd (fun _ _ => rfl) hx5
    replace hc5 : PT5 M5 c5 (poOf (cmt po0).st (sup po0)) := hc5
    rw [cmt_po (wCs wCh).1 wGx] at hc5
    refine wGk (i := 8) rfl (by kernel_rfl) (by kernel_rfl) rfl ?_
    refine wGk (i := 9) rfl (by kernel_rfl) (by kernel_rfl) rfl ?_
    refine wGk (i := 10) rfl (by kernel_rfl) (by kernel_rfl) rfl ?_
    refine wBv (listed' := #[true, true, true, true, true, true, true, true, true, true, true, true, false, false]) (by kernel_rfl) (wBu (.cons (t := 2) rfl (.cons (t := 4) rfl (.cons (t := 6) rfl (.cons (t := 33) rfl (.cons (t := 34) rfl .nil))))) ?_)
    exact rest (M5, c5, b6) ⟨hM6.trans hM7, hc5⟩
 ·refine wCe rfl rfl rfl (wAo rfl rfl) ?_; rintro _ _ _ ⟨b6, rfl, rfl, rfl⟩
  refine wAq (MLe.refl _) (by simp) ?_
  refine wBc [6] (by kernel_rfl) rfl ⟨?_, trivial⟩
  ·refine wCe rfl rfl rfl (hMakeM rfl rfl rfl rfl (by omega) (by rfl)) ?_; rintro _ M4 _ ⟨b31, rfl, rfl, hM6, e31⟩
   refine wAq (hM6) (by simp) ?_
   rw [bo_flat] at e31
   have hks : SM M4 (some ⟨b31, 0, none⟩) (wKu (List.replicate ((y.w.n : Nat) : Int).toNat false)) := SM.of_block e31
   refine wBc [7] (by kernel_rfl) rfl ⟨?_, trivial⟩
   ·refine wCe rfl rfl rfl (wAr rfl rfl rfl rfl rfl (by kernel_rfl) (by have hh := wHk ⟨t, w1P.gen, n, w1P.next, w1P.dead⟩ y M4 (hy.mono hM6) htk (List.replicate ((y.w.n : Nat) : Int).toNat false) (some ⟨b31, 0, none⟩) ((y.w.n : Nat) : Int).toNat hks (by rw [List.length_replicate]; omega); rw [List.length_replicate] at hh; exact hh)) ?_; rintro _ M5 _ ⟨hM7, R7, rfl, hcr, rfl⟩
    refine wAq ((hM6).trans hM7) (by simp) ?_
    simp only [List.nil_append]
    unfold CrP at hcr
    rw [if_pos (by rw [List.length_replicate]; show _ = t.waits.length; omega), kept_no] at hcr
    change OpnP ⟨t.blocks, [], t.now, t.last⟩ _ _ at hcr
    rw [hw.bl] at hcr
    obtain ⟨c5, og5, or5, on5, oe5, rfl, hoc5⟩ := hcr
    have hfe : wHg ⟨(cmt po0).st.blocks, [], t.now, t.last⟩ 4 = wHg (cmt po0).st 4 := fndL_q fun _ _ => rfl
    have htp := cmt_try wCh wGx
    obtain ⟨_, _, hno5⟩ | ⟨rfl, _, x5, hx5, _, _, hc5, rfl, rfl, rfl⟩ := hoc5
    ·exact absurd (⟨htp.ct, htp.sum, htp.chk⟩ : TryOk ⟨(cmt po0).st.blocks, [], t.now, t.last⟩ (sup po0)) ((hno5 (cmt_st (wCs wCh).1 wGx).1).2 _ (by rw [hfe]; exact fnd_new (wCs wCh).1 wGx (wCs wCh).2))
    obtain rfl := po0_fnd (fun _ _ => rfl) hx5
    replace hc5 : PT5 M5 c5 (poOf (cmt po0).st (sup po0)) := hc5
    rw [cmt_po (wCs wCh).1 wGx] at hc5
    refine wGk (i := 8) rfl (by kernel_rfl) (by kernel_rfl) rfl ?_
    refine wGk (i := 9) rfl (by kernel_rfl) (by kernel_rfl) rfl ?_
    refine wGk (i := 10) rfl (by kernel_rfl) (by kernel_rfl) rfl ?_
    refine wBv (listed' := #[true, true, true, true, true, true, true, true, true, true, true, true, false, false]) (by kernel_rfl) (wBu (.cons (t := 2) rfl (.cons (t := 4) rfl (.cons (t := 6) rfl (.cons (t := 33) rfl (.cons (t := 34) rfl .nil))))) ?_)
    exact rest (M5, c5, b6) ⟨hM6.trans hM7, hc5⟩
theorem mnames_walk (M : Mem) : SpecL Tryz.prog 6 #[] M [] fun u M' L' => u = .bool true ∧ L' = [] := by
 obtain ⟨t, n, refs, nodes, hw⟩ := wF
 exact mnames_gen t n refs nodes hw M
end Go.Proofs.YtoincdcejjdgkaaGreat
namespace Go.Proofs.YtoincdcejjdgkaaGreat
set_option linter.unusedVariables false
set_option linter.unusedSimpArgs false
open Go.ChangeShapes Go.WideShapes Go.ChangeAt Go.RowKit Go.Joins
set_option maxRecDepth 100000 in
theorem mountNames_lifted (os : Os) (started : os.Started) (H : Type) (enc : TypeId × Value → H) :
  ReturnsInHanded {} Tryz.checked os 6 .any (Rows.mountNamesSpec.pre6 enc Tryz.prog Tryz.f6 Rows.mountNamesRow.domain false) (Rows.mountNamesSpec.post enc Tryz.prog Tryz.f6 false true false false) := by
 refine returnsInHanded_of_change (C := Tryz.checked) A.own started (by kernel_rfl) Tryz.func6
  (ChangeSpec.witness6 (enc := enc) (C := Tryz.checked) false ⟨#[], #[], []⟩ 8 (by kernel_rfl) (by kernel_rfl) (by kernel_rfl) (by kernel_rfl)) ?_
 intro W base args ds gs before hval0 hW hcnd _
 have hval : ∀ (j : Nat) t v, Tryz.f6.params[j]? = some t → args[j]? = some v → Value.okWide Tryz.prog W .any base t v := hval0
 have hW' := hW
 obtain ⟨p, q, hA0, hV, rfl, hfz, hnd⟩ := hW
 have hA : DataW.TrodAll enc Tryz.prog W 0 (fun _ => true) true Tryz.f6.params.toList args.toList ds p := hA0
 rw [Tryz.params6] at hA hval
 obtain ⟨ha0, rfl, rfl⟩ := trodAll_nil hA
 have ha : args = #[] := by cases args; simp_all
 subst ha
 obtain ⟨rfl, rfl⟩ := trodVars_none hV
 refine (mnames_walk (wJh W) |>.mono fun _ _ _ h => h.1).run.mono fun e W' ⟨he, hb⟩ => ?_
 subst he
 exact ⟨_, rfl, law_post hW' (by kernel_rfl) rfl rfl rfl hb⟩
theorem mountNames_holds : Rows.MountNamesSaid :=
 OpenClaim.holds_of_wide 6 Tryz.f6 rfl rfl rfl rfl rfl rfl rfl ⟨rfl, rfl, rfl, rfl, rfl⟩ rfl rfl rfl rfl rfl (by kernel_rfl) Tryz.func6 (by kernel_rfl)
  (of_decide_eq_true (by kernel_rfl)) (by unfold Func.isWrapper; first | (rw [if_pos (by decide +kernel)]; kernel_rfl) | (rw [if_neg (by decide +kernel)]; exact ⟨rfl, rfl⟩))
  (fun os started H enc _ => mountNames_lifted os started H enc)
end Go.Proofs.YtoincdcejjdgkaaGreat
