/- The document's calls, kind by kind: each does what the model's plain form says. No statement of the seat is proved here. -/
import Derived.Test.YtokljhkplbkggaaGreatDoorZRft
import Derived.Test.YtokljhkplbkggaaGreatDoorZRfl
import Derived.Test.YtokljhkplbkggaaGreatDoorZRfv
import Derived.Test.YtokljhkplbkggaaGreatDoorZRfs
namespace Go.Proofs.YtokljhkplbkggaaGreatDoor
set_option linter.unusedVariables false
set_option linter.unusedSectionVars false
set_option linter.unusedSimpArgs false
open Go.RowKit Go.MapKept
theorem walk_err2 {n : Nat} {f : GS} (h : WFS n f.abs) {w : Wy} {e : Int} (hw : wBb f.abs w.1 w.2 = .error e) : e ≠ 0 := by
 have h1 : wCh f.abs w = .error e := by unfold wCh; rw [hw]
 rcases wGm h h1 with ⟨_, h2⟩ | ⟨h2, _⟩
 ·exact h2
 rw [h2]; decide
theorem wy_zero (M : Mem) : WyOk M ((0, []) : Wy) none 0 := ⟨.inl rfl, Nat.le_refl _, Nat.zero_le _⟩
theorem is_dir {f : GS} {vol id : Int} {v : PV} {x : PF} (hv : wAm vol f.abs.vols = some v) (hx : wAm id v.files = some x) : wGu f.abs vol id = x.dir := by
 unfold wGu wEs; rw [hv]; simp only [Option.bind_some]; rw [hx]
theorem file_is {f : GS} {vol id : Int} {v : PV} {x : PF} (hv : wAm vol f.abs.vols = some v) (hx : wAm id v.files = some x) : wEs f.abs vol id = some x := by
 unfold wEs; rw [hv]; exact hx
theorem file_ne {n : Nat} {f : GS} (h : WFS n f.abs) {w : Wy} {id : Int} (hw : wBb f.abs w.1 w.2 = .ok id) {v : PV} {x : PF} (hv : wAm w.1 f.abs.vols = some v) (hx : wAm id v.files = some x) (hd : x.dir = false) : w.2 ≠ [] := fun e => by
 have := reach_root h e hw hv hx
 rw [hd] at this; cases this
theorem ov_all (f : GS) (n : Nat) (hwf : WFS n f.abs) (hn : n ≤ 100) (M : Mem) (hf : f.Ok M) (c : CL) (ca : Option Addr) (ck : Nat) (hC : CallOk M c ca ck) (k : Nat) (hk : c.kind = k) (h1 : 1 ≤ k) (h4 : k ≤ 4) : SpecL Tryz.prog 25 #[gsV f, clV c ca ck] M [] (RDoP (opI insB f.abs c (0, []) (0, []) k)) := by
 have h : k = 1 ∨ k = 2 ∨ k = 3 ∨ k = 4 := by omega
 rcases h with rfl | rfl | rfl | rfl
 ·exact ov_make f n hwf hn M hf c ca ck hC hk
 ·show SpecL _ _ _ _ _ (RDoP (wHi f.abs c))
  replace hk : c.kind = 2 := hk
  cases hb : inI c.b 0 1 with
  | false =>
   have e : wHi f.abs c = (f.abs, wCa 2) := by unfold wHi; rw [if_neg (by rw [hb]; simp)]
   rw [e]; exact ov_arg f n hwf hn M hf c ca ck hC (.inl hk) hb
  | true =>
   cases hv : wAm c.a f.abs.vols with
   | none =>
    have e : wHi f.abs c = (f.abs, wCa 6) := by unfold wHi; rw [if_pos hb, hv]
    rw [e]; exact ov_none f n hwf hn M hf c ca ck hC (.inr ⟨.inl hk, hb⟩) hv
   | some v => exact ov_snap f n hwf hn M hf c ca ck hC hk hb v hv
 ·show SpecL _ _ _ _ _ (RDoP (wEa f.abs c))
  replace hk : c.kind = 3 := hk
  cases hb : inI c.b 0 1 with
  | false =>
   have e : wEa f.abs c = (f.abs, wCa 2) := by unfold wEa; rw [if_neg (by rw [hb]; simp)]
   rw [e]; exact ov_arg f n hwf hn M hf c ca ck hC (.inr hk) hb
  | true =>
   cases hv : wAm c.a f.abs.vols with
   | none =>
    have e : wEa f.abs c = (f.abs, wCa 6) := by unfold wEa; rw [if_pos hb, hv]
    rw [e]; exact ov_none f n hwf hn M hf c ca ck hC (.inr ⟨.inr hk, hb⟩) hv
   | some v => exact ov_freeze f n hwf hn M hf c ca ck hC hk hb v hv
 show SpecL _ _ _ _ _ (RDoP (wEu f.abs c))
 replace hk : c.kind = 4 := hk
 cases hv : wAm c.a f.abs.vols with
 | none =>
  have e : wEu f.abs c = (f.abs, wCa 6) := by unfold wEu; rw [hv]
  rw [e]; exact ov_none f n hwf hn M hf c ca ck hC (.inl hk) hv
 | some v => exact ov_delete f n hwf hn M hf c ca ck hC hk v hv
theorem cr_all (f : GS) (n : Nat) (hwf : WFS n f.abs) (hn : n ≤ 100) (M : Mem) (hf : f.Ok M) (c : CL) (ca : Option Addr) (ck : Nat) (hC : CallOk M c ca ck) (w : Wy) (na : Option Addr) (nc : Nat) (hW : WyOk M w na nc) (hk : c.kind = 5 ∨ c.kind = 6) : SpecL Tryz.prog 27 #[gsV f, clV c ca ck, wyV w na nc] M [] (RDoP (wDg f.abs c w)) := by
 cases hw : wBo f.abs w w.1 none with
 | error e => exact rcreate_err f n hwf hn M hf c ca ck hC w na nc hW e hw
 | ok d =>
  cases hz : wAr f.abs w.1 with
  | true => exact rcreate_frz f n hwf hn M hf c ca ck hC w na nc hW d hw hz
  | false => exact rcreate_ok f n hwf hn M hf c ca ck hC w na nc hW d hw hz hk
theorem lk_all (f : GS) (n : Nat) (hwf : WFS n f.abs) (hn : n ≤ 100) (M : Mem) (hf : f.Ok M) (c : CL) (ca : Option Addr) (ck : Nat) (hC : CallOk M c ca ck) (w : Wy) (na : Option Addr) (nc : Nat) (hW : WyOk M w na nc) (k : Nat) (hk : c.kind = k) (h : k = 16 ∨ k = 17) : SpecL Tryz.prog 30 #[gsV f, clV c ca ck, wyV w na nc] M [] (RepP (opI insB f.abs c w (0, []) k).2) ∧ (opI insB f.abs c w (0, []) k).1 = f.abs := by
 have h9 : (opI insB f.abs c w (0, []) k) = if k = 16 then wHv f.abs w else statS f.abs w := by rcases h with rfl | rfl <;> rfl
 rw [h9]
 cases hw : wBb f.abs w.1 w.2 with
 | error e =>
  have e1 : wHv f.abs w = (f.abs, wCa e) := by unfold wHv; rw [hw]
  have e2 : statS f.abs w = (f.abs, wCa e) := by unfold statS; rw [hw]
  rw [e1, e2]
  have e3 : (if k = 16 then (f.abs, wCa e) else (f.abs, wCa e)) = (f.abs, wCa e) := by split <;> rfl
  rw [e3]
  exact ⟨lk_err f n hwf hn M hf c ca ck hC w na nc hW e hw (walk_err2 hwf hw), rfl⟩
 | ok id =>
  obtain ⟨v, x, hv, hx, hwv⟩ := wHr hwf hw
  rcases h with rfl | rfl
  ·rw [if_pos rfl]
   cases hd : x.dir with
   | false =>
    have e1 : wHv f.abs w = (f.abs, wCa 240) := by unfold wHv; rw [hw]; simp only; rw [is_dir hv hx, hd]; rfl
    rw [e1]
    exact ⟨lk_nd f n hwf hn M hf c ca ck hC w na nc hW id v x hw hv hx hk hd, rfl⟩
   | true =>
    have e1 : wHv f.abs w = (f.abs, { names := (x.names.map (·.1)).mergeSort wHw }) := by unfold wHv; rw [hw]; simp only; rw [is_dir hv hx, hd]; unfold wDx; rw [file_is hv hx]; rfl
    rw [e1]
    exact ⟨lk_list f n hwf hn M hf c ca ck hC w na nc hW id v x hw hv hx hk hd, rfl⟩
  rw [if_neg (by decide)]
  have e1 : statS f.abs w = (f.abs, { sid := id, sdir := x.dir, slinks := x.links, ssize := x.data.length }) := by unfold statS; rw [hw]; simp only; rw [file_is hv hx]
  rw [e1]
  exact ⟨lk_stat f n hwf hn M hf c ca ck hC w na nc hW id v x hw hv hx hk, rfl⟩
theorem ob_turns (f : GS) (n : Nat) (hwf : WFS n f.abs) (hn : n ≤ 100) (M : Mem) (hf : f.Ok M) (c : CL) (ca : Option Addr) (ck : Nat) (hC : CallOk M c ca ck) (w : Wy) (na : Option Addr) (nc : Nat) (hW : WyOk M w na nc) (h0 : 0 ≤ c.kind ∧ c.kind ≤ 255) (o : Wy) (oa : Option Addr) (oc : Nat) (hO : WyOk M o oa oc) (hk : c.kind = 7 ∨ c.kind = 9 ∨ c.kind = 10) (g : List By → List By) (hg : (fun b => wAw c b c.data c.a.toNat) = g) (hL : wCm c = true → 0 ≤ c.a ∧ ∀ old, LegK c old c.data c.a.toNat) :
  SpecL Tryz.prog 28 #[gsV f, clV c ca ck, wyV w na nc, wyV o oa oc] M [] (RDoP (wDv f.abs w (wCm c) g)) := by
 cases hl : wCm c with
 | false => exact ob_illegal f n hwf hn M hf c ca ck hC h0 w na nc hW o oa oc hO hl
 | true =>
  cases hw : wCh f.abs w with
  | error e =>
   have e1 : wDv f.abs w true g = (f.abs, wCa e) := by unfold wDv; rw [if_pos rfl, hw]
   rw [e1]
   rcases wGm hwf hw with ⟨h1, h2⟩ | ⟨rfl, id, v, x, h1, h2, h3, h4⟩
   ·exact ob_werr f n hwf hn M hf c ca ck hC h0 w na nc hW o oa oc hO hl e h1 h2
   exact ob_wdir f n hwf hn M hf c ca ck hC h0 w na nc hW o oa oc hO hl id v x h1 h2 h3 h4
  | ok id =>
   obtain ⟨v, x, h1, h2, h3, _, h4⟩ := wHq hwf hw
   cases hz : wAr f.abs w.1 with
   | true =>
    have e1 : wDv f.abs w true g = (f.abs, wCa 170) := by unfold wDv; rw [if_pos rfl, hw]; simp only; rw [if_pos hz]
    rw [e1]
    exact ob_frz f n hwf hn M hf c ca ck hC h0 w na nc hW o oa oc hO hl id v x h1 h2 h3 h4 hk hz
   | false =>
    rw [← hg]
    exact ob_turn f n hwf hn M hf c ca ck hC h0 w na nc hW o oa oc hO hl id v x h1 h2 h3 h4 hk hw hz (hL hl).1 ((hL hl).2 _)
theorem ob_all (f : GS) (n : Nat) (hwf : WFS n f.abs) (hn : n ≤ 100) (M : Mem) (hf : f.Ok M) (c : CL) (ca : Option Addr) (ck : Nat) (hC : CallOk M c ca ck) (w : Wy) (na : Option Addr) (nc : Nat) (hW : WyOk M w na nc) (h0 : 0 ≤ c.kind ∧ c.kind ≤ 255) (o : Wy) (oa : Option Addr) (oc : Nat) (hO : WyOk M o oa oc) (k : Nat) (hk : c.kind = k) (h7 : 7 ≤ k) (h11 : k ≤ 11) : SpecL Tryz.prog 28 #[gsV f, clV c ca ck, wyV w na nc, wyV o oa oc] M [] (RDoP (opI insB f.abs c w o k)) := by
 have hkk : k = 7 ∨ k = 8 ∨ k = 9 ∨ k = 10 ∨ k = 11 := by omega
 rcases hkk with rfl | rfl | rfl | rfl | rfl
 ·show SpecL _ _ _ _ _ (RDoP (wJg f.abs c w))
  replace hk : c.kind = 7 := hk
  have el : (decide (0 ≤ c.a) && decide (c.a ≤ 4096) && decide ((c.data.length : Int) ≤ 4096 - c.a)) = wCm c := by unfold wCm inI; rw [if_pos hk]
  unfold wJg; rw [el]
  refine ob_turns f n hwf hn M hf c ca ck hC w na nc hW h0 o oa oc hO (.inl hk) _ ?_ fun hl => ?_
  ·funext b; unfold wAw; rw [if_neg (by omega), if_neg (by omega)]
  rw [← el] at hl
  simp only [Bool.and_eq_true, decide_eq_true_eq] at hl
  exact ⟨hl.1.1, fun old => ⟨by omega, .inr (.inr ⟨.inl hk, by omega⟩)⟩⟩
 ·show SpecL _ _ _ _ _ (RDoP (wHk f.abs c w))
  replace hk : c.kind = 8 := hk
  have el : (inI c.a 0 4096 && inI c.b 0 4096) = wCm c := by unfold wCm; rw [if_neg (by omega), if_pos hk]
  cases hl : wCm c with
  | false =>
   have e1 : wHk f.abs c w = (f.abs, wCa 2) := by unfold wHk; rw [el, hl]; rfl
   rw [e1]
   exact ob_illegal f n hwf hn M hf c ca ck hC h0 w na nc hW o oa oc hO hl
  | true =>
   cases hw : wCh f.abs w with
   | error e =>
    have e1 : wHk f.abs c w = (f.abs, wCa e) := by unfold wHk; rw [el, hl, if_pos rfl, hw]
    rw [e1]
    rcases wGm hwf hw with ⟨h1, h2⟩ | ⟨rfl, id, v, x, h1, h2, h3, h4⟩
    ·exact ob_werr f n hwf hn M hf c ca ck hC h0 w na nc hW o oa oc hO hl e h1 h2
    exact ob_wdir f n hwf hn M hf c ca ck hC h0 w na nc hW o oa oc hO hl id v x h1 h2 h3 h4
   | ok id =>
    obtain ⟨v, x, h1, h2, h3, _, h4⟩ := wHq hwf hw
    have e1 : wHk f.abs c w = (f.abs, { data := wJn c.a.toNat c.b.toNat x.data }) := by unfold wHk; rw [el, hl, if_pos rfl, hw]; simp only; unfold dataAt; rw [file_is h2 h3]
    rw [e1]
    have hl2 := hl
    rw [← el] at hl2
    unfold inI at hl2
    simp only [Bool.and_eq_true, decide_eq_true_eq] at hl2
    exact ob_read f n hwf hn M hf c ca ck hC h0 w na nc hW o oa oc hO hl id v x h1 h2 h3 h4 hk c.a.toNat c.b.toNat (by omega) (by omega) ⟨by omega, by omega⟩
 ·show SpecL _ _ _ _ _ (RDoP (sizeS f.abs c w))
  replace hk : c.kind = 9 := hk
  have el : inI c.a 0 4096 = wCm c := by unfold wCm; rw [if_neg (by omega), if_neg (by omega), if_pos hk]
  unfold sizeS; rw [el]
  refine ob_turns f n hwf hn M hf c ca ck hC w na nc hW h0 o oa oc hO (.inr (.inl hk)) _ ?_ fun hl => ?_
  ·funext b; unfold wAw; rw [if_pos (by omega)]
  rw [← el] at hl
  unfold inI at hl
  simp only [Bool.and_eq_true, decide_eq_true_eq] at hl
  exact ⟨hl.1, fun old => ⟨hC.big, .inl ⟨hk, hl.1, hl.2⟩⟩⟩
 ·show SpecL _ _ _ _ _ (RDoP (wJp f.abs c w))
  replace hk : c.kind = 10 := hk
  have el : (decide (0 ≤ c.a) && decide (c.a ≤ c.b) && decide (c.b ≤ 4096)) = wCm c := by
   unfold wCm inI; rw [if_neg (by omega), if_neg (by omega), if_neg (by omega), if_pos hk, Bool.eq_iff_iff]
   simp only [Bool.and_eq_true, decide_eq_true_eq]
   omega
  unfold wJp; rw [el]
  refine ob_turns f n hwf hn M hf c ca ck hC w na nc hW h0 o oa oc hO (.inr (.inr hk)) _ ?_ fun hl => ?_
  ·funext b; unfold wAw; rw [if_neg (by omega), if_pos (by omega)]
  rw [← el] at hl
  simp only [Bool.and_eq_true, decide_eq_true_eq] at hl
  exact ⟨hl.1.1, fun old => ⟨hC.big, .inr (.inl ⟨hk, hl.1.1, hl.1.2, hl.2⟩)⟩⟩
 show SpecL _ _ _ _ _ (RDoP (wDd f.abs c w o))
 replace hk : c.kind = 11 := hk
 have el : wGp c = wCm c := by
  have ka := hC.ka
  have kb := hC.kb
  have kc := hC.kc
  unfold wJw at ka kb kc
  unfold wCm inI wGp; rw [if_neg (by omega), if_neg (by omega), if_neg (by omega), if_neg (by omega), Bool.eq_iff_iff]
  simp only [Bool.and_eq_true, decide_eq_true_eq]
  omega
 cases hl : wCm c with
 | false =>
  have e1 : wDd f.abs c w o = (f.abs, wCa 2) := by unfold wDd; rw [el, hl]; rfl
  rw [e1]
  exact ob_illegal f n hwf hn M hf c ca ck hC h0 w na nc hW o oa oc hO hl
 | true =>
  have hl2 := hl
  rw [← el] at hl2
  unfold wGp at hl2
  simp only [Bool.and_eq_true, decide_eq_true_eq] at hl2
  cases hw : wCh f.abs w with
  | error e =>
   have e1 : wDd f.abs c w o = (f.abs, wCa e) := by unfold wDd; rw [el, hl, if_pos rfl, hw]
   rw [e1]
   rcases wGm hwf hw with ⟨h1, h2⟩ | ⟨rfl, id, v, x, h1, h2, h3, h4⟩
   ·exact ob_werr f n hwf hn M hf c ca ck hC h0 w na nc hW o oa oc hO hl e h1 h2
   exact ob_wdir f n hwf hn M hf c ca ck hC h0 w na nc hW o oa oc hO hl id v x h1 h2 h3 h4
  | ok id9 =>
   obtain ⟨v9, x9, k1, k2, k3, _, k4⟩ := wHq hwf hw
   have e0 : wDd f.abs c w o = wDv f.abs o true (wDn c.b.toNat (((wAx x9.data 4096).drop c.a.toNat).take c.c.toNat)) := by unfold wDd; rw [el, hl, if_pos rfl, hw]; simp only; unfold dataAt; rw [file_is k2 k3]
   rw [e0]
   have hab : c.a.toNat + c.c.toNat ≤ 4096 ∧ c.b.toNat + c.c.toNat ≤ 4096 := by omega
   cases hw2 : wCh f.abs o with
   | error e =>
    have e1 : ∀ g, wDv f.abs o true g = (f.abs, wCa e) := fun g => by unfold wDv; rw [if_pos rfl, hw2]
    rw [e1]
    rcases wGm hwf hw2 with ⟨h1, h2⟩ | ⟨rfl, id, v, x, h1, h2, h3, h4⟩
    ·exact sh_werr f n hwf hn M hf c ca ck hC h0 w na nc hW o oa oc hO hl hk _ _ _ (Int.toNat_of_nonneg (by omega)).symm (Int.toNat_of_nonneg (by omega)).symm (Int.toNat_of_nonneg (by omega)).symm hab id9 v9 x9 k1 k2 k3 k4 e h1 h2
    exact sh_wdir f n hwf hn M hf c ca ck hC h0 w na nc hW o oa oc hO hl hk _ _ _ (Int.toNat_of_nonneg (by omega)).symm (Int.toNat_of_nonneg (by omega)).symm (Int.toNat_of_nonneg (by omega)).symm hab id9 v9 x9 k1 k2 k3 k4 id v x h1 h2 h3 h4
   | ok id =>
    obtain ⟨v, x, h1, h2, h3, _, h4⟩ := wHq hwf hw2
    cases hz : wAr f.abs o.1 with
    | true =>
     have e1 : ∀ g, wDv f.abs o true g = (f.abs, wCa 170) := fun g => by unfold wDv; rw [if_pos rfl, hw2]; simp only; rw [if_pos hz]
     rw [e1]
     exact sh_frz f n hwf hn M hf c ca ck hC h0 w na nc hW o oa oc hO hl hk _ _ _ (Int.toNat_of_nonneg (by omega)).symm (Int.toNat_of_nonneg (by omega)).symm (Int.toNat_of_nonneg (by omega)).symm hab id9 v9 x9 k1 k2 k3 k4 id v x h1 h2 h3 h4 hz
    | false =>
     have eg : (fun b => wAw c b (((wAx x9.data 4096).drop c.a.toNat).take c.c.toNat) c.b.toNat) = wDn c.b.toNat (((wAx x9.data 4096).drop c.a.toNat).take c.c.toNat) := by
      funext b; unfold wAw; rw [if_neg (by omega), if_neg (by omega)]
     have hdl : (((wAx x9.data 4096).drop c.a.toNat).take c.c.toNat).length ≤ c.c.toNat := by rw [List.length_take]; omega
     have := sh_turn f n hwf hn M hf c ca ck hC h0 w na nc hW o oa oc hO hl hk _ _ _ (Int.toNat_of_nonneg (by omega)).symm (Int.toNat_of_nonneg (by omega)).symm (Int.toNat_of_nonneg (by omega)).symm hab id9 v9 x9 k1 k2 k3 k4 id v x h1 h2 h3 h4 hw2 hz ⟨by omega, .inr (.inr ⟨.inr hk, by omega⟩)⟩
     rw [eg] at this; exact this
theorem on_all (f : GS) (n : Nat) (hwf : WFS n f.abs) (hn : n ≤ 100) (M : Mem) (hf : f.Ok M) (c : CL) (ca : Option Addr) (ck : Nat) (hC : CallOk M c ca ck) (w : Wy) (na : Option Addr) (nc : Nat) (hW : WyOk M w na nc) (h0 : 0 ≤ c.kind ∧ c.kind ≤ 255) (o : Wy) (oa : Option Addr) (oc : Nat) (hO : WyOk M o oa oc) (hn9 : n ≤ 90) (k : Nat) (hk : c.kind = k) (h12 : 12 ≤ k) (h15 : k ≤ 15) : SpecL Tryz.prog 29 #[gsV f, clV c ca ck, wyV w na nc, wyV o oa oc] M [] (RDoP (opI insB f.abs c w o k)) := by
 have hkk : k = 12 ∨ k = 13 ∨ k = 14 ∨ k = 15 := by omega
 -- a file for link and unlink
 have file : (c.kind = 12 ∨ c.kind = 13) → ∀ e, wCh f.abs w = .error e → SpecL Tryz.prog 29 #[gsV f, clV c ca ck, wyV w na nc, wyV o oa oc] M [] (RDoP (f.abs, wCa e)) := fun hk2 e hw => by
  rcases wGm hwf hw with ⟨h1, h2⟩ | ⟨rfl, id, v, x, h1, h2, h3, h4⟩
  ·exact on_werr f n hwf hn M hf c ca ck hC h0 w na nc hW o oa oc hO (fun h => by omega) e h1 h2
  by_cases hne : w.2 = []
  ·exact on_kindr f n hwf hn M hf c ca ck hC h0 w na nc hW o oa oc hO id v x h1 h2 h3 hne hk2 h4
  exact on_kind f n hwf hn M hf c ca ck hC h0 w na nc hW o oa oc hO id v x h1 h2 h3 hne hk2 h4
 rcases hkk with rfl | rfl | rfl | rfl
 ·show SpecL _ _ _ _ _ (RDoP (wGc f.abs w o))
  replace hk : c.kind = 12 := hk
  cases hw : wCh f.abs w with
  | error e =>
   have e1 : wGc f.abs w o = (f.abs, wCa e) := by unfold wGc; rw [hw]
   rw [e1]; exact file (.inl hk) e hw
  | ok id =>
   obtain ⟨v, x, h1, h2, h3, _, h4⟩ := wHq hwf hw
   have hne := file_ne hwf h1 h2 h3 h4
   cases hfr : wBo f.abs o w.1 none with
   | error e =>
    have e1 : wGc f.abs w o = (f.abs, wCa e) := by unfold wGc; rw [hw]; simp only; rw [hfr]
    rw [e1]; exact ln_err f n hwf hn M hf c ca ck hC h0 w na nc hW o oa oc hO id v x h1 h2 h3 hne hk h4 e hfr
   | ok t =>
    cases hz : wAr f.abs w.1 with
    | true =>
     have e1 : wGc f.abs w o = (f.abs, wCa 170) := by unfold wGc; rw [hw]; simp only; rw [hfr]; simp only; rw [if_pos hz]
     rw [e1]; exact ln_frz f n hwf hn M hf c ca ck hC h0 w na nc hW o oa oc hO id v x h1 h2 h3 hne hk h4 t hfr hz
    | false => exact ln_ok f n hwf hn M hf c ca ck hC h0 w na nc hW o oa oc hO id v x h1 h2 h3 hne hk h4 hw t hfr hz
 ·show SpecL _ _ _ _ _ (RDoP (wDo f.abs w))
  replace hk : c.kind = 13 := hk
  cases hw : wCh f.abs w with
  | error e =>
   have e1 : wDo f.abs w = (f.abs, wCa e) := by unfold wDo; rw [hw]
   rw [e1]; exact file (.inr hk) e hw
  | ok id =>
   obtain ⟨v, x, h1, h2, h3, _, h4⟩ := wHq hwf hw
   have hne := file_ne hwf h1 h2 h3 h4
   cases hz : wAr f.abs w.1 with
   | true =>
    have e1 : wDo f.abs w = (f.abs, wCa 170) := by unfold wDo; rw [hw]; simp only; rw [if_pos hz]
    rw [e1]; exact ul_frz f n hwf hn M hf c ca ck hC h0 w na nc hW o oa oc hO id v x h1 h2 h3 hne hk h4 hz
   | false =>
    by_cases hlk : x.links = 1
    ·exact ul_gone f n hwf hn M hf c ca ck hC h0 w na nc hW o oa oc hO id v x h1 h2 h3 hne hk h4 hw hz hlk
    exact ul_keep f n hwf hn M hf c ca ck hC h0 w na nc hW o oa oc hO id v x h1 h2 h3 hne hk h4 hw hz hlk
 ·show SpecL _ _ _ _ _ (RDoP (wBv insB f.abs w o))
  replace hk : c.kind = 14 := hk
  by_cases hne : w.2 = []
  ·have e1 : wBv insB f.abs w o = (f.abs, wCa 260) := by unfold wBv; rw [if_pos hne]
   rw [e1]; exact on_busy f n hwf hn M hf c ca ck hC h0 w na nc hW o oa oc hO hk hne
  cases hw : wBb f.abs w.1 w.2 with
  | error e =>
   have e1 : wBv insB f.abs w o = (f.abs, wCa e) := by unfold wBv; rw [if_neg hne, hw]
   rw [e1]; exact on_werr f n hwf hn M hf c ca ck hC h0 w na nc hW o oa oc hO (fun _ => hne) e hw (walk_err2 hwf hw)
  | ok id =>
   obtain ⟨v, x, h2, h3, _⟩ := wHr hwf hw
   obtain ⟨d, _, _, _, hpl, _⟩ := wCb hwf hne hw
   cases hfr : wBo f.abs o w.1 (some d) with
   | error e =>
    have e1 : wBv insB f.abs w o = (f.abs, wCa e) := by unfold wBv; rw [if_neg hne, hw]; simp only; rw [hpl]; simp only; rw [hfr]
    rw [e1]; exact rn_err f n hwf hn M hf c ca ck hC h0 w na nc hW o oa oc hO id v x hw h2 h3 hne hk d hpl e hfr
   | ok t =>
    have hd := is_dir (f := f) h2 h3
    cases hdir : x.dir with
    | false =>
     cases hz : wAr f.abs w.1 with
     | true =>
      have e1 : wBv insB f.abs w o = (f.abs, wCa 170) := by unfold wBv; rw [if_neg hne, hw]; simp only; rw [hpl]; simp only; rw [hfr]; simp only; rw [if_neg (by rw [hd, hdir]; simp), if_pos hz]
      rw [e1]; exact rn_frzf f n hwf hn M hf c ca ck hC h0 w na nc hW o oa oc hO id v x hw h2 h3 hne hk hn9 d hpl t hfr hdir hz
     | false => exact rn_okf f n hwf hn M hf c ca ck hC h0 w na nc hW o oa oc hO id v x hw h2 h3 hne hk hn9 d hpl t hfr hdir hz
    | true =>
     cases hin : insB f.abs w.1 t id with
     | true =>
      have e1 : wBv insB f.abs w o = (f.abs, wCa 261) := by unfold wBv; rw [if_neg hne, hw]; simp only; rw [hpl]; simp only; rw [hfr]; simp only; rw [if_pos (by rw [hd, hdir, hin]; rfl)]
      rw [e1]; exact rn_loop f n hwf hn M hf c ca ck hC h0 w na nc hW o oa oc hO id v x hw h2 h3 hne hk hn9 d hpl t hfr hdir hin
     | false =>
      cases hz : wAr f.abs w.1 with
      | true =>
       have e1 : wBv insB f.abs w o = (f.abs, wCa 170) := by unfold wBv; rw [if_neg hne, hw]; simp only; rw [hpl]; simp only; rw [hfr]; simp only; rw [if_neg (by rw [hin]; simp), if_pos hz]
       rw [e1]; exact rn_frzd f n hwf hn M hf c ca ck hC h0 w na nc hW o oa oc hO id v x hw h2 h3 hne hk hn9 d hpl t hfr hdir hin hz
      | false => exact rn_okd f n hwf hn M hf c ca ck hC h0 w na nc hW o oa oc hO id v x hw h2 h3 hne hk hn9 d hpl t hfr hdir hin hz
 show SpecL _ _ _ _ _ (RDoP (wCc f.abs w))
 replace hk : c.kind = 15 := hk
 cases hw : wBb f.abs w.1 w.2 with
 | error e =>
  have e1 : wCc f.abs w = (f.abs, wCa e) := by unfold wCc; rw [hw]
  rw [e1]; exact on_werr f n hwf hn M hf c ca ck hC h0 w na nc hW o oa oc hO (fun h => by omega) e hw (walk_err2 hwf hw)
 | ok id =>
  obtain ⟨v, x, h2, h3, hwv⟩ := wHr hwf hw
  have hd := is_dir (f := f) h2 h3
  have hna : wDx f.abs w.1 id = x.names := by unfold wDx; rw [file_is h2 h3]
  cases hdir : x.dir with
  | false =>
   have e1 : wCc f.abs w = (f.abs, wCa 240) := by unfold wCc; rw [hw]; simp only; rw [hd, hdir]; rfl
   rw [e1]; exact on_kind15 f n hwf hn M hf c ca ck hC h0 w na nc hW o oa oc hO id v x hw h2 h3 (file_ne hwf hw h2 h3 hdir) hk hdir
  | true =>
   by_cases hne : w.2 = []
   ·have e1 : wCc f.abs w = (f.abs, wCa 260) := by unfold wCc; rw [hw]; simp only; rw [hd, hdir, if_pos rfl, if_pos (.inl hne)]
    rw [e1]; exact on_busyr f n hwf hn M hf c ca ck hC h0 w na nc hW o oa oc hO id v x hw h2 h3 hne hk hdir
   by_cases h0n : x.names = []
   ·have h0l : ¬ (w.2 = [] ∨ 0 < (wDx f.abs w.1 id).length) := by rw [hna, h0n]; simp [hne]
    cases hz : wAr f.abs w.1 with
    | true =>
     have e1 : wCc f.abs w = (f.abs, wCa 170) := by unfold wCc; rw [hw]; simp only; rw [hd, hdir, if_pos rfl, if_neg h0l, if_pos hz]
     rw [e1]; exact rm_frz f n hwf hn M hf c ca ck hC h0 w na nc hW o oa oc hO id v x hw h2 h3 hne hk hdir h0n hz
    | false => exact rm_ok f n hwf hn M hf c ca ck hC h0 w na nc hW o oa oc hO id v x hw h2 h3 hne hk hdir h0n hz
   have hp := List.length_pos_iff.2 h0n
   have e1 : wCc f.abs w = (f.abs, wCa 260) := by unfold wCc; rw [hw]; simp only; rw [hd, hdir, if_pos rfl, if_pos (.inr (by rw [hna]; exact hp))]
   rw [e1]; exact on_busyn f n hwf hn M hf c ca ck hC h0 w na nc hW o oa oc hO id v x hw h2 h3 hne hk hdir hp
end Go.Proofs.YtokljhkplbkggaaGreatDoor
