/- Walks: the document's forests: files without one, numbers of calls, bytes turned, directories in others. -/
import Derived.Test.YtokljhkplbkggaaGreatDoorZRfe
namespace Go.Proofs.YtokljhkplbkggaaGreatDoor
set_option linter.unusedVariables false
set_option linter.unusedSectionVars false
set_option linter.unusedSimpArgs false
open Go.RowKit Go.MapKept
def wCs (l : List GF) (id : Int) : List GF := l.filter fun g => !decide (g.id = id)
theorem without_fls (l : List GF) (id : Int) : flsOf' (wCs l id) = wBc id (flsOf' l) := by
 unfold wCs wBc flsOf'
 rw [List.filter_map]; rfl
theorem gfC_snoc (l : List GF) (q : GF) : (l ++ [q]).flatMap gfC = l.flatMap gfC ++ gfC q := by rw [List.flatMap_append, List.flatMap_cons, List.flatMap_nil, List.append_nil]
theorem fcj {M : Mem} {L : Lc} {b : Nat} {l : List GF} {sp : List Value} (h : M b = some (.cells (l.flatMap gfC ++ sp).toArray 93 (0, 0)) ∨ (b, Obj.cells (l.flatMap gfC ++ sp).toArray 93 (0, 0)) ∈ L) {i : Nat} (hi : i < l.length) : ∀ j v, (gfC l[i])[j]? = some v → CJ M L b (0 + ((i : Int)).toNat * 5 + j) v := fun j v hv => by
 rcases h with h | h
 ·obtain ⟨b2, off, e, hx⟩ := wDh wBa (sm_of h) hi (by omega)
  simp only [Option.some.injEq, Addr.mk.injEq] at e
  obtain ⟨rfl, rfl, _⟩ := e
  exact (hx j v hv).cj _
 exact row_cj wBa h hi j v hv
theorem without_spec (l : List GF) (b lc : Nat) (sp : List Value) (M : Mem) (hn : l.length ≤ 1000000) (id : Int) :
  SpecL Tryz.prog 65 #[.slice (some ⟨b, 0, none⟩) l.length lc, .int .u32 id] M [(b, .cells (l.flatMap gfC ++ sp).toArray 93 (0, 0))] (fun u M' L' => ∃ a c, u = .slice a (wCs l id).length c ∧ (wCs l id).length ≤ c ∧ SM M' a ((wCs l id).flatMap gfC) ∧ L' = [(b, .cells (l.flatMap gfC ++ sp).toArray 93 (0, 0))]) := by
 refine wAe (vs := [_, _]) 28 _ Tryz.func65 rfl Tryz.ntmps65 rfl rfl ?_; intro W
 refine wAb (wAa (jp rfl (wAc (jT (wAb (wAa (jp rfl (wAc (jT (wAb (wAb (wAa (jp rfl (wAc (jT (wAk ?_))))))))))))))))
 refine wBr (α := Nat × Value × Lc) (fun z => [(0, .slice (some ⟨b, 0, none⟩) l.length lc), (1, .int .u32 id), (5, z.2.1), (6, .int .i64 z.1)]) (fun _ => M) (fun z => (b, .cells (l.flatMap gfC ++ sp).toArray 93 (0, 0)) :: z.2.2) (fun z => z.1 ≤ l.length ∧ Own z.2.1 z.2.2 93 5 (wCs (l.take z.1) id).length ((wCs (l.take z.1) id).flatMap gfC)) (fun z => l.length - z.1)
  (0, .slice none 0 0, []) (.cons (t := 0) rfl (.cons (t := 1) rfl (.cons (t := 5) rfl (.cons (t := 6) rfl .nil)))) ⟨Nat.zero_le _, Own.nil _ _⟩ (fun _ h => h) ?_
 rintro ⟨i, out, R⟩ hI
 have hi := hI.1
 dsimp only at hi hI ⊢
 refine wAb (wAb (wAa (jp rfl (jp rfl (lq (wCd rfl rfl rfl) ?_)))))
 refine js rfl (fun h10 => ?_) (fun h10 => ?_)
 ·refine wAc (jT (wAf rfl (wAd (jT (wAb (wAk (wAb ?_)))))))
  have hk1 : i < l.length := by omega
  have hex : ∀ L2 : Lc, (∀ p ∈ [(b, Obj.cells (l.flatMap gfC ++ sp).toArray 93 (0, 0))], p ∈ L2) → ∀ j v, (gfC l[i])[j]? = some v → CJ M L2 b (0 + ((i : Int)).toNat * 5 + j) v := fun L2 h2 => fcj (sp := sp) (.inr (h2 _ (by simp))) hk1
  have htk : l.take (i + 1) = l.take i ++ [l[i]] := List.take_succ_eq_append_getElem hk1
  refine wAa (jp rfl (jp rfl (lq (wAp rfl rfl rfl rfl rfl (by omega)) ?_)))
  refine sFa rfl ?_
  refine lq (qLd rfl rfl rfl rfl (hex _ (by simp) 0 _ rfl)) ?_
  refine jp rfl (js rfl (fun h19 => ?_) (fun h19 => ?_))
  ·refine wAc (jT (wAf rfl (wAa (jp rfl (jp rfl (jp rfl (lq (wAp rfl rfl rfl rfl rfl (by omega)) ?_)))))))
   refine lq (wFt (cs := gfC l[i]) rfl rfl rfl rfl rfl (hex _ (by simp))) ?_
   refine wCe rfl rfl (wBt (cs := [_, _, _, _, _]) rfl rfl rfl (by rfl) (by rfl) (by rfl)) ?_; rintro _ _ _ ⟨b25, rfl, rfl, rfl⟩
   have hdl : (wCs (l.take i) id).length ≤ i := Nat.le_trans (List.length_filter_le _ _) (by rw [List.length_take]; omega)
   refine wCe rfl rfl (wDt (R := R) (news := gfC l[i]) rfl rfl rfl rfl hI.2 rfl (fun j v hv => CJ.loc (by rw [Nat.zero_add]; simpa [eC] using hv)) rfl rfl (fun u hu => List.all_eq_true.1 (rfl : ((gfC l[i]).all fun v => v.oneCell') = true) u hu) (by omega) (by omega)) ?_; rintro out3 _ _ ⟨rfl, R4, rfl, hown3, _⟩
   refine jp rfl (wAc (jB (jT (wAa (jp rfl (ja rfl (by omega) ?_))))))
   refine jp rfl (wAc ?_)
   have hd : wCs (l.take (i + 1)) id = wCs (l.take i) id ++ [l[i]] := by
    rw [htk]; unfold wCs; rw [List.filter_append]; simp [h19]
   refine wBu (i + 1, out3, R4) (.cons (t := 0) rfl (.cons (t := 1) rfl (.cons (t := 5) rfl (.cons (t := 6) rfl .nil)))) ⟨by show i + 1 ≤ _; omega, by dsimp only; rw [hd, gfC_snoc, List.length_append]; exact hown3⟩ (by show l.length - (i + 1) < l.length - i; omega) (fun _ h => h.subC fun f => by simp only [List.map_append, List.map_cons, List.map_nil, List.sum_append, List.sum_cons, List.sum_nil]; omega)
  refine wAc (jT (wAh rfl (wAd (jB (jT (wAa (jp rfl (ja rfl (by omega) ?_))))))))
  refine jp rfl (wAc ?_)
  have h20 : l[i].id = id := by simpa using h19
  have hd : wCs (l.take (i + 1)) id = wCs (l.take i) id := by
   rw [htk]; unfold wCs; rw [List.filter_append]; simp [h20]
  refine wBu (i + 1, out, R) (.cons (t := 0) rfl (.cons (t := 1) rfl (.cons (t := 5) rfl (.cons (t := 6) rfl .nil)))) ⟨by show i + 1 ≤ _; omega, by dsimp only; rw [hd]; exact hI.2⟩ (by show l.length - (i + 1) < l.length - i; omega) (fun _ h => h)
 refine wAc (jT (wAh rfl (wBx (jTx (jTx (jBx (jT (wAb (wAa (jp rfl (jp rfl (wAc (jT (wAg ?_))))))))))))))
 obtain rfl : i = l.length := by omega
 rw [List.take_length] at hI
 refine jq_ownY hI.2 (by simp) ?_
 intro M9 a9 c9 hM9 e9 hc9 hs9
 subst e9
 refine jr1 rfl rfl ?_
 exact ⟨a9, c9, rfl, hc9, hs9.mono (newOf_le _ _), rfl⟩
def wCm (c : CL) : Bool := if c.kind = 7 then inI c.a 0 4096 && decide ((c.data.length : Int) ≤ 4096 - c.a) else if c.kind = 8 then inI c.a 0 4096 && inI c.b 0 4096 else if c.kind = 9 then inI c.a 0 4096 else if c.kind = 10 then inI c.b 0 4096 && inI c.a 0 c.b else
 inI c.a 0 4096 && (inI c.b 0 4096 && (inI c.c 0 4096 && (decide (c.a + c.c ≤ 4096) && (decide (c.b + c.c ≤ 4096) && (decide (c.a % 128 = 0) && (decide (c.b % 128 = 0) && decide (c.c % 128 = 0)))))))
set_option maxHeartbeats 4000000 in
theorem wEd (c : CL) (ca : Option Addr) (ck : Nat) (M : Mem) (hC : CallOk M c ca ck) (h0 : 0 ≤ c.kind ∧ c.kind ≤ 255) :
  SpecL Tryz.prog 59 #[clV c ca ck] M [] fun u _ _ => u = .bool (wCm c) := by
 have ka := hC.ka
 have kb := hC.kb
 have kc := hC.kc
 unfold wJw at ka kb kc
 have kbig := hC.big
 refine wAe (vs := [_]) 93 _ Tryz.func59 rfl Tryz.ntmps59 rfl rfl ?_; intro W
 refine wAb (wAa (sBx [_, _, _, _, _, _, _] rfl fun b1 => ?_))
 refine jp rfl (wAc (jT (wAb (wAb (wAa (sFL rfl rfl ?_))))))
 refine wAc (jT (wAk (wAb (wAa (js rfl (fun h6 => ?_) (fun h6 => ?_))))))
 ·refine jp rfl (wAc (jT (wAf rfl (wAb (wAa (sFL rfl rfl ?_))))))
  refine wEk rfl rfl (qCl (wEh c.a 0 4096 M)) (fun h9 => ?_) (fun h9 => ?_)
  ·refine jp rfl (sFL rfl rfl ?_)
   refine lq (wCd rfl rfl rfl) ?_
   refine sFL rfl rfl ?_
   refine ja rfl (by first | omega | (unfold inI at *; simp only [Bool.and_eq_true, decide_eq_true_eq] at *; omega)) ?_
   refine jp rfl (jp rfl (jp rfl (wAc (jT (wAg (jBr (jTr (jr1 rfl rfl ?_))))))))
   congr 1; unfold wCm
   first | (rw [if_pos (by omega)]) | (rw [if_neg (by omega), if_pos (by omega)]) | (rw [if_neg (by omega), if_neg (by omega), if_pos (by omega)]) | (rw [if_neg (by omega), if_neg (by omega), if_neg (by omega), if_pos (by omega)]) | (rw [if_neg (by omega), if_neg (by omega), if_neg (by omega), if_neg (by omega)])
   try simp [*]
  iterate 10 refine jp rfl ?_
  refine wAc (jT (wAg (jBr (jTr (jr1 rfl rfl ?_)))))
  congr 1; unfold wCm
  first | (rw [if_pos (by omega)]) | (rw [if_neg (by omega), if_pos (by omega)]) | (rw [if_neg (by omega), if_neg (by omega), if_pos (by omega)]) | (rw [if_neg (by omega), if_neg (by omega), if_neg (by omega), if_pos (by omega)]) | (rw [if_neg (by omega), if_neg (by omega), if_neg (by omega), if_neg (by omega)])
  try simp [*]
 refine jp rfl (wAc (jT (wAh rfl (wAb (wAa (js rfl (fun h20 => ?_) (fun h20 => ?_)))))))
 ·refine jp rfl (wAc (jT (wAf rfl (wAb (wAa (sFL rfl rfl ?_))))))
  refine wEk rfl rfl (qCl (wEh c.a 0 4096 M)) (fun h23 => ?_) (fun h23 => ?_)
  ·refine jp rfl (sFL rfl rfl ?_)
   refine lq (qCl (wEh c.b 0 4096 M)) ?_
   refine jp rfl (jp rfl (wAc (jT (wAg (jBr (jTr (jr1 rfl rfl ?_)))))))
   congr 1; unfold wCm
   first | (rw [if_pos (by omega)]) | (rw [if_neg (by omega), if_pos (by omega)]) | (rw [if_neg (by omega), if_neg (by omega), if_pos (by omega)]) | (rw [if_neg (by omega), if_neg (by omega), if_neg (by omega), if_pos (by omega)]) | (rw [if_neg (by omega), if_neg (by omega), if_neg (by omega), if_neg (by omega)])
   try simp [*]
  refine jp rfl (jp rfl (jp rfl (jp rfl (jp rfl (jp rfl (wAc (jT (wAg (jBr (jTr (jr1 rfl rfl ?_)))))))))))
  congr 1; unfold wCm
  first | (rw [if_pos (by omega)]) | (rw [if_neg (by omega), if_pos (by omega)]) | (rw [if_neg (by omega), if_neg (by omega), if_pos (by omega)]) | (rw [if_neg (by omega), if_neg (by omega), if_neg (by omega), if_pos (by omega)]) | (rw [if_neg (by omega), if_neg (by omega), if_neg (by omega), if_neg (by omega)])
  try simp [*]
 refine jp rfl (wAc (jT (wAh rfl (wAb (wAa (js rfl (fun h30 => ?_) (fun h30 => ?_)))))))
 ·refine jp rfl (wAc (jT (wAf rfl (wAb (wAa (sFL rfl rfl ?_))))))
  refine lq (qCl (wEh c.a 0 4096 M)) ?_
  refine jp rfl (wAc (jT (wAg (jBr (jTr (jr1 rfl rfl ?_))))))
  congr 1; unfold wCm
  first | (rw [if_pos (by omega)]) | (rw [if_neg (by omega), if_pos (by omega)]) | (rw [if_neg (by omega), if_neg (by omega), if_pos (by omega)]) | (rw [if_neg (by omega), if_neg (by omega), if_neg (by omega), if_pos (by omega)]) | (rw [if_neg (by omega), if_neg (by omega), if_neg (by omega), if_neg (by omega)])
  try simp [*]
 refine jp rfl (wAc (jT (wAh rfl (wAb (wAa (js rfl (fun h35 => ?_) (fun h35 => ?_)))))))
 ·refine jp rfl (wAc (jT (wAf rfl (wAb (wAa (sFL rfl rfl ?_))))))
  refine wEk rfl rfl (qCl (wEh c.b 0 4096 M)) (fun h38 => ?_) (fun h38 => ?_)
  ·refine jp rfl (sFL rfl rfl ?_)
   refine sFL rfl rfl ?_
   refine lq (qCl (wEh c.a 0 c.b M)) ?_
   refine jp rfl (jp rfl (wAc (jT (wAg (jBr (jTr (jr1 rfl rfl ?_)))))))
   congr 1; unfold wCm
   first | (rw [if_pos (by omega)]) | (rw [if_neg (by omega), if_pos (by omega)]) | (rw [if_neg (by omega), if_neg (by omega), if_pos (by omega)]) | (rw [if_neg (by omega), if_neg (by omega), if_neg (by omega), if_pos (by omega)]) | (rw [if_neg (by omega), if_neg (by omega), if_neg (by omega), if_neg (by omega)])
   try simp [*]
  iterate 8 refine jp rfl ?_
  refine wAc (jT (wAg (jBr (jTr (jr1 rfl rfl ?_)))))
  congr 1; unfold wCm
  first | (rw [if_pos (by omega)]) | (rw [if_neg (by omega), if_pos (by omega)]) | (rw [if_neg (by omega), if_neg (by omega), if_pos (by omega)]) | (rw [if_neg (by omega), if_neg (by omega), if_neg (by omega), if_pos (by omega)]) | (rw [if_neg (by omega), if_neg (by omega), if_neg (by omega), if_neg (by omega)])
  try simp [*]
 refine jp rfl (wAc (jT (wAh rfl (wAd (jB (jT (wAb (wAa (sFL rfl rfl ?_)))))))))
 refine wEk rfl rfl (qCl (wEh c.a 0 4096 M)) (fun h48 => ?_) (fun h48 => ?_)
 ·refine jp rfl (sFL rfl rfl ?_)
  refine wEk rfl rfl (qCl (wEh c.b 0 4096 M)) (fun h52 => ?_) (fun h52 => ?_)
  ·refine jp rfl (jp rfl (sFL rfl rfl ?_))
   refine wEk rfl rfl (qCl (wEh c.c 0 4096 M)) (fun h57 => ?_) (fun h57 => ?_)
   ·refine jp rfl (jp rfl (sFL rfl rfl ?_))
    refine sFL rfl rfl ?_
    refine ja rfl (by first | omega | (unfold inI at *; simp only [Bool.and_eq_true, decide_eq_true_eq] at *; omega)) ?_
    refine js rfl (fun h65 => ?_) (fun h65 => ?_)
    ·refine jp rfl (jp rfl (sFL rfl rfl ?_))
     refine sFL rfl rfl ?_
     refine ja rfl (by first | omega | (unfold inI at *; simp only [Bool.and_eq_true, decide_eq_true_eq] at *; omega)) ?_
     refine js rfl (fun h73 => ?_) (fun h73 => ?_)
     ·refine jp rfl (jp rfl (sFL rfl rfl ?_))
      have k48 := h48
      have k52 := h52
      have k57 := h57
      unfold inI at k48 k52 k57
      simp only [Bool.and_eq_true, decide_eq_true_eq] at k48 k52 k57
      refine lq (qRem rfl rfl rfl rfl (by omega) (by omega)) ?_
      refine js rfl (fun h79 => ?_) (fun h79 => ?_)
      ·refine jp rfl (jp rfl (sFL rfl rfl ?_))
       refine lq (qRem rfl rfl rfl rfl (by omega) (by omega)) ?_
       refine js rfl (fun h85 => ?_) (fun h85 => ?_)
       ·refine jp rfl (jp rfl (sFL rfl rfl ?_))
        refine lq (qRem rfl rfl rfl rfl (by omega) (by omega)) ?_
        refine jp rfl (jp rfl (jp rfl (wAc (jT (wAg (jr1 rfl rfl ?_))))))
        congr 1; unfold wCm
        first | (rw [if_pos (by omega)]) | (rw [if_neg (by omega), if_pos (by omega)]) | (rw [if_neg (by omega), if_neg (by omega), if_pos (by omega)]) | (rw [if_neg (by omega), if_neg (by omega), if_neg (by omega), if_pos (by omega)]) | (rw [if_neg (by omega), if_neg (by omega), if_neg (by omega), if_neg (by omega)])
        try simp [*]
       iterate 8 refine jp rfl ?_
       refine wAc (jT (wAg (jr1 rfl rfl ?_)))
       congr 1; unfold wCm
       first | (rw [if_pos (by omega)]) | (rw [if_neg (by omega), if_pos (by omega)]) | (rw [if_neg (by omega), if_neg (by omega), if_pos (by omega)]) | (rw [if_neg (by omega), if_neg (by omega), if_neg (by omega), if_pos (by omega)]) | (rw [if_neg (by omega), if_neg (by omega), if_neg (by omega), if_neg (by omega)])
       try simp [*]
      iterate 14 refine jp rfl ?_
      refine wAc (jT (wAg (jr1 rfl rfl ?_)))
      congr 1; unfold wCm
      first | (rw [if_pos (by omega)]) | (rw [if_neg (by omega), if_pos (by omega)]) | (rw [if_neg (by omega), if_neg (by omega), if_pos (by omega)]) | (rw [if_neg (by omega), if_neg (by omega), if_neg (by omega), if_pos (by omega)]) | (rw [if_neg (by omega), if_neg (by omega), if_neg (by omega), if_neg (by omega)])
      try simp [*]
     iterate 20 refine jp rfl ?_
     refine wAc (jT (wAg (jr1 rfl rfl ?_)))
     congr 1; unfold wCm
     first | (rw [if_pos (by omega)]) | (rw [if_neg (by omega), if_pos (by omega)]) | (rw [if_neg (by omega), if_neg (by omega), if_pos (by omega)]) | (rw [if_neg (by omega), if_neg (by omega), if_neg (by omega), if_pos (by omega)]) | (rw [if_neg (by omega), if_neg (by omega), if_neg (by omega), if_neg (by omega)])
     try simp [*]
    iterate 28 refine jp rfl ?_
    refine wAc (jT (wAg (jr1 rfl rfl ?_)))
    congr 1; unfold wCm
    first | (rw [if_pos (by omega)]) | (rw [if_neg (by omega), if_pos (by omega)]) | (rw [if_neg (by omega), if_neg (by omega), if_pos (by omega)]) | (rw [if_neg (by omega), if_neg (by omega), if_neg (by omega), if_pos (by omega)]) | (rw [if_neg (by omega), if_neg (by omega), if_neg (by omega), if_neg (by omega)])
    try simp [*]
   iterate 36 refine jp rfl ?_
   refine wAc (jT (wAg (jr1 rfl rfl ?_)))
   congr 1; unfold wCm
   first | (rw [if_pos (by omega)]) | (rw [if_neg (by omega), if_pos (by omega)]) | (rw [if_neg (by omega), if_neg (by omega), if_pos (by omega)]) | (rw [if_neg (by omega), if_neg (by omega), if_neg (by omega), if_pos (by omega)]) | (rw [if_neg (by omega), if_neg (by omega), if_neg (by omega), if_neg (by omega)])
   try simp [*]
  iterate 41 refine jp rfl ?_
  refine wAc (jT (wAg (jr1 rfl rfl ?_)))
  congr 1; unfold wCm
  first | (rw [if_pos (by omega)]) | (rw [if_neg (by omega), if_pos (by omega)]) | (rw [if_neg (by omega), if_neg (by omega), if_pos (by omega)]) | (rw [if_neg (by omega), if_neg (by omega), if_neg (by omega), if_pos (by omega)]) | (rw [if_neg (by omega), if_neg (by omega), if_neg (by omega), if_neg (by omega)])
  try simp [*]
 iterate 45 refine jp rfl ?_
 refine wAc (jT (wAg (jr1 rfl rfl ?_)))
 congr 1; unfold wCm
 first | (rw [if_pos (by omega)]) | (rw [if_neg (by omega), if_pos (by omega)]) | (rw [if_neg (by omega), if_neg (by omega), if_pos (by omega)]) | (rw [if_neg (by omega), if_neg (by omega), if_neg (by omega), if_pos (by omega)]) | (rw [if_neg (by omega), if_neg (by omega), if_neg (by omega), if_neg (by omega)])
 try simp [*]
def wAw (c : CL) (old d : List By) (k : Nat) : List By := if c.kind = 9 then wAx old c.a.toNat else if c.kind = 10 then wCr c.a.toNat c.b.toNat old else wDn k d old
theorem punch_zero {b : List By} {k : Nat} : wCr k k b = b := by
 unfold wCr
 rw [Nat.max_self, Nat.sub_self]; simp
theorem punch_mid {b : List By} {k i : Nat} (h1 : k ≤ i) (h2 : i ≤ b.length) : wCr k i b = b.take k ++ List.replicate (i - k) 0 ++ b.drop i := by
 unfold wCr
 rw [Nat.min_eq_left (by omega : k ≤ b.length), Nat.min_eq_left h2, Nat.max_eq_right h1]
theorem punch_next {b : List By} {k i : Nat} (h1 : k ≤ i) (h2 : i < b.length) : (wCr k i b).take i ++ [0] ++ (wCr k i b).drop (i + 1) = wCr k (i + 1) b := by
 rw [punch_mid h1 (by omega), punch_mid (by omega) (by omega)]
 have hl : (b.take k ++ List.replicate (i - k) (0 : By)).length = i := by simp; omega
 rw [List.take_left' hl, List.drop_append, hl, List.drop_of_length_le (by omega), List.nil_append, show i + 1 - i = 1 by omega, List.drop_drop, show i + 1 - k = i - k + 1 by omega, List.replicate_succ']
 simp only [List.append_assoc]
theorem punch_end {b : List By} {k e i : Nat} (h1 : k ≤ i) (h2 : i = k ∨ i ≤ b.length) (h3 : i ≤ e) (h : i = e ∨ b.length ≤ i) : wCr k i b = wCr k e b := by
 rcases h with rfl | h
 ·rfl
 unfold wCr
 rw [Nat.min_eq_right h, Nat.min_eq_right (by omega : b.length ≤ e)]
theorem over_next {b d : List By} {k i : Nat} (hk : k + d.length ≤ b.length) (hi : i < d.length) : (b.take k ++ d.take i ++ b.drop (k + i)).take (k + i) ++ [d[i]] ++ (b.take k ++ d.take i ++ b.drop (k + i)).drop (k + i + 1) = b.take k ++ d.take (i + 1) ++ b.drop (k + (i + 1)) := by
 have hl : (b.take k ++ d.take i).length = k + i := by simp; omega
 rw [List.take_left' hl, List.drop_append, hl, List.drop_of_length_le (by omega), List.nil_append, show k + i + 1 - (k + i) = 1 by omega, List.drop_drop, List.take_succ_eq_append_getElem hi]
 simp [Nat.add_assoc]
theorem changed_size (old : List By) (da : Option Addr) (dc : Nat) (M : Mem) (hx : SM M da (wAn old)) (ho : old.length ≤ 4096) (c : CL) (ca : Option Addr) (ck : Nat) (hC : CallOk M c ca ck) (d : List By) (na : Option Addr) (nc : Nat) (hd : SM M na (wAn d)) (hdl : d.length ≤ 1000000) (k : Nat) (hk : c.kind = 9) (h1 : 0 ≤ c.a ∧ c.a ≤ 4096) :
  SpecL Tryz.prog 62 #[.slice da old.length dc, clV c ca ck, .slice na d.length nc, .int .i64 k] M [] (fun u M' L' => LngP (wAx old c.a.toNat) u M M' L') := by
 have ka := hC.ka
 have kb := hC.kb
 have kc := hC.kc
 unfold wJw at ka kb kc
 refine wAe (vs := [_, _, _, _]) 77 _ Tryz.func62 rfl Tryz.ntmps62 rfl rfl ?_; intro W
 refine wAb (wAa (sBx [_, _, _, _, _, _, _] rfl fun b5 => ?_))
 refine jp rfl (wAc (jT (wAb (wAb (wAa (sFL rfl rfl ?_))))))
 refine wAc (jT (wAk (wAb (wAa (jt rfl (decide_eq_true (by omega)) ?_)))))
 refine jp rfl (wAc (jT (wAf rfl (wAb (wAa (jp rfl (sFL rfl rfl ?_)))))))
 refine wCe rfl rfl (wKh rfl rfl rfl rfl rfl (by kernel_rfl) (by have := wGb old da dc M hx (by omega) c.a.toNat (by omega); rw [Int.toNat_of_nonneg h1.1] at this; exact this)) ?_; rintro _ M _ ⟨_, _, rfl, ⟨b20, rfl, rfl, rfl⟩⟩
 refine jp rfl (wAc (jT (wAg (jBr (jTr (wCv (L' := [(b20, .cells (wAn (wAx old c.a.toNat)).toArray 5 (0, 0))]) (by simp) ?_))))))
 refine jr1 rfl rfl ?_
 exact ⟨b20, rfl, rfl, rfl⟩
set_option maxHeartbeats 2000000 in
theorem changed_punch (old : List By) (da : Option Addr) (dc : Nat) (M : Mem) (hx : SM M da (wAn old)) (ho : old.length ≤ 4096) (c : CL) (ca : Option Addr) (ck : Nat) (hC : CallOk M c ca ck) (d : List By) (na : Option Addr) (nc : Nat) (hd : SM M na (wAn d)) (hdl : d.length ≤ 1000000) (k : Nat) (hk : c.kind = 10) (a b : Nat) (ea : c.a = a) (eb : c.b = b) (h1 : a ≤ b ∧ b ≤ 4096) :
  SpecL Tryz.prog 62 #[.slice da old.length dc, clV c ca ck, .slice na d.length nc, .int .i64 k] M [] (fun u M' L' => LngP (wCr a b old) u M M' L') := by
 have ka := hC.ka
 have kb := hC.kb
 have kc := hC.kc
 unfold wJw at ka kb kc
 have hsz : wAx old old.length = old := by unfold wAx; rw [if_pos (Nat.le_refl _), List.take_length]
 refine wAe (vs := [_, _, _, _]) 77 _ Tryz.func62 rfl Tryz.ntmps62 rfl rfl ?_; intro W
 refine wAb (wAa (sBx [_, _, _, _, _, _, _] rfl fun b5 => ?_))
 refine jp rfl (wAc (jT (wAb (wAb (wAa (sFL rfl rfl ?_))))))
 refine wAc (jT (wAk (wAb (wAa (jf rfl (decide_eq_false (by omega)) ?_)))))
 refine jp rfl (wAc (jT (wAh rfl (wAb (wAa (jt rfl (decide_eq_true (by omega)) ?_))))))
 refine jp rfl (wAc (jT (wAf rfl (wAb (wAa (jp rfl (jp rfl (lq (wCd rfl rfl rfl) ?_))))))))
 refine wCe rfl rfl (hCl (wGb old da dc M hx (by omega) old.length (by omega))) ?_; rintro _ M _ ⟨_, _, rfl, ⟨b26, rfl, rfl, rfl⟩⟩
 rw [hsz]
 refine jp rfl (wAc (jT (wAb (wAb (wAa (sFL rfl rfl ?_))))))
 refine jp rfl (wAc (jT (wAk ?_)))
 refine wBr (α := Nat) (fun i => [(5, pt b5), (9, .slice (some ⟨b26, 0, none⟩) old.length old.length), (10, .int .i64 i)]) (fun _ => M) (fun i => [(b26, .cells (wAn (wCr a i old)).toArray 5 (0, 0)), (b5, .cells (wDa c ca ck).toArray 45 (0, 0))]) (fun i => a ≤ i ∧ (i = a ∨ i ≤ old.length) ∧ i ≤ b) (fun i => b - i)
  a (.cons (t := 5) rfl (.cons (t := 9) rfl (Keep.ceq (t := 10) rfl (by rw [ea]) Keep.nil))) ⟨Nat.le_refl _, .inl rfl, h1.1⟩ (fun _ h => by rw [punch_zero]; exact h) ?_
 rintro i ⟨hi1, hi2, hi3⟩
 try dsimp only at hi1 hi2 hi3 ⊢
 refine wAb (wAb (wAa (jp rfl (sFL rfl rfl ?_))))
 refine js rfl (fun h32 => ?_) (fun h32 => ?_)
 ·refine jp rfl (jp rfl (jp rfl (lq (wCd rfl rfl rfl) ?_)))
  refine js rfl (fun h37 => ?_) (fun h37 => ?_)
  ·refine jp rfl (wAc (jT (wAf rfl (wAd (jT (wAb (wAk (wAa (jp rfl (jp rfl (lq (wAp rfl rfl rfl rfl rfl (by omega)) ?_)))))))))))
   refine jl_s rfl (wBw (l2 := wAn (wCr a (i + 1) old)) rfl rfl rfl rfl rfl rfl rfl (Nat.ble_eq_true_of_le (by rw [wBd, wLg, Int.toNat_natCast]; simp only [List.length_cons, List.length_nil]; omega)) (by have := bc_store1 (b := wCr a i old) (k := i) (x := 0); rw [punch_next (by omega) (by omega)] at this; exact this)) ?_; rintro _ _ _ ⟨rfl, rfl⟩
   refine wAc (jB (jT (wAa (jp rfl (ja rfl (by omega) ?_)))))
   refine jp rfl (wAc ?_)
   refine wBu (i + 1) (.cons (t := 5) rfl (.cons (t := 9) rfl (.cons (t := 10) rfl .nil))) ⟨by omega, .inr (by omega), by omega⟩ (by omega) (fun _ h => h)
  refine jp rfl (wAc (jT (wAh rfl (wBx (jTx (jTx (jBx (jT (wAb (wAa (jp rfl (jp rfl (wAc (jT (wAg (jBr (jTr ?_)))))))))))))))))
  rw [punch_end (e := b) hi1 hi2 hi3 (by omega)]
  refine wCv (L' := [(b26, .cells (wAn (wCr a b old)).toArray 5 (0, 0))]) (by simp) ?_
  refine jr1 rfl rfl ?_
  exact ⟨b26, by rw [show (wCr a b old).length = old.length by unfold wCr; simp; omega], rfl, rfl⟩
 refine jp rfl (jp rfl (jp rfl (jp rfl (jp rfl (jp rfl (wAc (jT (wAh rfl (wBx (jTx (jTx (jBx (jT (wAb (wAa (jp rfl (jp rfl (wAc (jT (wAg (jBr (jTr ?_))))))))))))))))))))))
 rw [punch_end (e := b) hi1 hi2 hi3 (by omega)]
 refine wCv (L' := [(b26, .cells (wAn (wCr a b old)).toArray 5 (0, 0))]) (by simp) ?_
 refine jr1 rfl rfl ?_
 exact ⟨b26, by rw [show (wCr a b old).length = old.length by unfold wCr; simp; omega], rfl, rfl⟩
theorem changed_none (old : List By) (da : Option Addr) (dc : Nat) (M : Mem) (hx : SM M da (wAn old)) (ho : old.length ≤ 4096) (c : CL) (ca : Option Addr) (ck : Nat) (hC : CallOk M c ca ck) (d : List By) (na : Option Addr) (nc : Nat) (hd : SM M na (wAn d)) (hdl : d.length ≤ 1000000) (k : Nat) (hk : c.kind = 7 ∨ c.kind = 11) (h0 : d = []) :
  SpecL Tryz.prog 62 #[.slice da old.length dc, clV c ca ck, .slice na d.length nc, .int .i64 k] M [] (fun u M' L' => LngP (wDn k d old) u M M' L') := by
 have ka := hC.ka
 have kb := hC.kb
 have kc := hC.kc
 unfold wJw at ka kb kc
 have hd0 : d.length = 0 := by rw [h0]; rfl
 have hsz : wAx old old.length = old := by unfold wAx; rw [if_pos (Nat.le_refl _), List.take_length]
 refine wAe (vs := [_, _, _, _]) 77 _ Tryz.func62 rfl Tryz.ntmps62 rfl rfl ?_; intro W
 refine wAb (wAa (sBx [_, _, _, _, _, _, _] rfl fun b5 => ?_))
 refine jp rfl (wAc (jT (wAb (wAb (wAa (sFL rfl rfl ?_))))))
 refine wAc (jT (wAk (wAb (wAa (jf rfl (decide_eq_false (by omega)) ?_)))))
 refine jp rfl (wAc (jT (wAh rfl (wAb (wAa (jf rfl (decide_eq_false (by omega)) ?_))))))
 refine jp rfl (wAc (jT (wAh rfl (wAd (jB (jT (wAb (wAb (wAa (jp rfl (lq (wCd rfl rfl rfl) ?_)))))))))))
 refine jt rfl (decide_eq_true (by omega)) ?_
 refine wAc (jT (wAf rfl (wAb (wAa (jp rfl (jp rfl (lq (wCd rfl rfl rfl) ?_)))))))
 refine wCe rfl rfl (hCl (wGb old da dc M hx (by omega) old.length (by omega))) ?_; rintro _ M _ ⟨_, _, rfl, ⟨b26, rfl, rfl, rfl⟩⟩
 rw [hsz]
 refine jp rfl (wAc (jT (wAg (jTr (wCv (L' := [(b26, .cells (wAn old).toArray 5 (0, 0))]) (by simp) ?_)))))
 refine jr1 rfl rfl ?_
 unfold wDn; rw [if_pos h0]; exact ⟨b26, rfl, rfl, rfl⟩
set_option maxHeartbeats 2000000 in
theorem changed_write (old : List By) (da : Option Addr) (dc : Nat) (M : Mem) (hx : SM M da (wAn old)) (ho : old.length ≤ 4096) (c : CL) (ca : Option Addr) (ck : Nat) (hC : CallOk M c ca ck) (d : List By) (na : Option Addr) (nc : Nat) (hd : SM M na (wAn d)) (hdl : d.length ≤ 1000000) (k : Nat) (hk : c.kind = 7 ∨ c.kind = 11) (h0 : d ≠ []) (h1 : k + d.length ≤ 4096) :
  SpecL Tryz.prog 62 #[.slice da old.length dc, clV c ca ck, .slice na d.length nc, .int .i64 k] M [] (fun u M' L' => LngP (wDn k d old) u M M' L') := by
 have ka := hC.ka
 have kb := hC.kb
 have kc := hC.kc
 unfold wJw at ka kb kc
 have hd0 : 0 < d.length := List.length_pos_iff.2 h0
 obtain ⟨mx, hmx⟩ : ∃ mx, mx = Nat.max old.length (k + d.length) := ⟨_, rfl⟩
 have hmx2 : mx = max old.length (k + d.length) := hmx
 clear hmx
 have hbl : (wAx old (mx)).length = mx := wAq
 have hcl : ∀ i, i ≤ d.length → ((wAx old (mx)).take k ++ d.take i ++ (wAx old (mx)).drop (k + i)).length = mx := fun i hi => by simp only [List.length_append, List.length_take, List.length_drop, hbl]; omega
 refine wAe (vs := [_, _, _, _]) 77 _ Tryz.func62 rfl Tryz.ntmps62 rfl rfl ?_; intro W
 refine wAb (wAa (sBx [_, _, _, _, _, _, _] rfl fun b5 => ?_))
 refine jp rfl (wAc (jT (wAb (wAb (wAa (sFL rfl rfl ?_))))))
 refine wAc (jT (wAk (wAb (wAa (jf rfl (decide_eq_false (by omega)) ?_)))))
 refine jp rfl (wAc (jT (wAh rfl (wAb (wAa (jf rfl (decide_eq_false (by omega)) ?_))))))
 refine jp rfl (wAc (jT (wAh rfl (wAd (jB (jT (wAb (wAb (wAa (jp rfl (lq (wCd rfl rfl rfl) ?_)))))))))))
 refine jf rfl (decide_eq_false (by omega)) ?_
 refine wAc (jT (wAh rfl (wAd (jT (wAb (wAa (jp rfl (jp rfl (lq (wCd rfl rfl rfl) ?_)))))))))
 refine jp rfl (jp rfl (lq (wCd rfl rfl rfl) ?_))
 refine ja rfl (by omega) ?_
 refine lq (qEq (v' := .int .i64 ((mx : Nat) : Int)) (qMax rfl rfl rfl rfl) (by congr 1; omega)) ?_
 refine wCe rfl rfl (hCl (wGb old da dc M hx (by omega) (mx) (by omega))) ?_; rintro _ M _ ⟨_, _, rfl, ⟨b60, rfl, rfl, rfl⟩⟩
 rw [hbl]
 refine jp rfl (wAc (jT (wAb (wAb (wAa (jp rfl (wAc (jT (wAk ?_)))))))))
 refine wBr (α := Nat) (fun i => [(2, .slice na d.length nc), (3, .int .i64 k), (11, .slice (some ⟨b60, 0, none⟩) (mx) (mx)), (12, .int .i64 i)]) (fun _ => M) (fun i => [(b60, .cells (wAn ((wAx old (mx)).take k ++ d.take i ++ (wAx old (mx)).drop (k + i))).toArray 5 (0, 0))]) (fun i => i ≤ d.length) (fun i => d.length - i)
  0 (.cons (t := 2) rfl (.cons (t := 3) rfl (.cons (t := 11) rfl (.cons (t := 12) rfl .nil)))) (Nat.zero_le _) (fun _ h => by rw [List.take_zero, List.append_nil, Nat.add_zero, List.take_append_drop]; exact h.fewer (by simp)) ?_
 intro i hi
 try dsimp only at hi ⊢
 refine wAb (wAb (wAa (jp rfl (jp rfl (lq (wCd rfl rfl rfl) ?_)))))
 refine js rfl (fun h64 => ?_) (fun h64 => ?_)
 ·refine wAc (jT (wAf rfl (wAd (jT (wAb (wAk (wAa (jp rfl (jp rfl (jp rfl (ja rfl (by omega) ?_)))))))))))
  refine jp rfl (jp rfl ?_)
  have hk1 : i < d.length := by omega
  obtain ⟨qb, qo, e0, hc⟩ := byte_at hd hk1
  refine lq (wAp rfl rfl rfl rfl e0 (by omega)) ?_
  refine lq (qLd rfl rfl rfl rfl (hc.cj _)) ?_
  refine lq (wAp rfl rfl rfl rfl rfl (by omega)) ?_
  refine jl_s rfl (wBw (l2 := wAn ((wAx old (mx)).take k ++ d.take (i + 1) ++ (wAx old (mx)).drop (k + (i + 1)))) rfl rfl rfl rfl rfl rfl rfl (Nat.ble_eq_true_of_le (by rw [wBd, hcl i (by omega)]; simp only [List.length_cons, List.length_nil]; omega)) (by have := bc_store (b := (wAx old (mx)).take k ++ d.take i ++ (wAx old (mx)).drop (k + i)) (k := k + i) (x := d[i]); rw [over_next (by rw [hbl]; omega) hk1] at this; rw [← this]; congr 3 <;> omega)) ?_; rintro _ _ _ ⟨rfl, rfl⟩
  refine wAc (jB (jT (wAa (jp rfl (ja rfl (by omega) ?_)))))
  refine jp rfl (wAc ?_)
  refine wBu (i + 1) (.cons (t := 2) rfl (.cons (t := 3) rfl (.cons (t := 11) rfl (.cons (t := 12) rfl .nil)))) (by omega) (by omega) (fun _ h => h)
 refine wAc (jT (wAh rfl (wBx (jTx (jTx (jBx (jT (wAb (wAa (jp rfl (jp rfl (wAc (jT (wAg (jr1 rfl rfl ?_)))))))))))))))
 obtain rfl : i = d.length := by omega
 have e : (wAx old (mx)).take k ++ d.take d.length ++ (wAx old (mx)).drop (k + d.length) = wDn k d old := by unfold wDn wKq; rw [if_neg h0, List.take_length, hmx2]
 have hl := hcl d.length (Nat.le_refl _)
 rw [e] at hl ⊢
 exact ⟨b60, by rw [hl], rfl, rfl⟩
theorem changed_wr (old : List By) (da : Option Addr) (dc : Nat) (M : Mem) (hx : SM M da (wAn old)) (ho : old.length ≤ 4096) (c : CL) (ca : Option Addr) (ck : Nat) (hC : CallOk M c ca ck) (d : List By) (na : Option Addr) (nc : Nat) (hd : SM M na (wAn d)) (hdl : d.length ≤ 1000000) (k : Nat) (hk : c.kind = 7 ∨ c.kind = 11) (h1 : k + d.length ≤ 4096) : SpecL Tryz.prog 62 #[.slice da old.length dc, clV c ca ck, .slice na d.length nc, .int .i64 k] M [] (fun u M' L' => LngP (wDn k d old) u M M' L') := by
 by_cases h0 : d = []
 ·exact changed_none old da dc M hx ho c ca ck hC d na nc hd hdl k hk h0
 exact changed_write old da dc M hx ho c ca ck hC d na nc hd hdl k hk h0 h1
set_option maxHeartbeats 2000000 in
theorem within_step (v : GV) (n : Nat) (hwv : WFV n v.abs) (hn : n ≤ 90) (M : Mem) (hv : v.Ok M) (t d : Int) (x : PF) (hx : wAm d v.abs.files = some x) (dep : Nat) (hdep : dep < 100) (ih : ∀ s k y, wAm s x.names = some k → wAm k v.abs.files = some y → y.dir = true → SpecL Tryz.prog 63 #[.agg (gvC v).toArray, .int .u32 t, .int .u32 k, .int .i64 ((dep : Int) + 1)] M [] fun u _ _ => u = .bool (insD v.abs.files t k)) :
  SpecL Tryz.prog 63 #[.agg (gvC v).toArray, .int .u32 t, .int .u32 d, .int .i64 dep] M [] fun u _ _ => u = .bool (insD v.abs.files t d) := by
 obtain ⟨j, hj, ej, hji, hjx⟩ := GV.file hx
 obtain ⟨fb, fo, efa, hfx⟩ := wDh wBa hv.fa hj (by omega)
 obtain ⟨g, hg⟩ : ∃ g, v.files[j] = g := ⟨_, rfl⟩
 rw [hg] at hfx hji hjx
 subst hjx
 have hgk : g.Ok M := hg ▸ hv.all _ (List.getElem_mem hj)
 have hnn : (wBg g.x.names).Nodup := hwv.wf.nmd _ _ hx
 have hn32 := (hwv.wf.len _ _ hx).2
 have hnsl := wCk hgk
 have hfl := wEc hwv
 refine wAe (vs := [_, _, _, _]) 58 _ Tryz.func63 rfl Tryz.ntmps63 rfl rfl ?_; intro W
 refine wAb (wAa (sBx [_, _, _, _] rfl fun b4 => ?_))
 refine jp rfl (wAc (jT (wAb (wAb (wAa (jp rfl (jp rfl (js rfl (fun h13 => ?_) (fun h13 => ?_)))))))))
 ·refine wAc (jT (wAf rfl (wAb (wAa (jp rfl (wAc (jT (wAg (jTr (jr1 rfl rfl ?_))))))))))
  rw [wJb (by rw [show t = d by omega]; exact .here)]
 refine wAc (jT (wAh rfl (wAd (jT (wAb (wCw [(0, true), (1, true), (2, true), (3, true), (4, true), (5, true), (6, true), (7, false), (8, false)] _ (fun _ h => h) ?_))))))
 refine dFa rfl rfl ?_
 refine dLd rfl rfl ?_
 refine dLL rfl rfl ?_
 refine dp rfl rfl ?_
 refine dq rfl (qEq (v' := .int .i64 (j : Int)) (qCl (rat_spec v d M hv.fa (by omega))) (by rw [ej])) ?_
 refine dq rfl (wAp rfl rfl rfl rfl efa (by omega)) ?_
 refine dq rfl (wFt (cs := gfC g) rfl rfl rfl rfl rfl (fun j u hu => (hfx j u hu).cj _)) ?_
 refine wJf rfl rfl rfl (wGe rfl rfl) ?_; rintro _ _ _ ⟨b9, rfl, rfl, rfl⟩
 refine wHf (MLe.refl _) (fun _ h => List.mem_cons_of_mem _ h) (by first | exact MLe.refl _ | assumption) (by simp) ?_
 refine jd_s rfl rfl (wBw rfl rfl rfl rfl rfl rfl rfl rfl) ?_; rintro _ _ _ ⟨rfl, rfl⟩
 refine wHf (MLe.refl _) (fun _ h => List.mem_cons_of_mem _ h) (by first | exact MLe.refl _ | assumption) (by simp) ?_
 refine wAs (jPn (jT (wAb (wAb (wAa (jp rfl (wAc (jT (wAk ?_)))))))))
 refine wBr (α := Nat) (fun i => [(1, .int .u32 t), (3, .int .i64 dep), (4, pt b4), (9, pt b9), (10, .int .i64 i)]) (fun _ => M) (fun _ => [(b9, .cells (gfC g).toArray 93 (0, 0)), (b4, .cells (gvC v).toArray 96 (0, 0))]) (fun i => i ≤ g.ns.length ∧ ∀ q ∈ g.ns.take i, ¬ ((∃ y, wAm q.2 v.abs.files = some y ∧ y.dir = true) ∧ Ins v.abs.files t q.2)) (fun i => g.ns.length - i)
  0 (.cons (t := 1) rfl (.cons (t := 3) rfl (.cons (t := 4) rfl (.cons (t := 9) rfl (.cons (t := 10) rfl .nil))))) ⟨Nat.zero_le _, fun _ h => by simp at h⟩ (fun _ h => h) ?_
 rintro i ⟨hi, hno⟩
 try dsimp only at hi hno ⊢
 refine wAb (wAb (wAa (jp rfl (sFL rfl rfl ?_))))
 refine lq (wCd rfl rfl rfl) ?_
 refine js rfl (fun h25 => ?_) (fun h25 => ?_)
 ·refine jp rfl (jp rfl (jt rfl (decide_eq_true (by omega)) ?_))
  refine jp rfl (wAc (jT (wAf rfl (wAd (jT (wAb (wAk (wAb (wCw [(0, true), (1, true), (2, true), (3, true), (4, true), (5, true), (6, true), (7, true), (8, true), (9, true), (10, true), (11, true), (12, true), (13, true), (14, true), (15, true), (16, true), (17, true), (18, true), (19, true), (20, true), (21, true), (22, true), (23, true), (24, true), (25, true)] _ (fun _ h => h) ?_)))))))))
  refine dFa rfl rfl ?_
  refine dLd rfl rfl ?_
  refine dLL rfl rfl ?_
  refine dFa rfl rfl ?_
  refine dLd rfl rfl ?_
  refine dp rfl rfl ?_
  have hk1 : i < g.ns.length := by omega
  obtain ⟨eb, eo, ee, hex⟩ := wDh eC_len hgk.na hk1 (by omega)
  obtain ⟨s, hs⟩ : ∃ s, g.ns[i].1 = s := ⟨_, rfl⟩
  obtain ⟨k, hk⟩ : ∃ k, g.ns[i].2 = k := ⟨_, rfl⟩
  have hgs : wAm s g.x.names = some k := by rw [← wHt hgk hnn]; rw [← hk]; exact getA_at (by rw [(hgk.pm.map (·.1)).nodup_iff]; exact hnn) hk1 hs
  obtain ⟨y, hy⟩ := hwv.wf.tgt _ _ _ _ hx hgs
  obtain ⟨j2, hj2, ej2, hji2, hjx2⟩ := GV.file hy
  obtain ⟨f2, o2, e2, hf2⟩ := wDh wBa hv.fa hj2 (by omega)
  have e12 : some (⟨fb, fo, none⟩ : Addr) = some ⟨f2, o2, none⟩ := by rw [← efa, ← e2]
  simp only [Option.some.injEq, Addr.mk.injEq] at e12
  obtain ⟨rfl, rfl, _⟩ := e12
  have hdy : v.files[j2].x.dir = y.dir := by rw [hjx2]
  refine dq rfl (wAp rfl rfl rfl rfl ee (by omega)) ?_
  refine dFa rfl rfl ?_
  refine dq rfl (qEq (qLd rfl rfl rfl rfl ((hex 1 _ rfl).cj _)) (v' := .int .u32 k) (by rw [hk])) ?_
  refine dq rfl (qEq (v' := .int .i64 (j2 : Int)) (qCl (rat_spec v k M hv.fa (by omega))) (by rw [ej2])) ?_
  refine dq rfl (wAp rfl rfl rfl rfl efa (by omega)) ?_
  refine dFa rfl rfl ?_
  refine jd_qb rfl rfl rfl (qEq (qLd rfl rfl rfl rfl ((hf2 1 _ rfl).cj _)) (v' := .bool y.dir) (by rw [hdy])) (fun h44 => ?_) (fun h44 => ?_)
  ·refine dp rfl rfl ?_
   refine dLL rfl rfl ?_
   refine dp rfl rfl ?_
   refine dFa rfl rfl ?_
   refine dLd rfl rfl ?_
   refine dp rfl rfl ?_
   refine dq rfl (wAp rfl rfl rfl rfl ee (by omega)) ?_
   refine dFa rfl rfl ?_
   refine dq rfl (qEq (qLd rfl rfl rfl rfl ((hex 1 _ rfl).cj _)) (v' := .int .u32 k) (by rw [hk])) ?_
   refine dp rfl rfl ?_
   refine da rfl rfl (by omega) ?_
   refine jd_qb rfl rfl rfl (qCl (ih s k y hgs hy h44)) (fun h56 => ?_) (fun h56 => ?_)
   ·refine dp rfl rfl ?_
    refine wAs (jPn (jT (wAf rfl (wAb (wAa (jp rfl (wAc (jT (wAg (jBr (jTr (jTr (jBr (jTr (jr1 rfl rfl ?_)))))))))))))))
    rw [wJb (.down hx hgs hy h44 (Classical.byContradiction fun h => by rw [insD_no h] at h56; cases h56))]
   refine dp rfl rfl ?_
   refine wAs (jPn (jT (wAh rfl (wAd (jB (jT (wAa (jp rfl (ja rfl (by omega) ?_)))))))))
   refine jp rfl (wAc (wBu (i + 1) (.cons (t := 1) rfl (.cons (t := 3) rfl (.cons (t := 4) rfl (.cons (t := 9) rfl (.cons (t := 10) rfl .nil))))) ⟨by omega, fun q hq => ?_⟩ (by omega) (fun _ h => h)))
   rw [List.take_succ_eq_append_getElem hk1] at hq
   rcases List.mem_append.1 hq with hq | hq
   ·exact hno q hq
   rw [List.mem_singleton.1 hq, hk]
   rintro ⟨⟨y2, h1, h2⟩, h3⟩
   rw [hy] at h1; cases h1
   rw [wJb h3] at h56; cases h56
  iterate 13 refine dp rfl rfl ?_
  refine wAs (jPn (jT (wAh rfl (wAd (jB (jT (wAa (jp rfl (ja rfl (by omega) ?_)))))))))
  refine jp rfl (wAc (wBu (i + 1) (.cons (t := 1) rfl (.cons (t := 3) rfl (.cons (t := 4) rfl (.cons (t := 9) rfl (.cons (t := 10) rfl .nil))))) ⟨by omega, fun q hq => ?_⟩ (by omega) (fun _ h => h)))
  rw [List.take_succ_eq_append_getElem hk1] at hq
  rcases List.mem_append.1 hq with hq | hq
  ·exact hno q hq
  rw [List.mem_singleton.1 hq, hk]
  rintro ⟨⟨y2, h1, h2⟩, h3⟩
  rw [hy] at h1; cases h1
  rw [h44] at h2; cases h2
 refine jp rfl (jp rfl (jp rfl (jp rfl (wAc (jT (wAh rfl (wBx (jTx (jTx (jBx (jT (wAb (wAa (jp rfl (wAc (jT (wAg (jr1 rfl rfl ?_))))))))))))))))))
 obtain rfl : i = g.ns.length := by omega
 rw [List.take_length] at hno
 rw [insD_no]
 intro hi
 cases hi with
 | here => exact h13 rfl
 | down a1 a2 a3 a4 a5 =>
  rw [hx] at a1; cases a1
  rw [← wHt hgk hnn] at a2
  exact hno _ (wDy a2) ⟨⟨_, a3, a4⟩, a5⟩
theorem wKo (v : GV) (n : Nat) (hwv : WFV n v.abs) (hn : n ≤ 90) (M : Mem) (hv : v.Ok M) (t d : Int) (x : PF) (hx : wAm d v.abs.files = some x) :
  SpecL Tryz.prog 63 #[.agg (gvC v).toArray, .int .u32 t, .int .u32 d, .int .i64 0] M [] fun u _ _ => u = .bool (insD v.abs.files t d) := by
 obtain ⟨r, hr⟩ := hwv.wf.rank
 have key : ∀ (m : Nat) (d : Int) (x : PF) (anc : List Int), r d < m → wAm d v.abs.files = some x → anc.Nodup → (∀ a ∈ anc, a ∈ wBg v.abs.files ∧ r d < r a) → SpecL Tryz.prog 63 #[.agg (gvC v).toArray, .int .u32 t, .int .u32 d, .int .i64 (anc.length : Int)] M [] fun u _ _ => u = .bool (insD v.abs.files t d) := by
  intro m
  induction m with
  | zero => intro d x anc h; omega
  | succ m ih =>
   intro d x anc h hx ha hb
   have hlen : anc.length ≤ n + 1 := wLi (n + 1) anc ha fun a hm => by
    obtain ⟨p, hp, e⟩ := List.mem_map.1 (hb a hm).1
    obtain ⟨h1, h2, _⟩ := hwv.rng a p.2 (by rw [← e]; exact wFf hwv.wf.nd hp)
    have := hwv.most
    omega
   refine within_step v n hwv hn M hv t d x hx anc.length (by omega) fun s k y hs hy hyd => ?_
   have hrk := hr d x s k y hx hs hy hyd
   have h2 := ih k y (d :: anc) (by omega) hy (List.nodup_cons.2 ⟨fun hm => by have := (hb d hm).2; omega, ha⟩) (fun a hm => by
    rcases List.mem_cons.1 hm with rfl | hm
    ·exact ⟨List.mem_map.2 ⟨_, wDy hx, rfl⟩, hrk⟩
    exact ⟨(hb a hm).1, Nat.lt_trans hrk (hb a hm).2⟩)
   exact h2
 exact key _ d x [] (Nat.lt_succ_self _) hx List.nodup_nil (fun _ h => by cases h)
end Go.Proofs.YtokljhkplbkggaaGreatDoor
