/- Walks: is a directory in another one? -/
import Derived.Test.YtdjaehgadehnfaaGreatDoorHo
namespace Go.Proofs.YtdjaehgadehnfaaGreatDoor
set_option linter.unusedVariables false
set_option linter.unusedSimpArgs false
open Go.RowKit Go.MapKept

/-- what is left of a range over a directory's names -/
def LeftN (fs : Fls) (t : Int) (names : List (Str × Int)) (rem : List (Str × Value)) : Prop := (∀ q ∈ rem, ∃ k, q.2 = .int .u32 k ∧ getA q.1 names = some k) ∧ ∀ s k, getA s names = some k → (∃ u, (s, u) ∈ rem) ∨ ¬ ((∃ y, getA k fs = some y ∧ y.dir = true) ∧ Ins fs t k)
theorem LeftN.start {fs : Fls} {t : Int} {names : List (Str × Int)} (hn : (keysA names).Nodup) : LeftN fs t names (names.map fun q => (q.1, .int .u32 q.2)) := by
  refine ⟨fun q hq => ?_, fun s k h => .inl ⟨_, List.mem_map.2 ⟨(s, k), getA_mem h, rfl⟩⟩⟩
  obtain ⟨p, hp, rfl⟩ := List.mem_map.1 hq
  exact ⟨p.2, rfl, getA_of hn hp⟩
theorem LeftN.step {fs : Fls} {t : Int} {names : List (Str × Int)} {rem rem' : List (Str × Value)} {s : Str} {k : Int} (h : LeftN fs t names rem) (hp : rem.Perm ((s, .int .u32 k) :: rem')) (hk : getA s names = some k) (hno : ¬ ((∃ y, getA k fs = some y ∧ y.dir = true) ∧ Ins fs t k)) : LeftN fs t names rem' := by
  refine ⟨fun q hq => h.1 q (hp.mem_iff.2 (List.mem_cons_of_mem _ hq)), fun s2 k2 h2 => ?_⟩
  rcases h.2 s2 k2 h2 with ⟨u, hu⟩ | hu
  · rcases List.mem_cons.1 (hp.mem_iff.1 hu) with e | hu
    · have e1 : s2 = s := congrArg Prod.fst e
      rw [e1, hk] at h2; cases h2; exact .inr hno
    · exact .inl ⟨u, hu⟩
  · exact .inr hu
theorem LeftN.done {fs : Fls} {t d : Int} {x : PF} (h : LeftN fs t x.names []) (hx : getA d fs = some x) (hd : ¬ t = d) : ¬ Ins fs t d := by
  intro hi
  cases hi with
  | here => exact hd rfl
  | down h1 h2 h3 h4 h5 =>
    rw [hx] at h1; cases h1
    rcases h.2 _ _ h2 with ⟨u, hu⟩ | hu
    · cases hu
    · exact hu ⟨⟨_, h3, h4⟩, h5⟩

set_option maxHeartbeats 2000000 in
theorem inside_step (v : CV) (hv : v.Ok) (hwb : WFB (absF v.files)) (t d : Int) (x : CF) (hx : getA d v.files = some x) (hd : x.pf.dir = true) (M : Mem) (hV : ∀ p ∈ v.own, M p.1 = some p.2) (ih : ∀ s k y, getA s x.pf.names = some k → getA k v.files = some y → y.pf.dir = true → SpecL Tryz.prog 102 #[pt v.b, .int .u32 t, .int .u32 k] M [] fun u _ _ => u = .bool (insD (absF v.files) t k)) :
    SpecL Tryz.prog 102 #[pt v.b, .int .u32 t, .int .u32 d] M [] fun u _ _ => u = .bool (insD (absF v.files) t d) := by
  obtain ⟨nmb, nmo, e1, e2, e3⟩ := (hv.x hx).map hd
  have hxa : getA d (absF v.files) = some x.pf := by rw [absF_get, hx]; rfl
  have hnn := hwb.nmd _ _ hxa
  refine spec_body (vs := [_, _, _]) 41 _ Tryz.func102 rfl Tryz.ntmps102 rfl rfl ?_; intro W
  refine jc_seq ?_
  refine jc_region ?_
  refine jp rfl ?_
  refine jl_nil ?_
  refine jT ?_
  refine jc_seq ?_
  refine jc_seq ?_
  refine jc_region ?_
  iterate 2 refine jp rfl ?_
  refine js rfl (fun h11 => ?_) (fun h11 => ?_)
  · refine jl_nil ?_
    refine jT ?_
    refine jc_yes rfl ?_
    refine jc_seq ?_
    refine jc_region ?_
    refine jp rfl ?_
    refine jl_nil ?_
    refine jT ?_
    refine jc_ret ?_
    refine jTr ?_
    refine jr1 rfl rfl ?_
    rw [insD_yes (by rw [show t = d by omega]; exact .here)]
  · refine jl_nil ?_
    refine jT ?_
    refine jc_no rfl ?_
    refine jc_skip ?_
    refine jT ?_
    refine jc_seq ?_
    refine jc_seq ?_
    refine jc_region ?_
    refine jp rfl ?_
    refine jl_q rfl rfl (qNilCheck rfl rfl rfl) ?_
    refine jl_q rfl rfl (qFieldAddr rfl rfl rfl rfl rfl) ?_
    refine jl_q rfl rfl (qLd rfl rfl rfl rfl ((Vw.v (Vw.inM hV)).cj rfl)) ?_
    refine jp rfl ?_
    refine jl_q rfl rfl (qEq (v' := pt x.b) (qLookupO kU (z := .pointer none) rfl rfl rfl rfl (by kernel_rfl) (Vw.vmo (Vw.inM hV)) hv.mo) (by rw [ptF_get, hx]; try rfl)) ?_
    refine jl_q rfl rfl (qNilCheck rfl rfl rfl) ?_
    refine jl_q rfl rfl (qFieldAddr rfl rfl rfl rfl rfl) ?_
    refine jl_q rfl rfl (qEq (qLd rfl rfl rfl rfl ((Vw.x (Vw.file (Vw.inM hV) hx)).cj rfl)) e1) ?_
    refine jl_h rfl rfl (hRangeMap kS rfl rfl rfl (Vw.xn (Vw.file (Vw.inM hV) hx) (nmb, nmo) (by rw [e2]; simp)) e3) ?_; rintro _ _ _ ⟨r, it, rfl, rfl, rfl, hit⟩
    refine jl_nil ?_
    refine jT ?_
    refine jc_block ?_
    refine jc_loopK (α := Obj × List (Str × Value)) (fun z => [(0, pt v.b), (1, .int .u32 t), (21, .pointer (some ⟨r, 0, none⟩))]) (fun _ => M) (fun z => [(r, z.1)]) (fun z => IterOf kS nmb nmo z.1 z.2 ∧ LeftN (absF v.files) t x.pf.names z.2) (fun z => z.2.length)
      (it, x.pf.names.map fun q => (q.1, .int .u32 q.2)) (Keep.cons (t := 0) rfl (Keep.cons (t := 1) rfl (Keep.cons (t := 21) rfl Keep.nil))) ⟨hit, LeftN.start hnn⟩ (fun _ h => h) ?_
    rintro ⟨it2, rem⟩ ⟨hit2, hleft⟩
    dsimp only at hit2 hleft ⊢
    refine jc_seq ?_
    refine jc_region ?_
    refine jl_h rfl rfl (hNextMap kS rfl rfl rfl (Vw.xn (Vw.file (Vw.inM hV) hx) (nmb, nmo) (by rw [e2]; simp)) hit2) ?_; rintro _ _ _ ⟨rfl, hy⟩
    rcases hy with ⟨hrem, rfl, rfl⟩ | ⟨s, u, rem2, it3, hpm, rfl, rfl, hit3, hcur⟩
    · refine jp rfl ?_
      refine jl_nil ?_
      refine jT ?_
      refine jc_seq ?_
      refine jc_no rfl ?_
      refine jc_exit ?_
      refine jTx ?_
      refine jTx ?_
      refine jBx ?_
      refine jT ?_
      refine jc_seq ?_
      refine jc_region ?_
      refine jp rfl ?_
      refine jl_nil ?_
      refine jT ?_
      refine jc_ret ?_
      refine jr1 rfl rfl ?_
      subst hrem
      rw [insD_no (hleft.done hxa (by omega))]
    · refine jp rfl ?_
      refine jl_nil ?_
      refine jT ?_
      refine jc_seq ?_
      refine jc_yes rfl ?_
      refine jc_skip ?_
      refine jT ?_
      refine jc_block ?_
      refine jc_seq ?_
      refine jc_region ?_
      obtain ⟨k, hu, hk⟩ := hleft.1 (s, u) (hpm.mem_iff.2 (List.mem_cons_self ..))
      dsimp only at hu hk; subst hu
      obtain ⟨ya, hya⟩ := hwb.tgt _ _ _ _ hxa hk
      obtain ⟨y, hyx, hyd⟩ : ∃ y, getA k v.files = some y ∧ y.pf = ya := by
        rw [absF_get] at hya; cases h : getA k v.files with
        | none => rw [h] at hya; cases hya
        | some x => rw [h] at hya; exact ⟨x, rfl, by simpa using hya⟩
      refine jl_q rfl rfl (qEntryO kS rfl rfl rfl OJ.of (Vw.xn (Vw.file (Vw.inM hV) hx) (nmb, nmo) (by rw [e2]; simp)) hcur) ?_
      iterate 2 refine jp rfl ?_
      refine jl_nil ?_
      refine jT ?_
      refine jc_seq ?_
      refine jc_region ?_
      refine jp rfl ?_
      refine jl_q rfl rfl (qNilCheck rfl rfl rfl) ?_
      refine jl_q rfl rfl (qFieldAddr rfl rfl rfl rfl rfl) ?_
      refine jl_q rfl rfl (qLd rfl rfl rfl rfl ((Vw.v (Vw.inM hV)).cj rfl)) ?_
      refine jp rfl ?_
      refine jl_q rfl rfl (qEq (v' := pt y.b) (qLookupO kU (z := .pointer none) rfl rfl rfl rfl (by kernel_rfl) (Vw.vmo (Vw.inM hV)) hv.mo) (by rw [ptF_get, hyx]; try rfl)) ?_
      refine jl_q rfl rfl (qNilCheck rfl rfl rfl) ?_
      refine jl_q rfl rfl (qFieldAddr rfl rfl rfl rfl rfl) ?_
      refine jl_qb rfl rfl (qLd rfl rfl rfl rfl ((Vw.x (Vw.file (Vw.inM hV) hyx)).cj rfl)) (fun h34 => ?_) (fun h34 => ?_)
      · iterate 4 refine jp rfl ?_
        refine jl_qb rfl rfl (qCall rfl rfl rfl rfl rfl (by kernel_rfl) (ih s k y hk hyx h34)) (fun h39 => ?_) (fun h39 => ?_)
        · refine jp rfl ?_
          refine jl_nil ?_
          refine jT ?_
          refine jc_yes rfl ?_
          refine jc_seq ?_
          refine jc_region ?_
          refine jp rfl ?_
          refine jl_nil ?_
          refine jT ?_
          refine jc_ret ?_
          refine jBr ?_
          refine jTr ?_
          refine jBr ?_
          refine jTr ?_
          refine jr1 rfl rfl ?_
          rw [insD_yes (.down hxa hk hya (by rw [← hyd]; exact h34) (Classical.byContradiction fun h => by rw [insD_no h] at h39; cases h39))]
        · refine jp rfl ?_
          refine jl_nil ?_
          refine jT ?_
          refine jc_no rfl ?_
          refine jc_skip ?_
          refine jB ?_
          refine j_again (it3, rem2) (Keep.cons (t := 0) rfl (Keep.cons (t := 1) rfl (Keep.cons (t := 21) rfl Keep.nil))) ⟨hit3, hleft.step hpm hk ?_⟩ (by dsimp only; have := hpm.length_eq; simp at this; omega) (fun _ h => h)
          rintro ⟨_, h2⟩; rw [insD_yes h2] at h39; cases h39
      · iterate 6 refine jp rfl ?_
        refine jl_nil ?_
        refine jT ?_
        refine jc_no rfl ?_
        refine jc_skip ?_
        refine jB ?_
        refine j_again (it3, rem2) (Keep.cons (t := 0) rfl (Keep.cons (t := 1) rfl (Keep.cons (t := 21) rfl Keep.nil))) ⟨hit3, hleft.step hpm hk ?_⟩ (by dsimp only; have := hpm.length_eq; simp at this; omega) (fun _ h => h)
        rintro ⟨⟨y2, h1, h2⟩, _⟩; rw [absF_get, hyx] at h1; simp only [Option.map_some, Option.some.injEq] at h1; rw [← h1, h34] at h2; cases h2


theorem inside_spec (v : CV) (hv : v.Ok) (hwb : WFB (absF v.files)) (t : Int) (M : Mem) (hV : ∀ p ∈ v.own, M p.1 = some p.2) (d : Int) (x : CF) (hx : getA d v.files = some x) (hd : x.pf.dir = true) :
    SpecL Tryz.prog 102 #[pt v.b, .int .u32 t, .int .u32 d] M [] fun u _ _ => u = .bool (insD (absF v.files) t d) := by
  obtain ⟨r, hr⟩ := hwb.rank
  have key : ∀ (m : Nat) (d : Int) (x : CF), r d < m → getA d v.files = some x → x.pf.dir = true → SpecL Tryz.prog 102 #[pt v.b, .int .u32 t, .int .u32 d] M [] fun u _ _ => u = .bool (insD (absF v.files) t d) := by
    intro m
    induction m with
    | zero => intro d x h; omega
    | succ m ih =>
      intro d x h hx hd
      refine inside_step v hv hwb t d x hx hd M hV fun s k y hs hy hyd => ih k y ?_ hy hyd
      have := hr d x.pf s k y.pf (by rw [absF_get, hx]; rfl) hs (by rw [absF_get, hy]; rfl) hyd
      omega
  exact key _ d x (Nat.lt_succ_self _) hx hd
end Go.Proofs.YtdjaehgadehnfaaGreatDoor
