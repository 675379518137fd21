/- Operations on forests in memory. No statement of the seat is proved here. -/
import Derived.Test.YtdjaehgadehnfaaGreatDoorPlace
namespace Go.Proofs.YtdjaehgadehnfaaGreatDoor
set_option linter.unusedVariables false
set_option linter.unusedSimpArgs false
open Go.RowKit Go.MapKept

section
variable {P : Program} {ops : Array Oper} {N : Fs} {Q : Exit → Act → World → Prop} {F : Fr} {E : Ent} {M : Mem} {L : Lc} {Mw : Mem} {Lw : Lc} {p : Ph}
/-- behind a broken promise: an operation with a value -/
theorem je_h {i : Nat} {rest : List (Nat × Bool)} {o : Oper} {K : Value → Mem → Lc → Prop} {d : Nat} (ho : ops[i]? = some o) (hd : o.dst = some d) (hN : Nat.blt d N.n = true)
    (hh : HF P ops N F E M L o K)
    (h : ∀ v M' L', K v M' L' → MLe Mw M' ∧ (∀ p ∈ Lw, p ∈ L') ∧ JE P ops N p Mw Lw Q rest ((d, v) :: F) E M' L') : JE P ops N p Mw Lw Q ((i, false) :: rest) F E M L := fun kM kL J =>
  ⟨o, ho, by unfold dstOk; rw [hd]; exact hN, St.closed _ _ _, fun _ hw => hw.js.sub kM kL, (fun h => by cases h), .inl fun a w ha hw => by
    obtain ⟨h1, h2⟩ := hh a w ha hw
    refine ⟨h1, Oper.wpIn_mono (fun a' w' hk => ?_) (h2 Q)⟩
    obtain ⟨v, M', L', rfl, hs, hK⟩ := hk
    obtain ⟨k1, k2, k3⟩ := h v M' L' hK
    refine ⟨v, rfl, J, Js Mw Lw, St E M' L', St.closed _ _ _, fun _ hx => hx.js.sub k1 k2, fun _ hx => hx, (fun h => by cases h), fun _ hx => hx, hs, ?_⟩
    rw [hd]; exact k3 k1 k2 J⟩
end

section
variable {P : Program} {ops : Array Oper} {N : Fs} {F : Fr} {E : Ent} {M : Mem} {L : Lc} {o : Oper}
/-- a store into the first block of some -/
theorem hStFront {t : TypeId} {x y : Operand} {u : Value} {b off : Nat} {l l2 : List Value} {e : TypeId} {R : Lc} {by_ : Nat} {z : List Value} (hg : gd ops F o = some true) (ho : o.op = .store t x y) (hx : ev F x = some (.pointer (some ⟨b, off, none⟩))) (hy : ev F y = some u)
    (hl : Lay P t 1 by_ z) (hc : u.cells = #[u]) (h1 : u.oneCell' = true) (hoff : off < l.length) (h2 : l.take off ++ [u] ++ l.drop (off + 1) = l2) (hp : L.Perm ((b, .cells l.toArray e (0, 0)) :: R)) :
    HF P ops N F E M L o (fun _ M' L' => M = M' ∧ L' = (b, .cells l2.toArray e (0, 0)) :: R) := by
  subst h2
  exact HF.weakL hp (hStore (cs := [u]) hg ho hx hy hc rfl (fun v hv => by rw [List.mem_singleton.1 hv]; exact h1) (Nat.succ_le_of_lt hoff))
theorem hStX {t : TypeId} {x y : Operand} {u : Value} {off : Nat} {S : CS} {vol id : Int} {v : CV} {cf : CF} {L2 : Lc} {by_ : Nat} {z : List Value} (x' : CF) (hg : gd ops F o = some true) (ho : o.op = .store t x y) (hx : ev F x = some (.pointer (some ⟨cf.b, off, none⟩))) (hy : ev F y = some u)
    [hl : Lay P t 1 by_ z] (hc : u.cells = #[u]) (h1 : u.oneCell' = true) (hoff : off < 4) (hv : getA vol S.vols = some v) (hxx : getA id v.files = some cf) (hb : x'.b = cf.b) (hd : x'.dR = cf.dR) (hn : x'.nR = cf.nR)
    (hcs : [Value.bool cf.pf.dir, .int .i64 cf.pf.links, cf.dv, cf.nm].take off ++ [u] ++ [Value.bool cf.pf.dir, .int .i64 cf.pf.links, cf.dv, cf.nm].drop (off + 1) = [.bool x'.pf.dir, .int .i64 x'.pf.links, x'.dv, x'.nm]) [hp : Pick S.own L L2] :
    HF P ops N F E M L o (fun _ M' L' => M = M' ∧ L' = (S.setX vol id x').own ++ L2) := by
  obtain ⟨R, h3, h4⟩ := CS.focX hv hxx
  refine (hStFront (l := [Value.bool cf.pf.dir, .int .i64 cf.pf.links, cf.dv, cf.nm]) (R := cf.dR ++ cf.nR ++ R ++ L2) hg ho hx hy hl hc h1 (by simpa using hoff) hcs (e := 135) ?_).mono fun w v' M' L' hK hs => ?_
  · refine hp.perm.trans ((h3.append_right L2).trans ?_)
    unfold CF.own fObj; simp
  · obtain ⟨rfl, rfl⟩ := hK
    refine ⟨_, hs.perm ?_, rfl, rfl⟩
    refine List.Perm.trans ?_ ((h4 x').append_right L2).symm
    unfold CF.own fObj; rw [hb, hd, hn]; simp
theorem hStV {t : TypeId} {x y : Operand} {u : Value} {off : Nat} {S : CS} {vol : Int} {v : CV} {L2 : Lc} {by_ : Nat} {z : List Value} (v' : CV) (hg : gd ops F o = some true) (ho : o.op = .store t x y) (hx : ev F x = some (.pointer (some ⟨v.b, off, none⟩))) (hy : ev F y = some u)
    [hl : Lay P t 1 by_ z] (hc : u.cells = #[u]) (h1 : u.oneCell' = true) (hoff : off < 3) (hv : getA vol S.vols = some v) (hb : v'.b = v.b) (hmb : v'.mb = v.mb) (hmo : v'.mo = v.mo) (hfs : v'.files = v.files)
    (hcs : [Value.bool v.frozen, .int .u32 v.next, .map (some v.mb)].take off ++ [u] ++ [Value.bool v.frozen, .int .u32 v.next, .map (some v.mb)].drop (off + 1) = [.bool v'.frozen, .int .u32 v'.next, .map (some v'.mb)]) [hp : Pick S.own L L2] :
    HF P ops N F E M L o (fun _ M' L' => M = M' ∧ L' = (S.setV vol v').own ++ L2) := by
  obtain ⟨R, h3, h4⟩ := CS.focV hv
  refine (hStFront (l := [Value.bool v.frozen, .int .u32 v.next, .map (some v.mb)]) (R := (v.mb, v.mo) :: (ownFs v.files ++ R ++ L2)) hg ho hx hy hl hc h1 (by simpa using hoff) hcs (e := 138) ?_).mono fun w v'' M' L' hK hs => ?_
  · refine hp.perm.trans ((h3.append_right L2).trans ?_)
    unfold CV.own vObj; simp
  · obtain ⟨rfl, rfl⟩ := hK
    refine ⟨_, hs.perm ?_, rfl, rfl⟩
    refine List.Perm.trans ?_ ((h4 v').append_right L2).symm
    unfold CV.own vObj; rw [hb, hmb, hmo, hfs]; simp
theorem hStS {t : TypeId} {x y : Operand} {u : Value} {off : Nat} {S : CS} {L2 : Lc} {by_ : Nat} {z : List Value} (n' : Int) (hg : gd ops F o = some true) (ho : o.op = .store t x y) (hx : ev F x = some (.pointer (some ⟨S.b, off, none⟩))) (hy : ev F y = some u)
    [hl : Lay P t 1 by_ z] (hc : u.cells = #[u]) (h1 : u.oneCell' = true) (hoff : off < 2)
    (hcs : [Value.int .i64 S.next, .map (some S.mb)].take off ++ [u] ++ [Value.int .i64 S.next, .map (some S.mb)].drop (off + 1) = [.int .i64 n', .map (some S.mb)]) [hp : Pick S.own L L2] :
    HF P ops N F E M L o (fun _ M' L' => M = M' ∧ L' = ({ S with next := n' } : CS).own ++ L2) := by
  refine (hStFront (l := [Value.int .i64 S.next, .map (some S.mb)]) (R := (S.mb, S.mo) :: (ownVs S.vols ++ L2)) hg ho hx hy hl hc h1 (by simpa using hoff) hcs (e := 58) ?_).mono fun w v'' M' L' hK hs => ?_
  · refine hp.perm.trans ?_
    unfold CS.own sObj; simp
  · obtain ⟨rfl, rfl⟩ := hK
    refine ⟨_, hs.perm ?_, rfl, rfl⟩
    unfold CS.own sObj; simp
/-! maps of a forest -/
theorem hNmPut {t kt et : TypeId} {x y z : Operand} {S : CS} {vol id k : Int} {s : Str} {v : CV} {cf : CF} {L2 : Lc} {nmb : Nat} {nmo : Obj} (hg : gd ops F o = some true) (ho : o.op = .mapUpdate t x y z ∨ o.op = .insert t x y z) (hx : ev F x = some (.map (some nmb))) (hy : ev F y = some (.string s)) (hz : ev F z = some (.int .u32 k))
    [ht : Und P t (.map kt et)] [hk : Und P kt .string] (hv : getA vol S.vols = some v) (hxx : getA id v.files = some cf) (hok : cf.Ok) (hdir : cf.pf.dir = true) (e1 : cf.nm = .map (some nmb)) (e2 : cf.nR = [(nmb, nmo)]) (e3 : MapOf kS nmo (cf.pf.names.map fun q => (q.1, .int .u32 q.2))) [hp : Pick S.own L L2] :
    HF P ops N F E M L o (fun _ M' L' => M = M' ∧ ∃ x' : CF, x'.Ok ∧ x'.b = cf.b ∧ x'.pf = { cf.pf with names := putA s k cf.pf.names } ∧ x'.nm = cf.nm ∧ L' = (S.setX vol id x').own ++ L2) := by
  obtain ⟨R, h3, h4⟩ := CS.focX hv hxx
  have hp1 : L.Perm ((nmb, nmo) :: ((cf.b, fObj cf) :: (cf.dR ++ R ++ L2))) := by
    refine hp.perm.trans ((h3.append_right L2).trans ?_)
    unfold CF.own; rw [e2]
    refine (List.Perm.trans ?_ (List.Perm.swap (cf.b, fObj cf) (nmb, nmo) (cf.dR ++ R ++ L2)).symm)
    simp only [List.cons_append, List.append_assoc, List.nil_append]
    exact List.Perm.cons _ List.perm_middle
  refine (HF.weakL hp1 (hMapPutO kS hg ho hx hy hz (ht := ht) (hk := hk) e3)).mono fun w v'' M' L' hK hs => ?_
  obtain ⟨rfl, mo', rfl, hmo⟩ := hK
  refine ⟨_, hs.perm ?_, rfl, { cf with pf := { cf.pf with names := putA s k cf.pf.names }, nR := [(nmb, mo')] }, ⟨hok.byt, .inl ⟨hdir, nmb, mo', e1, rfl, by rw [← names_put]; exact hmo⟩⟩, rfl, rfl, rfl, rfl⟩
  refine List.Perm.trans ?_ ((h4 _).append_right L2).symm
  unfold CF.own
  refine (List.Perm.swap _ _ _).trans ?_
  simp only [List.cons_append, List.append_assoc, List.nil_append]
  exact List.Perm.cons _ List.perm_middle.symm
theorem hNmDel {t kt kt' et : TypeId} {x y : Operand} {S : CS} {vol id : Int} {s : Str} {v : CV} {cf : CF} {L2 : Lc} {nmb : Nat} {nmo : Obj} (hg : gd ops F o = some true) (ho : o.op = .call { callee := .builtin .delete, args := #[x, y], argTypes := #[t, kt'] }) (hx : ev F x = some (.map (some nmb))) (hy : ev F y = some (.string s))
    [ht : Und P t (.map kt et)] [hk : Und P kt .string] (hv : getA vol S.vols = some v) (hxx : getA id v.files = some cf) (hok : cf.Ok) (hdir : cf.pf.dir = true) (e1 : cf.nm = .map (some nmb)) (e2 : cf.nR = [(nmb, nmo)]) (e3 : MapOf kS nmo (cf.pf.names.map fun q => (q.1, .int .u32 q.2))) [hp : Pick S.own L L2] :
    HF P ops N F E M L o (fun _ M' L' => M = M' ∧ ∃ x' : CF, x'.Ok ∧ x'.b = cf.b ∧ x'.pf = { cf.pf with names := delA s cf.pf.names } ∧ x'.nm = cf.nm ∧ L' = (S.setX vol id x').own ++ L2) := by
  obtain ⟨R, h3, h4⟩ := CS.focX hv hxx
  have hp1 : L.Perm ((nmb, nmo) :: ((cf.b, fObj cf) :: (cf.dR ++ R ++ L2))) := by
    refine hp.perm.trans ((h3.append_right L2).trans ?_)
    unfold CF.own; rw [e2]
    refine (List.Perm.trans ?_ (List.Perm.swap (cf.b, fObj cf) (nmb, nmo) (cf.dR ++ R ++ L2)).symm)
    simp only [List.cons_append, List.append_assoc, List.nil_append]
    exact List.Perm.cons _ List.perm_middle
  refine (HF.weakL hp1 (hMapDelO kS hg ho hx hy (ht := ht) (hk := hk) e3)).mono fun w v'' M' L' hK hs => ?_
  obtain ⟨rfl, mo', rfl, hmo⟩ := hK
  refine ⟨_, hs.perm ?_, rfl, { cf with pf := { cf.pf with names := delA s cf.pf.names }, nR := [(nmb, mo')] }, ⟨hok.byt, .inl ⟨hdir, nmb, mo', e1, rfl, by rw [← names_del]; exact hmo⟩⟩, rfl, rfl, rfl, rfl⟩
  refine List.Perm.trans ?_ ((h4 _).append_right L2).symm
  unfold CF.own
  refine (List.Perm.swap _ _ _).trans ?_
  simp only [List.cons_append, List.append_assoc, List.nil_append]
  exact List.Perm.cons _ List.perm_middle.symm
theorem ptF_del {l : List (Int × CF)} {k : Int} : ptF (delA k l) = delA k (ptF l) := delA_map (fun v : CF => pt v.b)
theorem ptV_del {l : List (Int × CV)} {k : Int} : ptV (delA k l) = delA k (ptV l) := delA_map (fun v : CV => pt v.b)
theorem flat_del {α : Type} {f : Int × α → Lc} {k : Int} : ∀ {l : List (Int × α)}, ∃ G, (l.flatMap f).Perm ((delA k l).flatMap f ++ G)
  | [] => ⟨[], by simp [delA]⟩
  | p :: l => by
    obtain ⟨G, hG⟩ := flat_del (f := f) (k := k) (l := l)
    unfold delA at hG ⊢
    rw [List.flatMap_cons, List.filter_cons]
    split
    · exact ⟨G, by rw [List.flatMap_cons, List.append_assoc]; exact List.Perm.append_left _ hG⟩
    · refine ⟨f p ++ G, (List.Perm.append_left _ hG).trans ?_⟩
      rw [← List.append_assoc, ← List.append_assoc]
      exact List.Perm.append_right _ List.perm_append_comm
theorem hFileDel {t kt kt' et : TypeId} {x y : Operand} {S : CS} {vol id : Int} {v : CV} {L2 : Lc} (hg : gd ops F o = some true) (ho : o.op = .call { callee := .builtin .delete, args := #[x, y], argTypes := #[t, kt'] }) (hx : ev F x = some (.map (some v.mb))) (hy : ev F y = some (.int .u32 id))
    [ht : Und P t (.map kt et)] [hk : Und P kt (.int .u32)] (hv : getA vol S.vols = some v) (hok : v.Ok) [hp : Pick S.own L L2] :
    HF P ops N F E M L o (fun _ M' L' => M = M' ∧ ∃ mo', MapOf kU mo' (ptF (delA id v.files)) ∧ L' = (S.setV vol { v with mo := mo', files := delA id v.files }).own ++ L2) := by
  obtain ⟨R, h3, h4⟩ := CS.focV hv
  have hp1 : L.Perm ((v.mb, v.mo) :: ((v.b, vObj v) :: (ownFs v.files ++ R ++ L2))) := by
    refine hp.perm.trans ((h3.append_right L2).trans ?_)
    unfold CV.own
    simp only [List.cons_append, List.append_assoc]
    exact List.Perm.swap _ _ _
  refine (HF.weakL hp1 (hMapDelO kU hg ho hx hy (ht := ht) (hk := hk) hok.mo)).mono fun w v'' M' L' hK hs => ?_
  obtain ⟨rfl, mo', rfl, hmo⟩ := hK
  rw [← ptF_del] at hmo
  obtain ⟨G, hG⟩ := flat_del (f := fun p : Int × CF => p.2.own) (k := id) (l := v.files)
  have h5 := hs.perm (L' := ((v.mb, mo') :: ((v.b, vObj v) :: (ownFs (delA id v.files) ++ R ++ L2))) ++ G) (by
    simp only [List.cons_append]
    refine List.Perm.cons _ (List.Perm.cons _ ?_)
    unfold ownFs
    refine ((hG.append_right R).append_right L2).trans ?_
    simp only [List.append_assoc]
    refine List.Perm.append_left _ ?_
    rw [← List.append_assoc R L2 G]
    exact List.perm_append_comm)
  refine ⟨_, (h5.fewer (List.sublist_append_left _ G)).perm ?_, rfl, mo', hmo, rfl⟩
  refine List.Perm.trans ?_ ((h4 _).append_right L2).symm
  unfold CV.own vObj
  simp only [List.cons_append, List.append_assoc]
  exact List.Perm.swap _ _ _
theorem hVolDel {t kt kt' et : TypeId} {x y : Operand} {S : CS} {vol : Int} {L2 : Lc} (hg : gd ops F o = some true) (ho : o.op = .call { callee := .builtin .delete, args := #[x, y], argTypes := #[t, kt'] }) (hx : ev F x = some (.map (some S.mb))) (hy : ev F y = some (.int .i64 vol))
    [ht : Und P t (.map kt et)] [hk : Und P kt (.int .i64)] (hok : S.Ok) [hp : Pick S.own L L2] :
    HF P ops N F E M L o (fun _ M' L' => M = M' ∧ ∃ mo', MapOf kI mo' (ptV (delA vol S.vols)) ∧ L' = ({ S with mo := mo', vols := delA vol S.vols } : CS).own ++ L2) := by
  have hp1 : L.Perm ((S.mb, S.mo) :: ((S.b, sObj S) :: (ownVs S.vols ++ L2))) := by
    refine hp.perm.trans ?_
    unfold CS.own
    simp only [List.cons_append, List.append_assoc]
    exact List.Perm.swap _ _ _
  refine (HF.weakL hp1 (hMapDelO kI hg ho hx hy (ht := ht) (hk := hk) hok.mo)).mono fun w v'' M' L' hK hs => ?_
  obtain ⟨rfl, mo', rfl, hmo⟩ := hK
  rw [← ptV_del] at hmo
  obtain ⟨G, hG⟩ := flat_del (f := fun p : Int × CV => p.2.own) (k := vol) (l := S.vols)
  have h5 := hs.perm (L' := ((S.mb, mo') :: ((S.b, sObj S) :: (ownVs (delA vol S.vols) ++ L2))) ++ G) (by
    simp only [List.cons_append]
    refine List.Perm.cons _ (List.Perm.cons _ ?_)
    unfold ownVs
    refine (hG.append_right L2).trans ?_
    simp only [List.append_assoc]
    exact List.Perm.append_left _ List.perm_append_comm)
  refine ⟨_, (h5.fewer (List.sublist_append_left _ G)).perm ?_, rfl, mo', hmo, rfl⟩
  unfold CS.own sObj
  simp only [List.cons_append]
  exact List.Perm.swap _ _ _
theorem hVolPut {t kt et : TypeId} {x y z : Operand} {S : CS} {k : Int} {v : CV} {L2 L3 : Lc} (hg : gd ops F o = some true) (ho : o.op = .mapUpdate t x y z ∨ o.op = .insert t x y z) (hx : ev F x = some (.map (some S.mb))) (hy : ev F y = some (.int .i64 k)) (hz : ev F z = some (pt v.b))
    [ht : Und P t (.map kt et)] [hk : Und P kt (.int .i64)] (hok : S.Ok) (hnew : getA k S.vols = none) [hp : Pick S.own L L2] [hp2 : Pick v.own L2 L3] :
    HF P ops N F E M L o (fun _ M' L' => M = M' ∧ ∃ mo', MapOf kI mo' (ptV (S.vols ++ [(k, v)])) ∧ L' = ({ S with mo := mo', vols := S.vols ++ [(k, v)] } : CS).own ++ L3) := by
  have hp1 : L.Perm ((S.mb, S.mo) :: ((S.b, sObj S) :: (ownVs S.vols ++ (v.own ++ L3)))) := by
    refine (hp.perm.trans (List.Perm.append_left _ hp2.perm)).trans ?_
    unfold CS.own
    simp only [List.cons_append, List.append_assoc]
    exact List.Perm.swap _ _ _
  refine (HF.weakL hp1 (hMapPutO kI hg ho hx hy hz (ht := ht) (hk := hk) hok.mo)).mono fun w v'' M' L' hK hs => ?_
  obtain ⟨rfl, mo', rfl, hmo⟩ := hK
  have hnk : k ∉ keysA (ptV S.vols) := getA_none.1 (by rw [ptV_get, hnew]; rfl)
  rw [putA_new hnk] at hmo
  refine ⟨_, hs.perm ?_, rfl, mo', by unfold ptV at hmo ⊢; rw [List.map_append]; exact hmo, rfl⟩
  unfold CS.own sObj ownVs
  simp only [List.cons_append, List.flatMap_append, List.flatMap_cons, List.flatMap_nil, List.append_nil, List.append_assoc]
  exact List.Perm.swap _ _ _
end

/-! ### what a call leaves -/
def InI64 (n : Int) : Prop := -9223372036854775808 ≤ n ∧ n ≤ 9223372036854775807
structure CallOk (M : Mem) (c : CL) (a : Option Addr) (k : Nat) : Prop where
  sm : SM M a (bcells c.data)
  cap : c.data.length ≤ k
  big : c.data.length ≤ 1000000
  ka : InI64 c.a
  kb : InI64 c.b
  kc : InI64 c.c
theorem CallOk.mono {M M' : Mem} {c : CL} {a : Option Addr} {k : Nat} (h : CallOk M c a k) (hM : MLe M M') : CallOk M' c a k := ⟨h.sm.mono hM, h.cap, h.big, h.ka, h.kb, h.kc⟩
abbrev clV (c : CL) (a : Option Addr) (k : Nat) : Value := .agg [.int .u8 c.kind, .string c.path, .string c.other, .int .i64 c.a, .int .i64 c.b, .int .i64 c.c, .slice a c.data.length k].toArray
def Nms (v : Value) (R : Lc) (l : List Str) : Prop := Own v R 9 1 l.length (l.map Value.string)
def OpP (b : Nat) (r : PS × RP) (u : Value) (M' : Mem) (L' : Lc) : Prop := ∃ (S' : CS) (dv nv : Value) (R1 R2 : Lc), (S'.Ok ∧ S'.b = b) ∧ S'.abs = r.1 ∧ u = .agg (rpc r.2 dv nv).toArray ∧ Byt dv R1 r.2.data ∧ Nms nv R2 r.2.names ∧ L' = S'.own ++ (R1 ++ R2)
theorem setX_blk {S : CS} {vol id : Int} {x : CF} : (S.setX vol id x).b = S.b := by unfold CS.setX; split <;> rfl
theorem setV_blk {S : CS} {vol : Int} {v : CV} : (S.setV vol v).b = S.b := rfl
theorem Byt.form {v : Value} {R : Lc} {xs : List By} (h : Byt v R xs) : ∃ a c, v = .slice a xs.length c := by
  rcases h with ⟨rfl, _, rfl⟩ | ⟨g, cap, cur, rfl, _⟩
  · exact ⟨none, 0, rfl⟩
  · exact ⟨_, cap, rfl⟩
theorem Nms.nform {v : Value} {R : Lc} {l : List Str} (h : Nms v R l) : ∃ a c, v = .slice a l.length c := by
  rcases h.2 with ⟨rfl, h0, _⟩ | ⟨g, cap, cur, rfl, _⟩
  · exact ⟨none, 0, by rw [h0]⟩
  · exact ⟨_, cap, rfl⟩
theorem Byt.nil : Byt (.slice none 0 0) [] [] := .inl ⟨rfl, rfl, rfl⟩
theorem Nms.nil : Nms (.slice none 0 0) [] [] := Own.nil _ _
theorem OpP.plain {S' : CS} {b : Nat} {r : PS × RP} {M' : Mem} {L' : Lc} (h : S'.Ok) (h1 : S'.abs = r.1) (h2 : r.2.data = []) (h3 : r.2.names = []) (hL : L' = S'.own) (hb : S'.b = b := by first | rfl | simp only [setX_blk, setV_blk]) : OpP b r (rp0 r.2) M' L' :=
  ⟨S', _, _, [], [], ⟨h, hb⟩, h1, rfl, by rw [h2]; exact Byt.nil, by rw [h3]; exact Nms.nil, by rw [hL]; simp⟩
end Go.Proofs.YtdjaehgadehnfaaGreatDoor
