/- How forests lie in memory. No statement of the seat is proved here. -/
import Derived.Test.YtdjaehgadehnfaaGreatDoorPl
import Derived.Test.YtdjaehgadehnfaaGreatDoorTab
import Derived.Test.YtdjaehgadehnfaaGreatDoorHl
import Derived.Test.YtdjaehgadehnfaaGreatDoorThaw
import Derived.LaidEqlPtr
namespace Go.Proofs.YtdjaehgadehnfaaGreatDoor
set_option linter.unusedVariables false
set_option linter.unusedSimpArgs false
open Go.RowKit Go.MapKept

abbrev pt (b : Nat) : Value := .pointer (some ⟨b, 0, none⟩)
structure CF where
  pf : PF
  b : Nat
  dv : Value
  dR : Lc
  nm : Value
  nR : Lc
structure CV where
  frozen : Bool
  next : Int
  b : Nat
  mb : Nat
  mo : Obj
  files : List (Int × CF)
structure CS where
  next : Int
  b : Nat
  mb : Nat
  mo : Obj
  vols : List (Int × CV)
def fObj (x : CF) : Obj := .cells [.bool x.pf.dir, .int .i64 x.pf.links, x.dv, x.nm].toArray 135 (0, 0)
def vObj (v : CV) : Obj := .cells [.bool v.frozen, .int .u32 v.next, .map (some v.mb)].toArray 138 (0, 0)
def sObj (s : CS) : Obj := .cells [.int .i64 s.next, .map (some s.mb)].toArray 58 (0, 0)
def CF.own (x : CF) : Lc := (x.b, fObj x) :: (x.dR ++ x.nR)
def ownFs (l : List (Int × CF)) : Lc := l.flatMap fun p => p.2.own
def CV.own (v : CV) : Lc := (v.b, vObj v) :: (v.mb, v.mo) :: ownFs v.files
def ownVs (l : List (Int × CV)) : Lc := l.flatMap fun p => p.2.own
def CS.own (s : CS) : Lc := (s.b, sObj s) :: (s.mb, s.mo) :: ownVs s.vols
def absF (l : List (Int × CF)) : Fls := l.map fun p => (p.1, p.2.pf)
def CV.abs (v : CV) : PV := { frozen := v.frozen, next := v.next, files := absF v.files }
def CS.abs (s : CS) : PS := { next := s.next, vols := s.vols.map fun p => (p.1, p.2.abs) }
/-- bytes of one's own -/
def Byt (v : Value) (R : Lc) (xs : List By) : Prop := (v = .slice none 0 0 ∧ R = [] ∧ xs = []) ∨ ∃ g cap cur, v = .slice (some ⟨g, 0, none⟩) xs.length cap ∧ R = [(g, .cells cur 5 (0, 0))] ∧ xs.length ≤ cap ∧ cap ≤ cur.size ∧ cap ≤ maxLen ∧ cur.toList.take xs.length = bcells xs
def NmOk (x : CF) : Prop := (x.pf.dir = true ∧ ∃ mb mo, x.nm = .map (some mb) ∧ x.nR = [(mb, mo)] ∧ MapOf kS mo (x.pf.names.map fun q => (q.1, .int .u32 q.2))) ∨ (x.pf.dir = false ∧ x.nm = .map none ∧ x.nR = [] ∧ x.pf.names = [])
structure CF.Ok (x : CF) : Prop where
  byt : Byt x.dv x.dR x.pf.data
  nmo : NmOk x
def ptF (l : List (Int × CF)) : List (Int × Value) := l.map fun p => (p.1, pt p.2.b)
def ptV (l : List (Int × CV)) : List (Int × Value) := l.map fun p => (p.1, pt p.2.b)
structure CV.Ok (v : CV) : Prop where
  mo : MapOf kU v.mo (ptF v.files)
  fs : ∀ p ∈ v.files, p.2.Ok
structure CS.Ok (s : CS) : Prop where
  mo : MapOf kI s.mo (ptV s.vols)
  vs : ∀ p ∈ s.vols, p.2.Ok
/-- seen -/
def Vw (M : Mem) (L : Lc) (R : Lc) : Prop := ∀ p ∈ R, OJ M L p.1 p.2
theorem Vw.inM {M : Mem} {L R : Lc} (h : ∀ p ∈ R, M p.1 = some p.2) : Vw M L R := fun p hp => .inl (h p hp)
class SubL (R L : Lc) : Prop where
  sub : ∀ p ∈ R, p ∈ L
instance (priority := high) SubL.self {R : Lc} : SubL R R := ⟨fun _ h => h⟩
instance SubL.cons {R L : Lc} {p : Nat × Obj} [h : SubL R L] : SubL R (p :: L) := ⟨fun q hq => List.mem_cons_of_mem _ (h.sub q hq)⟩
instance SubL.head {R L : Lc} : SubL R (R ++ L) := ⟨fun q hq => List.mem_append_left _ hq⟩
instance (priority := low) SubL.right {R A L : Lc} [h : SubL R L] : SubL R (A ++ L) := ⟨fun q hq => List.mem_append_right _ (h.sub q hq)⟩
theorem Vw.of {M : Mem} {L R : Lc} [h : SubL R L] : Vw M L R := fun p hp => .inr (h.sub p hp)
section
variable {M : Mem} {L : Lc} {S : CS} {vo id : Int} {cv : CV} {cf : CF}
theorem Vw.s (h : Vw M L S.own) : OJ M L S.b (sObj S) := h _ (List.mem_cons_self ..)
theorem Vw.mo (h : Vw M L S.own) : OJ M L S.mb S.mo := h (S.mb, S.mo) (by unfold CS.own; simp)
theorem Vw.vol (h : Vw M L S.own) (hv : getA vo S.vols = some cv) : Vw M L cv.own := fun p hp => h p (by
  unfold CS.own ownVs
  exact List.mem_cons_of_mem _ (List.mem_cons_of_mem _ (List.mem_flatMap.2 ⟨_, getA_mem hv, hp⟩)))
theorem Vw.v (h : Vw M L cv.own) : OJ M L cv.b (vObj cv) := h _ (List.mem_cons_self ..)
theorem Vw.vmo (h : Vw M L cv.own) : OJ M L cv.mb cv.mo := h (cv.mb, cv.mo) (by unfold CV.own; simp)
theorem Vw.file (h : Vw M L cv.own) (hx : getA id cv.files = some cf) : Vw M L cf.own := fun p hp => h p (by
  unfold CV.own ownFs
  exact List.mem_cons_of_mem _ (List.mem_cons_of_mem _ (List.mem_flatMap.2 ⟨_, getA_mem hx, hp⟩)))
theorem Vw.x (h : Vw M L cf.own) : OJ M L cf.b (fObj cf) := h _ (List.mem_cons_self ..)
theorem Vw.xd (h : Vw M L cf.own) : Vw M L cf.dR := fun p hp => h p (by unfold CF.own; exact List.mem_cons_of_mem _ (List.mem_append_left _ hp))
theorem Vw.xn (h : Vw M L cf.own) : Vw M L cf.nR := fun p hp => h p (by unfold CF.own; exact List.mem_cons_of_mem _ (List.mem_append_right _ hp))
end
theorem CS.Ok.v {S : CS} (h : S.Ok) {vol : Int} {v : CV} (hv : getA vol S.vols = some v) : v.Ok := h.vs _ (getA_mem hv)
theorem CV.Ok.x {v : CV} (h : v.Ok) {id : Int} {x : CF} (hx : getA id v.files = some x) : x.Ok := h.fs _ (getA_mem hx)
theorem CF.Ok.map {x : CF} (h : x.Ok) (hd : x.pf.dir = true) : ∃ mb mo, x.nm = .map (some mb) ∧ x.nR = [(mb, mo)] ∧ MapOf kS mo (x.pf.names.map fun q => (q.1, .int .u32 q.2)) := by
  rcases h.nmo with ⟨_, h⟩ | ⟨h, _⟩
  · exact h
  · rw [hd] at h; cases h
theorem ptV_get {l : List (Int × CV)} {k : Int} : getA k (ptV l) = (getA k l).map fun v => pt v.b := getA_map (fun v : CV => pt v.b)
theorem ptF_get {l : List (Int × CF)} {k : Int} : getA k (ptF l) = (getA k l).map fun v => pt v.b := getA_map (fun v : CF => pt v.b)
theorem absF_get {l : List (Int × CF)} {k : Int} : getA k (absF l) = (getA k l).map fun v => v.pf := getA_map (fun v : CF => v.pf)
theorem absV_get {S : CS} {k : Int} : getA k S.abs.vols = (getA k S.vols).map fun v => v.abs := getA_map (fun v : CV => v.abs)
theorem names_get {l : List (Str × Int)} {k : Str} : getA k (l.map fun q => (q.1, (Value.int .u32 q.2))) = (getA k l).map fun n => Value.int .u32 n := getA_map (fun n : Int => Value.int .u32 n)
theorem names_del {l : List (Str × Int)} {k : Str} : delA k (l.map fun q => (q.1, (Value.int .u32 q.2))) = (delA k l).map fun q => (q.1, (Value.int .u32 q.2)) := by
  unfold delA; rw [List.filter_map]; rfl
theorem names_put {l : List (Str × Int)} {k : Str} {n : Int} : putA k (Value.int .u32 n) (l.map fun q => (q.1, (Value.int .u32 q.2))) = (putA k n l).map fun q => (q.1, (Value.int .u32 q.2)) := by
  induction l with
  | nil => rfl
  | cons p l ih =>
    rw [List.map_cons, putA, putA]
    split
    · rfl
    · rw [ih]; rfl
/-- the block of a file -/
def blkOf (S : CS) (vol id : Int) : Nat := match (getA vol S.vols).bind fun v => getA id v.files with
  | some x => x.b
  | none => 0
theorem blkOf_is {S : CS} {vol id : Int} {v : CV} {x : CF} (hv : getA vol S.vols = some v) (hx : getA id v.files = some x) : blkOf S vol id = x.b := by unfold blkOf; rw [hv]; simp [hx]

/-! ### perms -/
theorem perm_split {α : Type} {f : α → Lc} {A B : List α} {x : α} : ((A ++ x :: B).flatMap f).Perm (f x ++ (A ++ B).flatMap f) := by
  simp only [List.flatMap_append, List.flatMap_cons]
  rw [← List.append_assoc, ← List.append_assoc]
  exact List.Perm.append_right _ List.perm_append_comm
theorem CS.foc {S : CS} {vol : Int} {v : CV} {A B : List (Int × CV)} (h : S.vols = A ++ (vol, v) :: B) : S.own.Perm (v.own ++ ((S.b, sObj S) :: (S.mb, S.mo) :: ownVs (A ++ B))) := by
  unfold CS.own ownVs
  rw [h]
  refine ((List.Perm.cons _ (List.Perm.cons _ (perm_split (f := fun p : Int × CV => p.2.own))))).trans ?_
  have : ∀ (p q : Nat × Obj) (X Y : Lc), (p :: q :: (X ++ Y)).Perm (X ++ (p :: q :: Y)) := fun p q X Y => (List.Perm.cons p List.perm_middle.symm).trans List.perm_middle.symm
  exact this _ _ _ _
theorem CV.foc {v : CV} {id : Int} {x : CF} {A B : List (Int × CF)} (h : v.files = A ++ (id, x) :: B) : v.own.Perm (x.own ++ ((v.b, vObj v) :: (v.mb, v.mo) :: ownFs (A ++ B))) := by
  unfold CV.own ownFs
  rw [h]
  refine ((List.Perm.cons _ (List.Perm.cons _ (perm_split (f := fun p : Int × CF => p.2.own))))).trans ?_
  have : ∀ (p q : Nat × Obj) (X Y : Lc), (p :: q :: (X ++ Y)).Perm (X ++ (p :: q :: Y)) := fun p q X Y => (List.Perm.cons p List.perm_middle.symm).trans List.perm_middle.symm
  exact this _ _ _ _
def CS.setV (S : CS) (vol : Int) (v : CV) : CS := { S with vols := putA vol v S.vols }
def CV.setX (v : CV) (id : Int) (x : CF) : CV := { v with files := putA id x v.files }
def CS.setX (S : CS) (vol id : Int) (x : CF) : CS := match getA vol S.vols with
  | some v => S.setV vol (v.setX id x)
  | none => S
theorem setX_is {S : CS} {vol id : Int} {x : CF} {v : CV} (hv : getA vol S.vols = some v) : S.setX vol id x = S.setV vol (v.setX id x) := by unfold CS.setX; rw [hv]
/-- a volume is turned: what is its own, ahead of the rest -/
theorem CS.focV {S : CS} {vol : Int} {v : CV} (hv : getA vol S.vols = some v) : ∃ R, S.own.Perm (v.own ++ R) ∧ ∀ v', (S.setV vol v').own.Perm (v'.own ++ R) := by
  obtain ⟨A, B, h, hA⟩ := getA_split hv
  refine ⟨_, CS.foc h, fun v' => ?_⟩
  have h' : (S.setV vol v').vols = A ++ (vol, v') :: B := by unfold CS.setV; simp only; rw [h, putA_mid hA]
  exact CS.foc h'
theorem CV.focX {v : CV} {id : Int} {x : CF} (hx : getA id v.files = some x) : ∃ R, v.own.Perm (x.own ++ R) ∧ ∀ x', (v.setX id x').own.Perm (x'.own ++ R) := by
  obtain ⟨A, B, h, hA⟩ := getA_split hx
  refine ⟨_, CV.foc h, fun x' => ?_⟩
  have h' : (v.setX id x').files = A ++ (id, x') :: B := by unfold CV.setX; simp only; rw [h, putA_mid hA]
  exact CV.foc h'
theorem CS.focX {S : CS} {vol id : Int} {v : CV} {x : CF} (hv : getA vol S.vols = some v) (hx : getA id v.files = some x) : ∃ R, S.own.Perm (x.own ++ R) ∧ ∀ x', (S.setX vol id x').own.Perm (x'.own ++ R) := by
  obtain ⟨R, h1, h2⟩ := CS.focV hv
  obtain ⟨R', h3, h4⟩ := CV.focX hx
  refine ⟨R' ++ R, ?_, fun x' => ?_⟩
  · rw [← List.append_assoc]; exact h1.trans (h3.append_right _)
  · rw [setX_is hv, ← List.append_assoc]; exact (h2 _).trans ((h4 x').append_right _)
theorem putA_pt {l : List (Int × CV)} {k : Int} {v v' : CV} (h : getA k l = some v) (hb : v'.b = v.b) : ptV (putA k v' l) = ptV l := by
  obtain ⟨A, B, rfl, hA⟩ := getA_split h
  rw [putA_mid hA]; simp [ptV, hb]
theorem putA_ptF {l : List (Int × CF)} {k : Int} {v v' : CF} (h : getA k l = some v) (hb : v'.b = v.b) : ptF (putA k v' l) = ptF l := by
  obtain ⟨A, B, rfl, hA⟩ := getA_split h
  rw [putA_mid hA]; simp [ptF, hb]
theorem mem_putA {α : Type} {l : List (Int × α)} {k : Int} {v : α} : ∀ p ∈ putA k v l, p = (k, v) ∨ p ∈ l := by
  induction l with
  | nil => intro p hp; rw [putA, List.mem_singleton] at hp; exact .inl hp
  | cons q l ih =>
    intro p hp
    rw [putA] at hp
    split at hp
    · rcases List.mem_cons.1 hp with h | h
      · exact .inl h
      · exact .inr (List.mem_cons_of_mem _ h)
    · rcases List.mem_cons.1 hp with h | h
      · exact .inr (by rw [h]; exact List.mem_cons_self ..)
      · exact (ih p h).imp id (List.mem_cons_of_mem _)
theorem CS.Ok.setV {S : CS} (h : S.Ok) {vol : Int} {v v' : CV} (hv : getA vol S.vols = some v) (hb : v'.b = v.b) (h' : v'.Ok) : (S.setV vol v').Ok :=
  ⟨by unfold CS.setV; simp only; rw [putA_pt hv hb]; exact h.mo, fun p hp => (mem_putA p hp).elim (fun e => by rw [e]; exact h') (h.vs p)⟩
theorem CV.Ok.setX {v : CV} (h : v.Ok) {id : Int} {x x' : CF} (hx : getA id v.files = some x) (hb : x'.b = x.b) (h' : x'.Ok) : (v.setX id x').Ok :=
  ⟨by unfold CV.setX; simp only; rw [putA_ptF hx hb]; exact h.mo, fun p hp => (mem_putA p hp).elim (fun e => by rw [e]; exact h') (h.fs p)⟩
theorem CS.Ok.setX {S : CS} (h : S.Ok) {vol id : Int} {v : CV} {x x' : CF} (hv : getA vol S.vols = some v) (hx : getA id v.files = some x) (hb : x'.b = x.b) (h' : x'.Ok) : (S.setX vol id x').Ok := by
  rw [setX_is hv]; exact h.setV hv rfl ((h.v hv).setX hx hb h')
theorem putA_map {α β : Type} (f : α → β) {l : List (Int × α)} {k : Int} {v : α} : (putA k v l).map (fun p => (p.1, f p.2)) = putA k (f v) (l.map fun p => (p.1, f p.2)) := by
  induction l with
  | nil => rfl
  | cons p l ih =>
    rw [List.map_cons, putA, putA]
    split
    · rfl
    · rw [List.map_cons, ih]
theorem delA_map {α β : Type} (f : α → β) {l : List (Int × α)} {k : Int} : (delA k l).map (fun p => (p.1, f p.2)) = delA k (l.map fun p => (p.1, f p.2)) := by
  unfold delA; rw [List.filter_map]; rfl
theorem abs_setV {S : CS} {vol : Int} {v : CV} : (S.setV vol v).abs = { S.abs with vols := putA vol v.abs S.abs.vols } := by
  unfold CS.setV CS.abs; simp only; rw [putA_map (fun v : CV => v.abs)]
theorem abs_upd {S : CS} {vol : Int} {v v' : CV} {f : Fls → Fls} (hv : getA vol S.vols = some v) (h1 : v'.frozen = v.frozen) (h2 : v'.next = v.next) (h3 : absF v'.files = f (absF v.files)) : (S.setV vol v').abs = updVF S.abs vol f := by
  rw [abs_setV]; unfold updVF updV
  rw [absV_get, hv]; simp only [Option.map_some]
  unfold CV.abs; rw [h1, h2, h3]
theorem abs_setX {S : CS} {vol id : Int} {v : CV} {x x' : CF} {f : PF → PF} (hv : getA vol S.vols = some v) (hx : getA id v.files = some x) (hf : x'.pf = f x.pf) : (S.setX vol id x').abs = updVF S.abs vol fun fs => updF fs id f := by
  rw [setX_is hv]
  refine abs_upd (v := v) hv rfl rfl ?_
  unfold CV.setX absF; simp only
  rw [putA_map (fun x : CF => x.pf), updF_at (x := x.pf) (by have := absF_get (l := v.files) (k := id); rw [hx] at this; exact this), hf]
theorem fileAt_abs {S : CS} {vol id : Int} {v : CV} {x : CF} (hv : getA vol S.vols = some v) (hx : getA id v.files = some x) : fileAt S.abs vol id = some x.pf := by
  unfold fileAt; rw [absV_get, hv]; simp only [Option.map_some, Option.bind_some]; show getA id (absF v.files) = _; rw [absF_get, hx]; rfl
/-- files that are there -/
theorem walkN_some {fs : Fls} (h : WFB fs) : ∀ (names : List Str) (id k : Int), (∃ y, getA id fs = some y) → walkN fs id names = .ok k → ∃ y, getA k fs = some y
  | [], id, k, h0, hw => by cases hw; exact h0
  | s :: ss, id, k, h0, hw => by
    rw [walkN] at hw
    split at hw
    · cases hw
    · rename_i x hx
      split at hw
      · split at hw
        · rename_i m hm
          exact walkN_some h ss m k (h.tgt _ _ _ _ hx hm) hw
        · cases hw
      · cases hw
theorem walkN_err {fs : Fls} (h : WFB fs) : ∀ (names : List Str) (id e : Int), (∃ y, getA id fs = some y) → walkN fs id names = .error e → e = 6 ∨ e = 240
  | [], id, k, h0, hw => by cases hw
  | s :: ss, id, k, h0, hw => by
    rw [walkN] at hw
    split at hw
    · rename_i hn; obtain ⟨y, hy⟩ := h0; rw [hn] at hy; cases hy
    · rename_i x hx
      split at hw
      · split at hw
        · rename_i m hm
          exact walkN_err h ss m k (h.tgt _ _ _ _ hx hm) hw
        · cases hw; exact .inl rfl
      · cases hw; exact .inr rfl
theorem walkS_err {n : Nat} {S : PS} (h : WFS n S) {vol : Int} {names : List Str} {e : Int} (hw : walkS S vol names = .error e) : e = 6 ∨ e = 240 := by
  unfold walkS at hw
  split at hw
  · cases hw; exact .inl rfl
  · rename_i v hv
    have hwf := (h.vol vol v hv).wf
    obtain ⟨r, hr, _⟩ := hwf.root
    exact walkN_err hwf.toWFB names 1 e ⟨r, hr⟩ hw
theorem walk_ok {n : Nat} {S : CS} (h : WFS n S.abs) {vol : Int} {names : List Str} {id : Int} (hw : walkS S.abs vol names = .ok id) : ∃ v x, getA vol S.vols = some v ∧ getA id v.files = some x ∧ WFV n v.abs := by
  unfold walkS at hw
  rw [absV_get] at hw
  cases hv : getA vol S.vols with
  | none => rw [hv] at hw; cases hw
  | some v =>
    rw [hv] at hw
    have hwv := h.vol vol v.abs (by rw [absV_get, hv]; rfl)
    obtain ⟨r, hr, _⟩ := hwv.wf.root
    obtain ⟨y, hy⟩ := walkN_some hwv.wf.toWFB names 1 id ⟨r, hr⟩ hw
    have : getA id (absF v.files) = some y := hy
    rw [absF_get] at this
    cases hx : getA id v.files with
    | none => rw [hx] at this; cases this
    | some x => exact ⟨v, x, rfl, hx, hwv⟩

section
variable {P : Program} {ops : Array Oper} {N : Fs} {F : Fr} {E : Ent} {M : Mem} {L : Lc} {o : Oper}
theorem qPtrNil {x y : Operand} {t t' e : TypeId} {p : Option Addr} (hg : gd ops F o = some true) (ho : o.op = .binOp .eql t x y t') (hx : ev F x = some (.pointer p)) (hy : ev F y = some (.pointer none)) [ht : Und P t (.pointer e)] : QF P ops N F M L o (.bool p.isNone) := qf_of hg fun ac ha w _ => by
  have hp : P.underlying t = some (.pointer (P.pointee t)) := by rw [ht.h]; simp [Program.pointee, ht.h]
  have := run_eql_pointer_nil (P := P) w t p hp
  simp only [execOp, ho, ha.ev hx, ha.ev hy]
  simp [eqGuard, this]
theorem qCallM {x : Operand} {xs : List Operand} {T : Array TypeId} {f : FuncId} {first captured vs all : List Value} {v : Value} {R : Lc} (hg : gd ops F o = some true)
    (ho : o.op = .call { callee := .value x, args := xs.toArray, argTypes := T }) (hx : ev F x = some (.func (.func f) first.toArray captured.toArray)) (hv : evs F xs = some vs) (hall : first ++ vs ++ captured = all) (hgo : isGo P f = true)
    (hR : ∀ p ∈ R, p ∈ L) (hs : SpecL P f all.toArray (addL M R) [] (fun u _ _ => u = v)) : QF P ops N F M L o v := fun a ha =>
  .inl ⟨gd_spec ha hg, fun w hw => by
    have hag : ∀ (R : Lc), (∀ p ∈ R, p ∈ L) → ∀ b o, addL M R b = some o → w.heap[b]? = some o := fun R => by
      induction R with
      | nil => intro _ b o hb; exact hw.agree b o hb
      | cons p R ih =>
        intro hR b o hb
        have hb2 : (if b = p.1 then some p.2 else addL M R b) = some o := hb
        by_cases e : b = p.1
        · rw [if_pos e] at hb2; cases hb2; rw [e]; exact hw.locs p (hR p (List.mem_cons_self ..))
        · rw [if_neg e] at hb2; exact ih (fun q hq => hR q (List.mem_cons_of_mem _ hq)) b o hb2
    have hin : St ⟨w, ([] : Lc).map (·.1), addL M R⟩ (addL M R) [] w :=
      { os := rfl, tape := rfl, output := rfl, size := Nat.le_refl _, same := fun _ _ _ => rfl, fresh := fun _ _ => rfl, agree := hag R hR
        locs := fun p hp => by cases hp
        nodup := by simp }
    rw [run_callOp ho ha hx hv hall hgo w]
    refine ⟨Below.refl _ _, (hs w hin).mono fun e w' hh => ?_⟩
    obtain ⟨u, M', R', rfl, rfl, h⟩ := hh
    exact ⟨rfl, ⟨h.os, h.tape, h.output, h.size, fun k hk => h.same k hk (by simp)⟩⟩⟩
theorem HF.weakL {K : Value → Mem → Lc → Prop} {L1 : Lc} (hp : L.Perm L1) (h : HF P ops N F E M L1 o K) : HF P ops N F E M L o K := fun a w ha hw => h a w ha (hw.perm hp)
end
theorem SpecL.mem {P : Program} {f : FuncId} {args : Array Value} {M : Mem} {L : Lc} {post : Value → Mem → Lc → Prop} (h : (L.map (·.1)).Nodup → (∀ p ∈ L, M p.1 = none) → SpecL P f args M L post) : SpecL P f args M L post := fun w hw => h hw.nodup (fun p hp => (hw.locs p hp).2.2) w hw
theorem addL_in {M : Mem} {R : Lc} (hn : (R.map (·.1)).Nodup) : ∀ p ∈ R, addL M R p.1 = some p.2 := fun _ hp => addL_on hn hp
theorem jc_fact {P : Program} {N : Fs} {c : Code} {F : Fr} {E : Ent} {M : Mem} {L : Lc} {Q : Exit → Act → World → Prop} (h : (L.map (·.1)).Nodup → (∀ p ∈ L, M p.1 = none) → JC P N c F E M L Q) : JC P N c F E M L Q := fun a w ha hw => h hw.nodup (fun p hp => (hw.locs p hp).2.2) a w ha hw
end Go.Proofs.YtdjaehgadehnfaaGreatDoor
