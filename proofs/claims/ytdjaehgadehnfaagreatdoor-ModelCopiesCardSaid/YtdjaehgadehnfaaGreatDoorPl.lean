/- The model in plain words: files, volumes, forests, calls, replies; what each call does. No statement of the seat is proved here. -/
import Derived.Test.YtdjaehgadehnfaaGreatDoorMo
namespace Go.Proofs.YtdjaehgadehnfaaGreatDoor
set_option linter.unusedVariables false
set_option linter.unusedSimpArgs false
open Go.RowKit

abbrev Str := ByteArray
structure PF where
  dir : Bool
  links : Int
  data : List By
  names : List (Str × Int)
abbrev Fls := List (Int × PF)
structure PV where
  frozen : Bool
  next : Int
  files : Fls
structure PS where
  next : Int
  vols : List (Int × PV)
structure CL where
  kind : Int
  path : Str
  other : Str
  a : Int
  b : Int
  c : Int
  data : List By
structure RP where
  err : Int := 0
  id : Int := 0
  data : List By := []
  names : List Str := []
  sid : Int := 0
  sdir : Bool := false
  slinks : Int := 0
  ssize : Int := 0
abbrev Wy := Int × List Str

/-! ### ways -/
def walkN (fs : Fls) : Int → List Str → Except Int Int
  | id, [] => .ok id
  | id, s :: ss => match getA id fs with
    | none => .error 0
    | some x => if x.dir then (match getA s x.names with
      | some k => walkN fs k ss
      | none => .error 6) else .error 240
def walkS (S : PS) (vol : Int) (names : List Str) : Except Int Int := match getA vol S.vols with
  | none => .error 6
  | some v => walkN v.files 1 names
def fileAt (S : PS) (vol id : Int) : Option PF := (getA vol S.vols).bind fun v => getA id v.files
def isDir (S : PS) (vol id : Int) : Bool := match fileAt S vol id with
  | some x => x.dir
  | none => false
def placeS (S : PS) (w : Wy) : Except Int Int := match walkS S w.1 w.2.dropLast with
  | .error e => .error e
  | .ok id => if isDir S w.1 id then .ok id else .error 240
def fileS (S : PS) (w : Wy) : Except Int Int := match walkS S w.1 w.2 with
  | .error e => .error e
  | .ok id => if isDir S w.1 id then .error 240 else .ok id
def lastN (w : Wy) : Str := w.2.getLast?.getD .empty
def namesAt (S : PS) (vol id : Int) : List (Str × Int) := match fileAt S vol id with
  | some x => x.names
  | none => []
def freshS (S : PS) (w : Wy) (vol : Int) (old : Option Int) : Except Int Int :=
  if w.2 = [] then .error 251 else match placeS S w with
    | .error e => .error e
    | .ok id => if w.1 = vol then (if (getA (lastN w) (namesAt S w.1 id)).isSome then .error 251 else if 32 ≤ (namesAt S w.1 id).length ∧ old ≠ some id then .error 4 else .ok id) else .error 2
def frozenS (S : PS) (vol : Int) : Bool := match getA vol S.vols with
  | some v => v.frozen
  | none => false

/-! ### turns -/
def told (e : Int) : RP := { err := e }
def updV (S : PS) (vol : Int) (f : PV → PV) : PS := match getA vol S.vols with
  | some v => { S with vols := putA vol (f v) S.vols }
  | none => S
def updF (fs : Fls) (id : Int) (f : PF → PF) : Fls := match getA id fs with
  | some x => putA id (f x) fs
  | none => fs
def updVF (S : PS) (vol : Int) (f : Fls → Fls) : PS := updV S vol fun v => { v with files := f v.files }
def nmPut (fs : Fls) (d : Int) (s : Str) (k : Int) : Fls := updF fs d fun x => { x with names := putA s k x.names }
def nmDel (fs : Fls) (d : Int) (s : Str) : Fls := updF fs d fun x => { x with names := delA s x.names }
def lnk (fs : Fls) (id : Int) (n : Int) : Fls := updF fs id fun x => { x with links := x.links + n }
def linksAt (fs : Fls) (id : Int) : Int := match getA id fs with
  | some x => x.links
  | none => 0
def sizedB (b : List By) (n : Nat) : List By := if n ≤ b.length then b.take n else b ++ List.replicate (n - b.length) 0
def overB (b : List By) (k : Nat) (d : List By) : List By := b.take k ++ d ++ b.drop (k + d.length)
def writeB (k : Nat) (d b : List By) : List By := if d = [] then b else overB (sizedB b (max b.length (k + d.length))) k d
def punchB (k e : Nat) (b : List By) : List By := b.take (min k b.length) ++ List.replicate (max (min k b.length) (min e b.length) - min k b.length) 0 ++ b.drop (max (min k b.length) (min e b.length))
def inI (n low high : Int) : Bool := decide (low ≤ n) && decide (n ≤ high)
def addS (S : PS) (v : PV) : PS × RP := ({ next := S.next + 1, vols := S.vols ++ [(S.next + 1, v)] }, { id := S.next + 1 })
def makeS (S : PS) : PS × RP := addS S { frozen := false, next := 2, files := [(1, { dir := true, links := 1, data := [], names := [] })] }
def snapS (S : PS) (c : CL) : PS × RP := if inI c.b 0 1 then (match getA c.a S.vols with
  | none => (S, told 6)
  | some v => addS S { v with frozen := decide (c.b = 1) }) else (S, told 2)
def freezeS (S : PS) (c : CL) : PS × RP := if inI c.b 0 1 then (match getA c.a S.vols with
  | none => (S, told 6)
  | some v => ({ S with vols := putA c.a { v with frozen := decide (c.b = 1) } S.vols }, {})) else (S, told 2)
def removeS (S : PS) (c : CL) : PS × RP := match getA c.a S.vols with
  | none => (S, told 6)
  | some _ => ({ S with vols := delA c.a S.vols }, {})
def createS (S : PS) (c : CL) (w : Wy) : PS × RP := match freshS S w w.1 none with
  | .error e => (S, told e)
  | .ok d => if frozenS S w.1 then (S, told 170) else match getA w.1 S.vols with
    | none => (S, told 0)
    | some v => ({ S with vols := putA w.1 { v with next := v.next + 1, files := nmPut (v.files ++ [(v.next, { dir := decide (c.kind = 6), links := 1, data := [], names := [] })]) d (lastN w) v.next } S.vols }, { id := v.next })
def turnS (S : PS) (w : Wy) (ok : Bool) (g : List By → List By) : PS × RP := if ok then (match fileS S w with
  | .error e => (S, told e)
  | .ok id => if frozenS S w.1 then (S, told 170) else (updVF S w.1 fun fs => updF fs id fun x => { x with data := g x.data }, {})) else (S, told 2)
def writeS (S : PS) (c : CL) (w : Wy) : PS × RP := turnS S w (decide (0 ≤ c.a) && decide (c.a ≤ 4096) && decide ((c.data.length : Int) ≤ 4096 - c.a)) (writeB c.a.toNat c.data)
def dataAt (S : PS) (vol id : Int) : List By := match fileAt S vol id with
  | some x => x.data
  | none => []
def readB (k n : Nat) (b : List By) : List By := (b.drop (min k b.length)).take (min (k + n) b.length - min k b.length)
def readS (S : PS) (c : CL) (w : Wy) : PS × RP := if inI c.a 0 4096 && inI c.b 0 4096 then (match fileS S w with
  | .error e => (S, told e)
  | .ok id => (S, { data := readB c.a.toNat c.b.toNat (dataAt S w.1 id) })) else (S, told 2)
def sizeS (S : PS) (c : CL) (w : Wy) : PS × RP := turnS S w (inI c.a 0 4096) fun b => sizedB b c.a.toNat
def punchS (S : PS) (c : CL) (w : Wy) : PS × RP := turnS S w (decide (0 ≤ c.a) && decide (c.a ≤ c.b) && decide (c.b ≤ 4096)) (punchB c.a.toNat c.b.toNat)
def shareOk (c : CL) : Bool := decide (0 ≤ c.a) && decide (0 ≤ c.b) && decide (0 ≤ c.c) && decide (c.c ≤ 4096) && decide (c.a ≤ 4096 - c.c) && decide (c.b ≤ 4096 - c.c) && decide (c.a % 128 = 0) && decide (c.b % 128 = 0) && decide (c.c % 128 = 0)
def shareS (S : PS) (c : CL) (w o : Wy) : PS × RP := if shareOk c then (match fileS S w with
  | .error e => (S, told e)
  | .ok id => turnS S o true (writeB c.b.toNat (((sizedB (dataAt S w.1 id) 4096).drop c.a.toNat).take c.c.toNat))) else (S, told 2)
def linkS (S : PS) (w o : Wy) : PS × RP := match fileS S w with
  | .error e => (S, told e)
  | .ok id => match freshS S o w.1 none with
    | .error e => (S, told e)
    | .ok d => if frozenS S w.1 then (S, told 170) else (updVF S w.1 fun fs => lnk (nmPut fs d (lastN o) id) id 1, {})
def dropLink (fs : Fls) (id : Int) : Fls := if linksAt fs id - 1 = 0 then delA id (lnk fs id (-1)) else lnk fs id (-1)
def unlinkS (S : PS) (w : Wy) : PS × RP := match fileS S w with
  | .error e => (S, told e)
  | .ok id => if frozenS S w.1 then (S, told 170) else match placeS S w with
    | .error _ => (S, told 0)
    | .ok d => (updVF S w.1 fun fs => dropLink (nmDel fs d (lastN w)) id, {})
/-- a directory is another one, or in it -/
inductive Ins (fs : Fls) (t : Int) : Int → Prop
  | here : Ins fs t t
  | down {d k : Int} {x y : PF} {s : Str} (hd : getA d fs = some x) (hs : getA s x.names = some k) (hk : getA k fs = some y) (hy : y.dir = true) (h : Ins fs t k) : Ins fs t d
open Classical in
noncomputable def insD (fs : Fls) (t d : Int) : Bool := decide (Ins fs t d)
theorem insD_yes {fs : Fls} {t d : Int} (h : Ins fs t d) : insD fs t d = true := by unfold insD; simp [h]
theorem insD_no {fs : Fls} {t d : Int} (h : ¬ Ins fs t d) : insD fs t d = false := by unfold insD; simp [h]
noncomputable def insB (S : PS) (vol t d : Int) : Bool := match getA vol S.vols with
  | some v => insD v.files t d
  | none => false
def renameI (ins : PS → Int → Int → Int → Bool) (S : PS) (w o : Wy) : PS × RP := if w.2 = [] then (S, told 260) else match walkS S w.1 w.2 with
  | .error e => (S, told e)
  | .ok id => match placeS S w with
    | .error _ => (S, told 0)
    | .ok d => match freshS S o w.1 (some d) with
      | .error e => (S, told e)
      | .ok t => if isDir S w.1 id && ins S w.1 t id then (S, told 261) else if frozenS S w.1 then (S, told 170) else (updVF S w.1 fun fs => nmPut (nmDel fs d (lastN w)) t (lastN o) id, {})
def unmakeS (S : PS) (w : Wy) : PS × RP := match walkS S w.1 w.2 with
  | .error e => (S, told e)
  | .ok id => if isDir S w.1 id then (if w.2 = [] ∨ 0 < (namesAt S w.1 id).length then (S, told 260) else if frozenS S w.1 then (S, told 170) else match placeS S w with
    | .error _ => (S, told 0)
    | .ok d => (updVF S w.1 fun fs => delA id (nmDel fs d (lastN w)), {})) else (S, told 240)
def leStr (x y : Str) : Bool := decide (x.toList ≤ y.toList)
def listS (S : PS) (w : Wy) : PS × RP := match walkS S w.1 w.2 with
  | .error e => (S, told e)
  | .ok id => if isDir S w.1 id then (S, { names := ((namesAt S w.1 id).map (·.1)).mergeSort leStr }) else (S, told 240)
def statS (S : PS) (w : Wy) : PS × RP := match walkS S w.1 w.2 with
  | .error e => (S, told e)
  | .ok id => match fileAt S w.1 id with
    | some x => (S, { sid := id, sdir := x.dir, slinks := x.links, ssize := x.data.length })
    | none => (S, told 0)
def reapS (S : PS) (c : CL) : PS × RP := if inI c.a 0 1000 then (S, {}) else (S, told 2)

/-- what a call of a kind does -/
def opI (ins : PS → Int → Int → Int → Bool) (S : PS) (c : CL) (w o : Wy) : Nat → PS × RP
  | 1 => makeS S
  | 2 => snapS S c
  | 3 => freezeS S c
  | 4 => removeS S c
  | 5 => createS S c w
  | 6 => createS S c w
  | 7 => writeS S c w
  | 8 => readS S c w
  | 9 => sizeS S c w
  | 10 => punchS S c w
  | 11 => shareS S c w o
  | 12 => linkS S w o
  | 13 => unlinkS S w
  | 14 => renameI ins S w o
  | 15 => unmakeS S w
  | 16 => listS S w
  | 17 => statS S w
  | 18 => reapS S c
  | _ => (S, told 2)
def pathsOf : Nat → Nat
  | 5 => 1 | 6 => 1 | 7 => 1 | 8 => 1 | 9 => 1 | 10 => 1 | 11 => 2 | 12 => 2 | 13 => 1 | 14 => 2 | 15 => 1 | 16 => 1 | 17 => 1 | _ => 0
/-- with a reader of paths -/
def doI (ins : PS → Int → Int → Int → Bool) (part : Str → Option Wy) (S : PS) (c : CL) : PS × RP :=
  if c.kind < 1 ∨ 18 < c.kind then (S, told 2) else
    if pathsOf c.kind.toNat = 0 then opI ins S c (0, []) (0, []) c.kind.toNat else match part c.path with
      | none => (S, told 270)
      | some w => if pathsOf c.kind.toNat = 1 then opI ins S c w (0, []) c.kind.toNat else match part c.other with
        | none => (S, told 270)
        | some o => opI ins S c w o c.kind.toNat
def runI (ins : PS → Int → Int → Int → Bool) (part : Str → Option Wy) : PS → List CL → PS × List RP
  | S, [] => (S, [])
  | S, c :: l => ((runI ins part (doI ins part S c).1 l).1, (doI ins part S c).2 :: (runI ins part (doI ins part S c).1 l).2)
def PS0 : PS := { next := 0, vols := [] }

/-! ### what holds of volumes -/
def cntN (k : Int) (l : List (Str × Int)) : Nat := (l.filter fun q => decide (q.2 = k)).length
def refs (k : Int) : Fls → Nat
  | [] => 0
  | p :: l => cntN k p.2.names + refs k l
def needOf (id : Int) (x : PF) : Int := if id = 1 then 0 else if x.dir then 1 else x.links
structure WFB (fs : Fls) : Prop where
  nd : (keysA fs).Nodup
  root : ∃ r, getA 1 fs = some r ∧ r.dir = true
  tgt : ∀ d x s k, getA d fs = some x → getA s x.names = some k → ∃ y, getA k fs = some y
  leaf : ∀ d x, getA d fs = some x → x.dir = false → x.names = []
  nmd : ∀ d x, getA d fs = some x → (keysA x.names).Nodup
  rank : ∃ r : Int → Nat, ∀ d x s k y, getA d fs = some x → getA s x.names = some k → getA k fs = some y → y.dir = true → r k < r d
  len : ∀ d x, getA d fs = some x → x.data.length ≤ 4096 ∧ x.names.length ≤ 32
structure WFF (fs : Fls) : Prop extends WFB fs where
  need : ∀ d x, getA d fs = some x → (refs d fs : Int) = needOf d x
  pos : ∀ d x, getA d fs = some x → x.dir = false → 1 ≤ x.links
structure WFV (n : Nat) (v : PV) : Prop where
  wf : WFF v.files
  two : 2 ≤ v.next
  most : v.next ≤ 2 + n
  rng : ∀ d x, getA d v.files = some x → 1 ≤ d ∧ d < v.next ∧ 0 ≤ x.links ∧ x.links ≤ 1 + n
  nmz : ∀ d x q, getA d v.files = some x → q ∈ x.names → q.1.size ≤ 64
structure WFS (n : Nat) (S : PS) : Prop where
  nd : (keysA S.vols).Nodup
  low : 0 ≤ S.next
  most : S.next ≤ n
  rng : ∀ k v, getA k S.vols = some v → 1 ≤ k ∧ k ≤ S.next
  vol : ∀ k v, getA k S.vols = some v → WFV n v
theorem WFS.zero : WFS 0 PS0 := ⟨by simp [PS0], by simp [PS0], by simp [PS0], fun _ _ h => (by cases h), fun _ _ h => (by cases h)⟩
theorem WFV.more {n m : Nat} (h : n ≤ m) {v : PV} (k : WFV n v) : WFV m v := ⟨k.wf, k.two, by have := k.most; omega, fun d x hd => by have := k.rng d x hd; omega, k.nmz⟩
theorem WFS.more {n m : Nat} (h : n ≤ m) {S : PS} (k : WFS n S) : WFS m S := ⟨k.nd, k.low, by have := k.most; omega, k.rng, fun a v hv => (k.vol a v hv).more h⟩

/-! ### counts -/
theorem cnt_put {k : Int} {s : Str} {id : Int} {l : List (Str × Int)} (h : getA s l = none) : cntN k (putA s id l) = cntN k l + if k = id then 1 else 0 := by
  rw [putA_new (getA_none.1 h)]; unfold cntN
  rw [List.filter_append, List.length_append]
  congr 1
  by_cases e : k = id
  · simp [e]
  · have : ¬ id = k := fun h => e h.symm
    simp [e, this]
theorem cnt_del {k : Int} {s : Str} {id : Int} {l : List (Str × Int)} (hn : (keysA l).Nodup) (h : getA s l = some id) : cntN k (delA s l) + (if k = id then 1 else 0) = cntN k l := by
  obtain ⟨A, B, rfl, hA⟩ := getA_split h
  rw [delA_mid hn]; unfold cntN
  simp only [List.filter_append, List.length_append, List.filter_cons]
  by_cases e : k = id
  · simp [e]; omega
  · have : ¬ id = k := fun h => e h.symm
    simp [e, this]
theorem refs_append {k : Int} : ∀ {l m : Fls}, refs k (l ++ m) = refs k l + refs k m
  | [], m => by simp [refs]
  | p :: l, m => by rw [List.cons_append, refs, refs, refs_append]; omega
theorem refs_put {k d : Int} {x x' : PF} {fs : Fls} (h : getA d fs = some x) : refs k (putA d x' fs) + cntN k x.names = refs k fs + cntN k x'.names := by
  obtain ⟨A, B, rfl, hA⟩ := getA_split h
  rw [putA_mid hA, refs_append, refs_append, refs, refs]; simp only; omega
theorem refs_del {k d : Int} {x : PF} {fs : Fls} (hn : (keysA fs).Nodup) (h : getA d fs = some x) : refs k (delA d fs) + cntN k x.names = refs k fs := by
  obtain ⟨A, B, rfl, hA⟩ := getA_split h
  rw [delA_mid hn, refs_append, refs_append, refs]; simp only; omega
theorem cnt_pos {k : Int} {s : Str} {l : List (Str × Int)} (h : getA s l = some k) : 1 ≤ cntN k l := by
  obtain ⟨A, B, rfl, hA⟩ := getA_split h
  unfold cntN
  simp only [List.filter_append, List.length_append, List.filter_cons]
  simp; omega
theorem refs_pos {k d : Int} {x : PF} {s : Str} {fs : Fls} (h : getA d fs = some x) (hs : getA s x.names = some k) : 1 ≤ refs k fs := by
  obtain ⟨A, B, rfl, hA⟩ := getA_split h
  have := cnt_pos hs
  rw [refs_append, refs]; simp only; omega
theorem refs_none {k : Int} : ∀ {fs : Fls}, (∀ p ∈ fs, ∀ q ∈ p.2.names, q.2 ≠ k) → refs k fs = 0
  | [], _ => rfl
  | p :: l, h => by
    have : cntN k p.2.names = 0 := by
      unfold cntN
      rw [List.length_eq_zero_iff, List.filter_eq_nil_iff]
      intro q hq
      simpa using h p (by simp) q hq
    rw [refs, this, refs_none fun q hq => h q (by simp [hq])]
theorem WFB.fresh {fs : Fls} (h : WFB fs) {k : Int} (hk : getA k fs = none) : refs k fs = 0 := refs_none fun p hp q hq e => by
  have h1 : getA p.1 fs = some p.2 := getA_of h.nd hp
  have h2 : getA q.1 p.2.names = some q.2 := getA_of (h.nmd _ _ h1) hq
  obtain ⟨y, hy⟩ := h.tgt _ _ _ _ h1 h2
  rw [e, hk] at hy; cases hy

theorem updF_at {fs : Fls} {id : Int} {x : PF} {f : PF → PF} (h : getA id fs = some x) : updF fs id f = putA id (f x) fs := by unfold updF; rw [h]
theorem keys_upd {fs : Fls} {id : Int} {f : PF → PF} : keysA (updF fs id f) = keysA fs := by
  unfold updF
  split
  · rename_i x h
    rw [keysA_put, if_pos (by have := getA_mem h; exact List.mem_map.2 ⟨_, this, rfl⟩)]
  · rfl
theorem getA_upd {fs : Fls} {id d : Int} {f : PF → PF} : getA d (updF fs id f) = if d = id then (getA d fs).map f else getA d fs := by
  unfold updF
  split
  · rename_i x h
    rw [getA_put]
    by_cases e : d = id
    · rw [if_pos e, if_pos e, e, h]; rfl
    · rw [if_neg e, if_neg e]
  · rename_i h
    by_cases e : d = id
    · rw [if_pos e, e, h]; rfl
    · rw [if_neg e]
theorem delA_nodup {α : Type} {k : Int} {l : List (Int × α)} (h : (keysA l).Nodup) : (keysA (delA k l)).Nodup := h.sublist (List.Sublist.map _ (List.filter_sublist))

/-! ### what the turns keep -/
/-- a turn that leaves names and kinds as they are -/
theorem WFB.upd {fs : Fls} (h : WFB fs) {id : Int} {f : PF → PF} (h1 : ∀ x, (f x).dir = x.dir) (h2 : ∀ x, (f x).names = x.names) (h3 : ∀ x, getA id fs = some x → (f x).data.length ≤ 4096) : WFB (updF fs id f) := by
  have back : ∀ d x, getA d (updF fs id f) = some x → ∃ x0, getA d fs = some x0 ∧ x.dir = x0.dir ∧ x.names = x0.names ∧ (x.data = x0.data ∨ d = id ∧ x = f x0) := fun d x hd => by
    rw [getA_upd] at hd
    split at hd
    · rename_i e
      cases hx : getA d fs with
      | none => rw [hx] at hd; cases hd
      | some x0 => rw [hx] at hd; cases hd; exact ⟨x0, rfl, h1 _, h2 _, .inr ⟨e, rfl⟩⟩
    · exact ⟨x, hd, rfl, rfl, .inl rfl⟩
  have fwd : ∀ d x, getA d fs = some x → ∃ x1, getA d (updF fs id f) = some x1 ∧ x1.dir = x.dir := fun d x hd => by
    rw [getA_upd, hd]
    split
    · exact ⟨_, rfl, h1 _⟩
    · exact ⟨_, rfl, rfl⟩
  refine { nd := by rw [keys_upd]; exact h.nd, root := ?_, tgt := ?_, leaf := ?_, nmd := ?_, rank := ?_, len := ?_ }
  · obtain ⟨r, hr, hd⟩ := h.root
    obtain ⟨r1, hr1, hd1⟩ := fwd 1 r hr
    exact ⟨r1, hr1, hd1.trans hd⟩
  · intro d x s k hd hs
    obtain ⟨x0, e1, e2, e3, _⟩ := back d x hd
    rw [e3] at hs
    obtain ⟨y, hy⟩ := h.tgt d x0 s k e1 hs
    obtain ⟨y1, hy1, _⟩ := fwd k y hy
    exact ⟨y1, hy1⟩
  · intro d x hd hx
    obtain ⟨x0, e1, e2, e3, _⟩ := back d x hd
    rw [e3]; exact h.leaf d x0 e1 (by rw [← e2]; exact hx)
  · intro d x hd
    obtain ⟨x0, e1, e2, e3, _⟩ := back d x hd
    rw [e3]; exact h.nmd d x0 e1
  · obtain ⟨r, hr⟩ := h.rank
    refine ⟨r, fun d x s k y hd hs hk hy => ?_⟩
    obtain ⟨x0, e1, e2, e3, _⟩ := back d x hd
    obtain ⟨y0, f1, f2, f3, _⟩ := back k y hk
    exact hr d x0 s k y0 e1 (by rw [← e3]; exact hs) f1 (by rw [← f2]; exact hy)
  · intro d x hd
    obtain ⟨x0, e1, e2, e3, e4⟩ := back d x hd
    rw [e3]
    refine ⟨?_, (h.len d x0 e1).2⟩
    rcases e4 with e4 | ⟨e4, e5⟩
    · rw [e4]; exact (h.len d x0 e1).1
    · rw [e5]; exact h3 x0 (by rw [← e4]; exact e1)
theorem refs_same {fs : Fls} {id : Int} {f : PF → PF} (h : ∀ x, (f x).names = x.names) (k : Int) : refs k (updF fs id f) = refs k fs := by
  cases hx : getA id fs with
  | none => unfold updF; rw [hx]
  | some x =>
    rw [updF_at hx]
    have := refs_put (k := k) (x' := f x) hx
    rw [h x] at this; omega
/-- a name is put in -/
theorem WFB.put {fs : Fls} (h : WFB fs) {d k : Int} {x y : PF} {s : Str} (hd : getA d fs = some x) (hdir : x.dir = true) (hs : getA s x.names = none) (hk : getA k fs = some y) (hins : y.dir = true → ¬ Ins fs d k) (hlen : x.names.length < 32) : WFB (nmPut fs d s k) := by
  have back : ∀ e z, getA e (nmPut fs d s k) = some z → ∃ z0, getA e fs = some z0 ∧ z.dir = z0.dir ∧ z.data = z0.data ∧ ((e ≠ d ∧ z.names = z0.names) ∨ (e = d ∧ z0 = x ∧ z.names = putA s k x.names)) := fun e z he => by
    unfold nmPut at he
    rw [getA_upd] at he
    split at he
    · rename_i ed
      rw [ed, hd] at he; cases he
      exact ⟨x, by rw [ed]; exact hd, rfl, rfl, .inr ⟨ed, rfl, rfl⟩⟩
    · rename_i ed; exact ⟨z, he, rfl, rfl, .inl ⟨ed, rfl⟩⟩
  have fwd : ∀ e z, getA e fs = some z → ∃ z1, getA e (nmPut fs d s k) = some z1 ∧ z1.dir = z.dir := fun e z he => by
    unfold nmPut
    rw [getA_upd, he]
    split
    · exact ⟨_, rfl, rfl⟩
    · exact ⟨_, rfl, rfl⟩
  have edge : ∀ e z u m, getA e (nmPut fs d s k) = some z → getA u z.names = some m → (∃ z0, getA e fs = some z0 ∧ getA u z0.names = some m) ∨ (e = d ∧ m = k) := fun e z u m he hu => by
    obtain ⟨z0, a1, a2, a3, a4⟩ := back e z he
    rcases a4 with ⟨_, a4⟩ | ⟨a4, a5, a6⟩
    · exact .inl ⟨z0, a1, by rw [← a4]; exact hu⟩
    · rw [a6, getA_put] at hu
      split at hu
      · cases hu; exact .inr ⟨a4, rfl⟩
      · exact .inl ⟨x, by rw [a4]; exact hd, hu⟩
  refine { nd := by unfold nmPut; rw [keys_upd]; exact h.nd, root := ?_, tgt := ?_, leaf := ?_, nmd := ?_, rank := ?_, len := ?_ }
  · obtain ⟨r, hr, hd⟩ := h.root
    obtain ⟨r1, hr1, hd1⟩ := fwd 1 r hr
    exact ⟨r1, hr1, hd1.trans hd⟩
  · intro e z u m he hu
    rcases edge e z u m he hu with ⟨z0, a1, a2⟩ | ⟨_, rfl⟩
    · obtain ⟨q, hq⟩ := h.tgt e z0 u m a1 a2
      obtain ⟨q1, hq1, _⟩ := fwd m q hq
      exact ⟨q1, hq1⟩
    · obtain ⟨q1, hq1, _⟩ := fwd _ y hk
      exact ⟨q1, hq1⟩
  · intro e z he hz
    obtain ⟨z0, a1, a2, a3, a4⟩ := back e z he
    rcases a4 with ⟨_, a4⟩ | ⟨_, a5, _⟩
    · rw [a4]; exact h.leaf e z0 a1 (by rw [← a2]; exact hz)
    · rw [a2, a5, hdir] at hz; cases hz
  · intro e z he
    obtain ⟨z0, a1, a2, a3, a4⟩ := back e z he
    rcases a4 with ⟨_, a4⟩ | ⟨_, a5, a6⟩
    · rw [a4]; exact h.nmd e z0 a1
    · rw [a6, putA_new (getA_none.1 hs), keysA, List.map_append]
      refine List.nodup_append.2 ⟨h.nmd d x hd, by simp, fun a ha b hb => ?_⟩
      simp only [List.map_cons, List.map_nil, List.mem_singleton] at hb
      rw [hb]; intro e; exact getA_none.1 hs (by rw [← e]; exact ha)
  · obtain ⟨r, hr⟩ := h.rank
    by_cases hy : y.dir = true
    · classical
      refine ⟨fun m => if Ins fs d m then r m + (r k + 1) else r m, fun e z u m q he hu hm hq => ?_⟩
      obtain ⟨q0, b1, b2, _⟩ := back m q hm
      rcases edge e z u m he hu with ⟨z0, a1, a2⟩ | ⟨rfl, rfl⟩
      · have h1 := hr e z0 u m q0 a1 a2 b1 (by rw [← b2]; exact hq)
        by_cases hi : Ins fs d m
        · have : Ins fs d e := .down a1 a2 b1 (by rw [← b2]; exact hq) hi
          simp only [if_pos hi, if_pos this]; omega
        · by_cases hi2 : Ins fs d e
          · simp only [if_neg hi, if_pos hi2]; omega
          · simp only [if_neg hi, if_neg hi2]; omega
      · simp only [if_pos Ins.here, if_neg (hins hy)]; omega
    · refine ⟨r, fun e z u m q he hu hm hq => ?_⟩
      obtain ⟨q0, b1, b2, _⟩ := back m q hm
      rcases edge e z u m he hu with ⟨z0, a1, a2⟩ | ⟨rfl, rfl⟩
      · exact hr e z0 u m q0 a1 a2 b1 (by rw [← b2]; exact hq)
      · rw [hk] at b1; cases b1; rw [b2] at hq; exact absurd hq hy
  · intro e z he
    obtain ⟨z0, a1, a2, a3, a4⟩ := back e z he
    rw [a3]
    refine ⟨(h.len e z0 a1).1, ?_⟩
    rcases a4 with ⟨_, a4⟩ | ⟨_, a5, a6⟩
    · rw [a4]; exact (h.len e z0 a1).2
    · rw [a6, putA_new (getA_none.1 hs), List.length_append, List.length_singleton]; omega
theorem refs_nmPut {fs : Fls} {d k m : Int} {x : PF} {s : Str} (hd : getA d fs = some x) (hs : getA s x.names = none) : refs m (nmPut fs d s k) = refs m fs + if m = k then 1 else 0 := by
  unfold nmPut; rw [updF_at hd]
  have := refs_put (k := m) (x' := { x with names := putA s k x.names }) hd
  have h2 := cnt_put (k := m) (id := k) hs
  simp only at this; omega
/-- a name is taken out -/
theorem nmDel_back {fs : Fls} {d : Int} {s : Str} {e : Int} {z : PF} (he : getA e (nmDel fs d s) = some z) : ∃ z0, getA e fs = some z0 ∧ z.dir = z0.dir ∧ z.data = z0.data ∧ z.links = z0.links ∧ ((e ≠ d ∧ z.names = z0.names) ∨ (e = d ∧ z.names = delA s z0.names)) := by
  unfold nmDel at he
  rw [getA_upd] at he
  split at he
  · rename_i ed
    cases hx : getA e fs with
    | none => rw [hx] at he; cases he
    | some x => rw [hx] at he; cases he; exact ⟨x, rfl, rfl, rfl, rfl, .inr ⟨ed, rfl⟩⟩
  · rename_i ed; exact ⟨z, he, rfl, rfl, rfl, .inl ⟨ed, rfl⟩⟩
theorem nmDel_fwd {fs : Fls} {d : Int} {s : Str} {e : Int} {z : PF} (he : getA e fs = some z) : ∃ z1, getA e (nmDel fs d s) = some z1 ∧ z1.dir = z.dir ∧ z1.links = z.links ∧ z1.data = z.data ∧ z1.names = if e = d then delA s z.names else z.names := by
  unfold nmDel
  rw [getA_upd, he]
  split
  · rename_i h; exact ⟨_, rfl, rfl, rfl, rfl, rfl⟩
  · rename_i h; exact ⟨_, rfl, rfl, rfl, rfl, rfl⟩
theorem nmDel_edge {fs : Fls} {d : Int} {s : Str} {e : Int} {z : PF} {u : Str} {m : Int} (he : getA e (nmDel fs d s) = some z) (hu : getA u z.names = some m) : ∃ z0, getA e fs = some z0 ∧ getA u z0.names = some m := by
  obtain ⟨z0, a1, _, _, _, a4⟩ := nmDel_back he
  rcases a4 with ⟨_, a4⟩ | ⟨_, a4⟩
  · exact ⟨z0, a1, by rw [← a4]; exact hu⟩
  · rw [a4, getA_del] at hu
    split at hu
    · cases hu
    · exact ⟨z0, a1, hu⟩
theorem WFB.del {fs : Fls} (h : WFB fs) {d : Int} {s : Str} : WFB (nmDel fs d s) := by
  refine { nd := by unfold nmDel; rw [keys_upd]; exact h.nd, root := ?_, tgt := ?_, leaf := ?_, nmd := ?_, rank := ?_, len := ?_ }
  · obtain ⟨r, hr, hd⟩ := h.root
    obtain ⟨r1, hr1, hd1, _⟩ := nmDel_fwd (d := d) (s := s) hr
    exact ⟨r1, hr1, hd1.trans hd⟩
  · intro e z u m he hu
    obtain ⟨z0, a1, a2⟩ := nmDel_edge he hu
    obtain ⟨q, hq⟩ := h.tgt e z0 u m a1 a2
    obtain ⟨q1, hq1, _⟩ := nmDel_fwd (d := d) (s := s) hq
    exact ⟨q1, hq1⟩
  · intro e z he hz
    obtain ⟨z0, a1, a2, _, _, a4⟩ := nmDel_back he
    have := h.leaf e z0 a1 (by rw [← a2]; exact hz)
    rcases a4 with ⟨_, a4⟩ | ⟨_, a4⟩
    · rw [a4, this]
    · rw [a4, this]; rfl
  · intro e z he
    obtain ⟨z0, a1, a2, _, _, a4⟩ := nmDel_back he
    have := h.nmd e z0 a1
    rcases a4 with ⟨_, a4⟩ | ⟨_, a4⟩
    · rw [a4]; exact this
    · rw [a4]; exact this.sublist (List.Sublist.map _ List.filter_sublist)
  · obtain ⟨r, hr⟩ := h.rank
    refine ⟨r, fun e z u m q he hu hm hq => ?_⟩
    obtain ⟨z0, a1, a2⟩ := nmDel_edge he hu
    obtain ⟨q0, b1, b2, _⟩ := nmDel_back hm
    exact hr e z0 u m q0 a1 a2 b1 (by rw [← b2]; exact hq)
  · intro e z he
    obtain ⟨z0, a1, a2, a3, _, a4⟩ := nmDel_back he
    rw [a3]
    refine ⟨(h.len e z0 a1).1, ?_⟩
    have := (h.len e z0 a1).2
    rcases a4 with ⟨_, a4⟩ | ⟨_, a4⟩
    · rw [a4]; exact this
    · rw [a4]; exact Nat.le_trans (List.length_filter_le _ _) this
theorem refs_nmDel {fs : Fls} (h : WFB fs) {d k m : Int} {x : PF} {s : Str} (hd : getA d fs = some x) (hs : getA s x.names = some k) : refs m (nmDel fs d s) + (if m = k then 1 else 0) = refs m fs := by
  unfold nmDel; rw [updF_at hd]
  have := refs_put (k := m) (x' := { x with names := delA s x.names }) hd
  have h2 := cnt_del (k := m) (h.nmd d x hd) hs
  simp only at this; omega
theorem Ins.of_nmDel {fs : Fls} {d : Int} {s : Str} {t e : Int} (h : Ins (nmDel fs d s) t e) : Ins fs t e := by
  induction h with
  | here => exact .here
  | down hd hs hk hy _ ih =>
    obtain ⟨z0, a1, a2⟩ := nmDel_edge hd hs
    obtain ⟨q0, b1, b2, _⟩ := nmDel_back hk
    exact .down a1 a2 b1 (by rw [← b2]; exact hy) ih
/-- a file to which nothing refers, and that has no names, goes -/
theorem WFB.gone {fs : Fls} (h : WFB fs) {id : Int} {x : PF} (hx : getA id fs = some x) (h1 : id ≠ 1) (h0 : refs id fs = 0) : WFB (delA id fs) := by
  have back : ∀ e z, getA e (delA id fs) = some z → getA e fs = some z ∧ e ≠ id := fun e z he => by
    rw [getA_del] at he
    split at he
    · cases he
    · rename_i h; exact ⟨he, h⟩
  refine { nd := delA_nodup h.nd, root := ?_, tgt := ?_, leaf := fun e z he => h.leaf e z (back e z he).1, nmd := fun e z he => h.nmd e z (back e z he).1, rank := ?_, len := fun e z he => h.len e z (back e z he).1 }
  · obtain ⟨r, hr, hd⟩ := h.root
    exact ⟨r, by rw [getA_del, if_neg (Ne.symm h1)]; exact hr, hd⟩
  · intro e z u m he hu
    obtain ⟨y, hy⟩ := h.tgt e z u m (back e z he).1 hu
    refine ⟨y, ?_⟩
    rw [getA_del, if_neg (fun e2 => ?_)]
    · exact hy
    · have := refs_pos (back e z he).1 hu
      rw [e2] at this; omega
  · obtain ⟨r, hr⟩ := h.rank
    exact ⟨r, fun e z u m q he hu hm hq => hr e z u m q (back e z he).1 hu (back m q hm).1 hq⟩
/-- a file without names comes -/
theorem WFB.come {fs : Fls} (h : WFB fs) {id : Int} {x : PF} (hx : getA id fs = none) (h1 : x.names = []) (h2 : x.data = []) : WFB (fs ++ [(id, x)]) := by
  have get : ∀ e, getA e (fs ++ [(id, x)]) = if e = id then some x else getA e fs := fun e => by
    rw [← putA_new (v := x) (getA_none.1 hx), getA_put]
  have back : ∀ e z, getA e (fs ++ [(id, x)]) = some z → (e ≠ id ∧ getA e fs = some z) ∨ (e = id ∧ z = x) := fun e z he => by
    rw [get] at he
    split at he
    · rename_i h; cases he; exact .inr ⟨h, rfl⟩
    · rename_i h; exact .inl ⟨h, he⟩
  have fwd : ∀ e z, getA e fs = some z → getA e (fs ++ [(id, x)]) = some z := fun e z he => by
    rw [get, if_neg (fun e2 => by rw [e2, hx] at he; cases he)]; exact he
  refine { nd := ?_, root := ?_, tgt := ?_, leaf := ?_, nmd := ?_, rank := ?_, len := ?_ }
  · rw [keysA, List.map_append]
    refine List.nodup_append.2 ⟨h.nd, by simp, fun a ha b hb => ?_⟩
    simp only [List.map_cons, List.map_nil, List.mem_singleton] at hb
    rw [hb]; intro e; exact getA_none.1 hx (by rw [← e]; exact ha)
  · obtain ⟨r, hr, hd⟩ := h.root
    exact ⟨r, fwd _ _ hr, hd⟩
  · intro e z u m he hu
    rcases back e z he with ⟨_, a1⟩ | ⟨_, rfl⟩
    · obtain ⟨y, hy⟩ := h.tgt e z u m a1 hu; exact ⟨y, fwd _ _ hy⟩
    · rw [h1] at hu; cases hu
  · intro e z he hz
    rcases back e z he with ⟨_, a1⟩ | ⟨_, rfl⟩
    · exact h.leaf e z a1 hz
    · exact h1
  · intro e z he
    rcases back e z he with ⟨_, a1⟩ | ⟨_, rfl⟩
    · exact h.nmd e z a1
    · rw [h1]; simp
  · obtain ⟨r, hr⟩ := h.rank
    refine ⟨r, fun e z u m q he hu hm hq => ?_⟩
    rcases back e z he with ⟨_, a1⟩ | ⟨_, rfl⟩
    · rcases back m q hm with ⟨_, b1⟩ | ⟨b0, rfl⟩
      · exact hr e z u m q a1 hu b1 hq
      · obtain ⟨y, hy⟩ := h.tgt e z u m a1 hu
        rw [b0, hx] at hy; cases hy
    · rw [h1] at hu; cases hu
  · intro e z he
    rcases back e z he with ⟨_, a1⟩ | ⟨_, rfl⟩
    · exact h.len e z a1
    · rw [h1, h2]; simp
theorem refs_come {fs : Fls} {id k : Int} {x : PF} (h1 : x.names = []) : refs k (fs ++ [(id, x)]) = refs k fs := by
  rw [refs_append]; simp [refs, h1, cntN]
end Go.Proofs.YtdjaehgadehnfaaGreatDoor
