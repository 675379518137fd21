/- THE WALKING LAYER, fifth part: slices of slices, literals, copy, make, strings. No statement of the seat is proved here. -/
import Derived.Test.YtdahhoicackcaaaGreatZHb
namespace Go.Proofs.YtdahhoicackcaaaGreat
set_option linter.unusedSimpArgs false
set_option linter.unusedVariables false
set_option linter.unusedSectionVars false
open Go.RowKit
set_option maxRecDepth 8000
def gd(ops:Array Oper)(F:Fr)(o:Oper):Option Bool:=
 match o.guard with
 |none=>some true
 |some (j,want)=>match (ops[j]?).bind (·.dst)with
  |some d=>match lk d F with
   |some (.bool b)=>some (b==want)
   |some (.tuple _)=>some false
   |_=>none
  |none=>none
variable{F:Fr}{N:Fs}{a:Act}{o:Oper}{ops:Array Oper}
theorem FN{b:Bool}(g:Has N F a)(h:gd ops F o=some b):Region.wanted o (yielded ops a.tmps)=b:=by
 unfold gd at h
 unfold Region.wanted
 cases i:o.guard with
 |none=>grind
 |some k=>
  obtain⟨j,c⟩:=k
  rw[i]at h
  simp only at h⊢
  split at h
  ·rename_i d f
   split at h
   ·rename_i l e
    cases h
    have:=g.get d _ e
    cases l<;>cases c<;>simp[yielded,f,this]
   ·rename_i m e
    cases h
    have:=g.get d _ e
    simp[yielded,f,this]
   grind
  grind
def pv(F:Fr):Op->Option Value
 |.move x=>ev F x
 |.assign x=>ev F x
 |.pick c a b=>match ev F c with
  |some (.bool true)=>ev F a
  |some (.bool false)=>ev F b
  |_=>none
 |.extract t i=>match ev F t with
  |some (.tuple vs)=>vs[i]?
  |_=>none
 |.binOp op _ x y _=>match ev F x,ev F y with
  |some (.int k a),some (.int k' b)=>if k=k' then
    match op with
    |.add=>some (.int k (k.wrap (a+b)))
    |.sub=>some (.int k (k.wrap (a-b)))
    |.mul=>some (.int k (k.wrap (a*b)))
    |.eql=>some (.bool (decide (a=b)))
    |.neq=>some (.bool (decide (¬a=b)))
    |.lss=>some (.bool (decide (a<b)))
    |.leq=>some (.bool (decide (a<=b)))
    |.gtr=>some (.bool (decide (b<a)))
    |.geq=>some (.bool (decide (b<=a)))
    |_=>none
   else none
  |some (.string a),some (.string b)=>match op with
    |.eql=>some (.bool (a.toList==b.toList))
    |.neq=>some (.bool (!(a.toList==b.toList)))
    |_=>none
  |_,_=>none
 |.unOp .not _ x=>match ev F x with
  |some (.bool b)=>some (.bool (!b))
  |_=>none
 |.makeFunc fn first captured=>match evs F first.toList,evs F captured.toList with
  |some a,some b=>some (.func fn a.toArray b.toArray)
  |_,_=>none
 |_=>none
section
variable{P:Program}{ops:Array Oper}{N:Fs}{F:Fr}{E:Ent}{M:Mem}{L:Lc}{o:Oper}
theorem wHf{a:Act}(d:Has N F a){v:Value}(h:pv F o.op=some v)(w:World):(execOp a.eval o).run P w=.ok (.value v) w:=by
 obtain⟨H,z,s,u,r,n⟩:=o
 simp only at h
 unfold pv at h
 split at h
 ·simp only[execOp,d.ev h,Sem.run_pure]
 ·simp only[execOp,d.ev h,Sem.run_pure]
 ·rename_i c x y
  split at h
  ·rename_i l;simp[execOp,d.ev l,d.ev h,asBool]
  ·rename_i l;simp[execOp,d.ev l,d.ev h,asBool]
  grind
 ·rename_i t i
  split at h
  ·rename_i K B;simp[execOp,d.ev B,Instr.extract,h]
  grind
 ·rename_i z J x y I
  split at h
  ·rename_i k b L c j m
   split at h
   ·rename_i C;subst C
    split at h<;>first|cases h|skip
    all_goals (simp only[execOp,d.ev j,d.ev m];simp[eqGuard,binOp,Op.intArith,Op.intCmp])
    all_goals (by_cases e:b=c<;>simp[e])
   grind
  ·rename_i b c j m
   split at h<;>first|cases h|skip
   all_goals (simp only[execOp,d.ev j,d.ev m];simp[eqGuard,binOp,Op.stringOp])
  grind
 ·rename_i t x
  split at h
  ·rename_i b j;cases h;simp[execOp,d.ev j,Op.unary]
  grind
 ·rename_i M first g
  split at h
  ·rename_i b c D l
   cases h
   have G:=d.evs D
   have E:=d.evs l
   have e:∀(f:Operand->Value)(xs:Array Operand),xs.map f=(xs.toList.map f).toArray:=λf xs=>by rw[<-Array.toList_map,Array.toArray_toList]
   simp only[execOp,Instr.makeFunc,e,G,E,Sem.run_bind,Sem.run_pure,Result.andThen_ok]
  grind
 grind
theorem BG{v:Value}(d:gd ops F o=some true)(h:∀a,Has N F a->∀w,Js M L w->(execOp a.eval o).run P w=.ok (.value v) w):QF P ops N F M L o v:=λa b=>
 .inl ⟨FN b d,λw c=>by rw[h a b w c];exact⟨rfl,Below.refl _ _⟩⟩
theorem qP{v:Value}(a:gd ops F o=some true)(h:pv F o.op=some v):QF P ops N F M L o v:=BG a λ_ b w _=>wHf b h w
theorem qS(a:gd ops F o=some false):QF P ops N F M L o undef:=λ_ b=>.inr ⟨FN b a,rfl⟩
theorem Bc{v v':Value}(h:QF P ops N F M L o v)(e:v=v'):QF P ops N F M L o v':=e▸h
def DG(N:Fs)(ops:Array Oper)(F:Fr)(o:Oper):Option (Nat×Value):=
 match o.dst with
 |some d=>bif Nat.blt d N.n then match gd ops F o with
  |some true=>match pv F o.op with
   |some v=>some (d,v)
   |none=>none
  |some false=>some (d,undef)
  |none=>none
  else none
 |none=>none
theorem CO{d:Nat}{v:Value}(h:DG N ops F o=some (d,v)):o.dst=some d/\Nat.blt d N.n=true/\∀P M L,QF P ops N F M L o v:=by
 grind[DG,qP,qS]
variable{Q:Exit->Act->World->Prop}{rest:List Oper}{d:Nat}
theorem jp{v:Value}(h:DG N ops F o=some (d,v))(k:JL P ops N Q rest ((d,v)::F) E M L):JL P ops N Q (o::rest) F E M L:=
 Kn (CO h).1 (CO h).2.1 ((CO h).2.2 P M L) k
theorem jt{b:Bool}(h:DG N ops F o=some (d,.bool b))(a:b=true)(k:JL P ops N Q rest ((d,.bool true)::F) E M L):JL P ops N Q (o::rest) F E M L:=jp h (by rw[a];exact k)
theorem jf{b:Bool}(h:DG N ops F o=some (d,.bool b))(a:b=false)(k:JL P ops N Q rest ((d,.bool false)::F) E M L):JL P ops N Q (o::rest) F E M L:=jp h (by rw[a];exact k)
theorem js{p:Prop}{_:Decidable p}(h:DG N ops F o=some (d,.bool (decide p)))(c:p->JL P ops N Q rest ((d,.bool true)::F) E M L)(b:¬p->JL P ops N Q rest ((d,.bool false)::F) E M L):JL P ops N Q (o::rest) F E M L:=by
 by_cases a:p
 ·exact jt h (decide_eq_true a) (c a)
 exact jf h (decide_eq_false a) (b a)
theorem Zi{b:Bool}(h:DG N ops F o=some (d,.bool b))(e:b=true->JL P ops N Q rest ((d,.bool true)::F) E M L)(c:b=false->JL P ops N Q rest ((d,.bool false)::F) E M L):JL P ops N Q (o::rest) F E M L:=by
 cases a:b
 ·exact jf h a (c a)
 exact jt h a (e a)
def ar:BinOp->Int->Int->Option Int
 |.add,a,b=>some (a+b)
 |.sub,a,b=>some (a-b)
 |.mul,a,b=>some (a*b)
 |_,_,_=>none
def Xs(N:Fs)(ops:Array Oper)(F:Fr)(o:Oper):Option (Nat×Int):=
 match o.dst,gd ops F o,o.op with
 |some d,some true,.binOp op _ x y _=>bif Nat.blt d N.n then match ev F x,ev F y with
  |some (.int .i64 a),some (.int .i64 b)=>match ar op a b with
   |some r=>some (d,r)
   |none=>none
  |_,_=>none
  else none
 |_,_,_=>none
theorem qA{d:BinOp}{g f:TypeId}{x y:Operand}{a b r:Int}(m:gd ops F o=some true)(l:o.op=.binOp d g x y f)(j:ev F x=some (.int .i64 a))(i:ev F y=some (.int .i64 b))
  (c:ar d a b=some r) (h: -9223372036854775808<=r/\r<=9223372036854775807):QF P ops N F M L o (.int .i64 r):=BG m λn e w _=>by
 have k:=IntWalk.i64_in r h
 simp only[execOp,l,e.ev j,e.ev i]
 unfold ar at c
 split at c<;>first|cases c|skip
 all_goals simp[eqGuard,binOp,Op.intArith,k]
theorem Er{r:Int}(h:Xs N ops F o=some (d,r))(a: -9223372036854775808<=r/\r<=9223372036854775807):o.dst=some d/\Nat.blt d N.n=true/\QF P ops N F M L o (.int .i64 r):=by
 grind[Xs,qA]
theorem ja{r:Int}(h:Xs N ops F o=some (d,r))(a: -9223372036854775808<=r/\r<=9223372036854775807)(k:JL P ops N Q rest ((d,.int .i64 r)::F) E M L):JL P ops N Q (o::rest) F E M L:=
 Kn (Er (P:=P) (M:=M) (L:=L) h a).1 (Er (P:=P) (M:=M) (L:=L) h a).2.1 (Er h a).2.2 k
variable{Mi Mw:Mem}{Li Lw:Lc}{p:Ph}{i:Nat}{restD:List (Nat×Bool)}
theorem dp{v:Value}(a:ops[i]? =some o)(h:DG N ops F o=some (d,v))(k:JD P ops N p Mw Lw Q restD ((d,v)::F) E M L Mi Li)(b:p.A i=true:=by rfl):JD P ops N p Mw Lw Q ((i,true)::restD) F E M L Mi Li:=
 Le a (CO h).1 (CO h).2.1 (λM L=>(CO h).2.2 P M L) k b
theorem dt{b:Bool}(a:ops[i]? =some o)(h:DG N ops F o=some (d,.bool b))(c:b=true)(k:JD P ops N p Mw Lw Q restD ((d,.bool true)::F) E M L Mi Li)(e:p.A i=true:=by rfl):JD P ops N p Mw Lw Q ((i,true)::restD) F E M L Mi Li:=dp a h (by rw[c];exact k) e
theorem df{b:Bool}(a:ops[i]? =some o)(h:DG N ops F o=some (d,.bool b))(c:b=false)(k:JD P ops N p Mw Lw Q restD ((d,.bool false)::F) E M L Mi Li)(e:p.A i=true:=by rfl):JD P ops N p Mw Lw Q ((i,true)::restD) F E M L Mi Li:=dp a h (by rw[c];exact k) e
theorem ds{a:Prop}{_:Decidable a}(c:ops[i]? =some o)(h:DG N ops F o=some (d,.bool (decide a)))(g:a->JD P ops N p Mw Lw Q restD ((d,.bool true)::F) E M L Mi Li)(f:¬a->JD P ops N p Mw Lw Q restD ((d,.bool false)::F) E M L Mi Li)(e:p.A i=true:=by rfl):JD P ops N p Mw Lw Q ((i,true)::restD) F E M L Mi Li:=by
 by_cases b:a
 ·exact dt c h (decide_eq_true b) (g b) e
 exact df c h (decide_eq_false b) (f b) e
theorem da{r:Int}(b:ops[i]? =some o)(h:Xs N ops F o=some (d,r))(a: -9223372036854775808<=r/\r<=9223372036854775807)(k:JD P ops N p Mw Lw Q restD ((d,.int .i64 r)::F) E M L Mi Li)(c:p.A i=true:=by rfl):JD P ops N p Mw Lw Q ((i,true)::restD) F E M L Mi Li:=
 Le b (Er (P:=P) (M:=M) (L:=L) h a).1 (Er (P:=P) (M:=M) (L:=L) h a).2.1 (λ_ _=>(Er h a).2.2) k c
theorem dk(j:ops[i]? =some o)(h:o.dst=some d)(r:Nat.blt d N.n=true)(l:gd ops F o=some false)(k:JD P ops N p Mw Lw Q restD ((d,undef)::F) E M L Mi Li)(s:p.A i=true:=by rfl):JD P ops N p Mw Lw Q ((i,false)::restD) F E M L Mi Li:=λc e f g=>
 ⟨o,j,by unfold GX;rw[h];exact r,St.closed _ _ _,λ_ b=>(b.js.sub c e).sub f g,λ_ _ b=>b.js.sub c e,.inr ⟨λa m=>FN m l,by rw[h,s];exact k c e f g⟩⟩
theorem Br{b:Bool}(c:o.dst=some d)(e:Nat.blt d N.n=true)(a:QF P ops N F M L o (.bool b))(g:b=true->JL P ops N Q rest ((d,.bool true)::F) E M L)(f:b=false->JL P ops N Q rest ((d,.bool false)::F) E M L):JL P ops N Q (o::rest) F E M L:=by
 cases b
 ·exact Kn c e a (f rfl)
 exact Kn c e a (g rfl)
theorem Qh{b:Bool}(c:ops[i]? =some o)(e:o.dst=some d)(g:Nat.blt d N.n=true)(a:QF P ops N F Mi Li o (.bool b))(k:b=true->JD P ops N p Mw Lw Q restD ((d,.bool true)::F) E M L Mi Li)(j:b=false->JD P ops N p Mw Lw Q restD ((d,.bool false)::F) E M L Mi Li)(h:p.A i=true:=by rfl)(f:p.U i=true:=by rfl):JD P ops N p Mw Lw Q ((i,true)::restD) F E M L Mi Li:=by
 cases b
 ·exact Tk c e g a (j rfl) h f
 exact Tk c e g a (k rfl) h f
theorem ep{v:Value}(a:ops[i]? =some o)(h:DG N ops F o=some (d,v))(k:JE P ops N p Mw Lw Q restD ((d,v)::F) E M L)(c:p.A i=true:=by rfl)(b:p.U i=false:=by rfl):JE P ops N p Mw Lw Q ((i,true)::restD) F E M L:=
 Hq a (CO h).1 (CO h).2.1 ((CO h).2.2 P Mw Lw) k c b
theorem qMax{x y:Operand}{T:Array TypeId}{k d:IntKind}{a b:Int}(h:gd ops F o=some true)(g:o.op=.call { callee:=.builtin .max,args:=#[x,y],argTypes:=T })(f:ev F x=some (.int k a))(e:ev F y=some (.int d b)):
  QF P ops N F M L o (.int k (max a b)):=BG h λi c w _=>by
 have:max a b=if a<b then b else a:=by rw[Int.max_def];split<;>split<;>omega
 simp[execOp,g,resolve,invoke,builtin,Builtin.max_,Builtin.max2,c.ev f,c.ev e,this]
theorem qMin{x y:Operand}{T:Array TypeId}{k d:IntKind}{a b:Int}(h:gd ops F o=some true)(g:o.op=.call { callee:=.builtin .min,args:=#[x,y],argTypes:=T })(f:ev F x=some (.int k a))(e:ev F y=some (.int d b)):
  QF P ops N F M L o (.int k (min a b)):=BG h λi c w _=>by
 have:min a b=if b<a then b else a:=by rw[Int.min_def];split<;>split<;>omega
 simp[execOp,g,resolve,invoke,builtin,Builtin.min_,Builtin.min2,c.ev f,c.ev e,this]
theorem qQuo{e d:TypeId}{x y:Operand}{a b:Int}(i:gd ops F o=some true)(h:o.op=.binOp .quo e x y d)(g:ev F x=some (.int .i64 a))(f:ev F y=some (.int .i64 b))
  (m:0<=a) (l:a<=9223372036854775807) (k:1<=b):QF P ops N F M L o (.int .i64 (a / b)):=BG i λn c w _=>by
 have j:b≠0:=by omega
 simp only[execOp,h,c.ev g,c.ev f]
 simp[eqGuard,binOp,Op.intDiv,j,IntWalk.i64_quo a b ⟨m,l,k⟩]
theorem qRem{e d:TypeId}{x y:Operand}{k:IntKind}{a b:Int}(i:gd ops F o=some true)(h:o.op=.binOp .rem e x y d)(g:ev F x=some (.int k a))(f:ev F y=some (.int k b))
  (l:0<=a) (m:1<=b):QF P ops N F M L o (.int k (a%b)):=BG i λn c w _=>by
 have j:b≠0:=by omega
 simp only[execOp,h,c.ev g,c.ev f]
 simp[eqGuard,binOp,Op.intDiv,j,Int.tmod_eq_emod_of_nonneg l]
end
class Und(P:Program)(t:TypeId)(d:outParam TypeDesc):Prop where
 h:P.underlying t=some d
class Lay(P:Program)(t:TypeId)(size bytes:outParam Nat)(z:outParam (List Value)):Prop where
 h:((P.info? t).map λi=>(i.size,i.bytes,i.zero.map λv=>v.cells.toList))=some (size,bytes,some z)
 len:z.length=size
class Fld(P:Program)(s:TypeId)(i:Nat)(off:outParam Nat)(ft:outParam TypeId):Prop where
 h:(match P.underlying s with|some (.struct fs)=>(fs[i]?).map λf=>(f.offset,f.type)|_=>none)=some (off,ft)
variable{P:Program}{size:Nat}{t:TypeId}{z:List Value}
theorem Lay.info{a:Nat}(l:Lay P t size a z):∃i v,P.info? t=some i/\i.size=size/\i.bytes=a/\i.zero=some v/\v.cells=z.toArray:=by
 have h:=l.h
 cases c:P.info? t with
 |none=>grind
 |some i=>
  rw[c]at h
  cases b:i.zero with
  |none=>simp[b]at h
  |some v=>
   grind
variable{ft s:TypeId}{i off:Nat}
theorem Fld.fields(l:Fld P s i off ft):∃a f,P.underlying s=some (.struct a)/\a[i]? =some f/\f.offset=off/\f.type=ft:=by
 have h:=l.h
 grind
class At(b:Nat)(o:outParam Obj)(L:Lc):Prop where
 mem:(b,o)∈L
instance(priority:=high) At.head{b:Nat}{o:Obj}{L:Lc}:At b o ((b,o)::L):=⟨List.Mem.head _⟩
instance At.tail{b:Nat}{o:Obj}{p:Nat×Obj}{L:Lc}[h:At b o L]:At b o (p::L):=⟨List.Mem.tail _ h.mem⟩
instance At.right{b:Nat}{o:Obj}{R L:Lc}[h:At b o L]:At b o (R++L):=⟨List.mem_append_right _ h.mem⟩
class PutAt(b:Nat)(o:outParam Obj)(o':Obj)(L:Lc)(L':outParam Lc):Prop where
 ex:∃A B,L=A++(b,o)::B/\L'=A++(b,o')::B
instance(priority:=high) PutAt.head{b:Nat}{o o':Obj}{L:Lc}:PutAt b o o' ((b,o)::L) ((b,o')::L):=⟨[],L,rfl,rfl⟩
instance PutAt.tail{b:Nat}{o o':Obj}{p:Nat×Obj}{L L':Lc}[h:PutAt b o o' L L']:PutAt b o o' (p::L) (p::L'):=⟨by
 obtain⟨A,B,h1,h2⟩:=h.ex;exact⟨p::A,B,by rw[h1];rfl,by rw[h2];rfl⟩⟩
instance PutAt.right{b:Nat}{o o':Obj}{R L L':Lc}[h:PutAt b o o' L L']:PutAt b o o' (R++L) (R++L'):=⟨by
 obtain⟨A,B,h1,h2⟩:=h.ex;exact⟨R++A,B,by rw[h1];simp,by rw[h2];simp⟩⟩
def CJ(M:Mem)(L:Lc)(b off:Nat)(v:Value):Prop:=∃c e fz,(M b=some (.cells c e fz)\/(b,Obj.cells c e fz)∈L)/\c[off]? =some v
variable{L:Lc}{M:Mem}{b:Nat}
theorem CJ.cell{v:Value}(h:CJ M L b off v){w:World}(a:Js M L w):w.cell? ⟨b,off,none⟩=some v:=by
 obtain⟨c,e,fz,f,d⟩:=h
 have:w.heap[b]? =some (.cells c e fz):=f.elim (a.agree _ _) (a.locs (b,Obj.cells c e fz))
 simp[World.cell?,this,d]
variable{e:TypeId}{fz:Nat×Nat}{l:List Value}
theorem CJ.loc{v:Value}[h:At b (.cells l.toArray e fz) L](a:l[off]? =some v):CJ M L b off v:=
 ⟨l.toArray,e,fz,.inr h.mem,by simpa using a⟩
def G3:TypeDesc->Bool
 |.struct _|.array _ _=>true
 |_=>false
section
variable{P:Program}{ops:Array Oper}{N:Fs}{F:Fr}{E:Ent}{M:Mem}{L:Lc}{o:Oper}
theorem CX{t:TypeId}{d:TypeDesc}(h:P.underlying t=some d)(w:World):(isAgg t).run P w=.ok (G3 d) w:=by
 simp only[isAgg,Sem.run_bind,run_underlying h,Result.andThen_ok]
 cases d<;>rfl
theorem KZ{x:Operand}{t e:TypeId}{a:Option Addr}{n c:Nat}(g:gd ops F o=some true)(f:o.op=.call { callee:=.builtin .len,args:=#[x],argTypes:=#[t] })
  (b:ev F x=some (.slice a n c)) [d:Und P t (.slice e)]:QF P ops N F M L o (.int .i64 n):=BG g λj i w _=>by
 simp[execOp,f,resolve,invoke,builtin,Builtin.len_,i.ev b,run_underlying d.h,goInt]
theorem CV{x:Operand}{s d:TypeId}{k a:IntKind}{n:Int}{ds:TypeDesc}(e:gd ops F o=some true)(c:o.op=.convert s d x)(b:ev F x=some (.int a n))[hs:Und P s ds][f:Und P d (.int k)]
  :QF P ops N F M L o (.int k (k.wrap n)):=BG e λi g w _=>by
 simp[execOp,c,convert,run_underlying hs.h,run_underlying f.h,g.ev b,Conv.intToInt]
theorem B7{x:Operand}{s d:TypeId}{a:IntKind}{n:Int}{ds:TypeDesc}(e:gd ops F o=some true)(c:o.op=.convert s d x)(b:ev F x=some (.int a n))[hs:Und P s ds][f:Und P d (.int .i64)](h: -9223372036854775808<=n/\n<=9223372036854775807)
  :QF P ops N F M L o (.int .i64 n):=Bc (CV e c b) (by rw[IntWalk.i64_in n h])
theorem Ak{x:Operand}{s:TypeId}{i l:Nat}{t:TypeId}{n m:Nat}{z:List Value}{b off a:Nat}(H:gd ops F o=some true)(D:o.op=.fieldAddr s x i)(y:ev F x=some (.pointer (some ⟨b,off,none⟩)))[I:Fld P s i l t][E:Lay P t n m z]
  (r:Nat.beq n 0=false) (C:off+l=a):QF P ops N F M L o (.pointer (some ⟨b,a,none⟩)):=BG H λO J w _=>by
 obtain⟨K,f,B,k,j,h⟩:=I.fields
 obtain⟨u,v,G,g,_⟩:=E.info
 have d:u.size≠0:=λe=>by rw[g]at e;rw[e]at r;simp at r
 have c:(⟨b,off,none⟩:Addr).add l=⟨b,a,none⟩:=by unfold Addr.add;split<;>simp_all
 subst j h
 simp[execOp,D,Instr.fieldAt,run_underlying B,k,J.ev y,Instr.sureAddr,fieldPlace,sizeOf,typeInfo,G,d,c]
theorem AE{x:Operand}{t:TypeId}{d:TypeDesc}{b off:Nat}{v:Value}(g:gd ops F o=some true)(f:o.op=.load t x)(c:ev F x=some (.pointer (some ⟨b,off,none⟩)))[i:Und P t d](k:G3 d=false)(j:CJ M L b off v):QF P ops N F M L o v:=
 BG g λl a w e=>by
  simp[execOp,f,a.ev c,Instr.loadAt,Instr.sureAddr,loadVar,CX i.h,k,j.cell e]
theorem Bb{x:Operand}{t:TypeId}{d:TypeDesc}{b off g f:Nat}{z cs:List Value}(y:gd ops F o=some true)(n:o.op=.load t x)(k:ev F x=some (.pointer (some ⟨b,off,none⟩)))[B:Und P t d][s:Lay P t g f z](D:G3 d=true)
  (r:cs.length=g) (C:∀i v,cs[i]? =some v->CJ M L b (off+i) v):QF P ops N F M L o (.agg cs.toArray):=
 BG y λG e w l=>by
  obtain⟨E,v,u,c,_⟩:=s.info
  have a:∀j,(⟨b,off,none⟩:Addr).add j=⟨b,off+j,none⟩:=λj=>by unfold Addr.add;split<;>simp_all
  have h:=run_loadCells_list (P:=P) (w:=w) ⟨b,off,none⟩ cs (λj v m=>by rw[a];exact(C j v m).cell l)
  simp[execOp,n,e.ev k,Instr.loadAt,Instr.sureAddr,loadVar,CX B.h,D,sizeOf,typeInfo,u,c,<-r,h]
theorem Ca{x r:Operand}{t e:TypeId}{b off n c m l:Nat}{z:List Value}{k:IntKind}{i:Int}(D:gd ops F o=some true)(y:o.op=.indexAddr t x r)(s:ev F x=some (.slice (some ⟨b,off,none⟩) n c))(C:ev F r=some (.int k i))[u:Und P t (.slice e)][B:Lay P e m l z]
  (h:0<=i/\i<n):QF P ops N F M L o (.pointer (some ⟨b,off+i.toNat*m,none⟩)):=
 BG D λH d w G=>by
  obtain⟨E,v,g,f,_⟩:=B.info
  have a:∀j,(⟨b,off,none⟩:Addr).add j=⟨b,off+j,none⟩:=λj=>by unfold Addr.add;split<;>simp_all
  simp[execOp,y,d.ev s,d.ev C,Instr.indexAt,asIntOf,run_underlying u.h,h,sizeOf,typeInfo,g,f,a]
theorem GU{x m:Operand}{t e:TypeId}{b off n l g:Nat}{z:List Value}{k:IntKind}{i:Int}(C:gd ops F o=some true)(u:o.op=.indexAddr t x m)(r:ev F x=some (.pointer (some ⟨b,off,none⟩)))(B:ev F m=some (.int k i))[s:Und P t (.array n e)][y:Lay P e l g z]
  (h:0<=i/\i<n):QF P ops N F M L o (.pointer (some ⟨b,off+i.toNat*l,none⟩)):=
 BG C λG c w E=>by
  obtain⟨D,v,f,d,_⟩:=y.info
  have a:∀j,(⟨b,off,none⟩:Addr).add j=⟨b,off+j,none⟩:=λj=>by unfold Addr.add;split<;>simp_all
  simp[execOp,u,c.ev r,c.ev B,Instr.indexAt,asIntOf,Instr.sureAddr,run_underlying s.h,h,sizeOf,typeInfo,f,d,a]
theorem wAa{x:Operand}{s:TypeId}{i j:Nat}{g:TypeId}{d:TypeDesc}{cs:List Value}{v:Value}(r:gd ops F o=some true)(n:o.op=.field s x i)(k:ev F x=some (.agg cs.toArray))[t:Fld P s i j g][u:Und P g d](y:G3 d=false)(l:cs[j]? =some v):QF P ops N F M L o v:=
 BG r λC e w z=>by
  obtain⟨B,f,m,c,b,a⟩:=t.fields
  subst b a
  simp[execOp,n,e.ev k,Instr.field,run_underlying m,c,asAgg,part,CX u.h,y,l]
theorem WE{x:Operand}{s:TypeId}{i n:Nat}{l:TypeId}{d:TypeDesc}{cs:List Value}{a m:Nat}{z:List Value}(B:gd ops F o=some true)(u:o.op=.field s x i)(r:ev F x=some (.agg cs.toArray))[C:Fld P s i n l][D:Und P l d][y:Lay P l a m z](E:G3 d=true):QF P ops N F M L o (.agg ((cs.drop n).take a).toArray):=
 BG B λJ k w H=>by
  obtain⟨I,f,t,j,g,e⟩:=C.fields
  obtain⟨G,v,c,b,_⟩:=y.info
  subst g e
  have:cs.toArray.extract f.offset (f.offset+a)=((cs.drop f.offset).take a).toArray:=by simp
  simp[execOp,u,k.ev r,Instr.field,run_underlying t,j,asAgg,part,CX D.h,E,sizeOf,typeInfo,c,b]
theorem St.alloc{w:World}(h:St E M L w)(b:Obj):St E M ((w.heap.size,b)::L) (w.alloc b):=by
 have e:Below w.heap.size w (w.alloc b):=(Below.refl _ _).alloc (Nat.le_refl _) _
 have d:=St.closed _ _ _ _ _ h e
 refine { d with locs:=λp a=>?_,nodup:=?_ }
 ·rcases List.mem_cons.1 a with rfl|a
  ·refine ⟨heap_alloc_new w _,.inl h.size,?_⟩
   cases c:M w.heap.size with
   |none=>rfl
   |some x=>exact absurd (BL (h.agree _ _ c)) (Nat.lt_irrefl _)
  exact d.locs p a
 refine List.nodup_cons.2 ⟨λc=>?_,h.nodup⟩
 obtain⟨p,a,f⟩:=List.mem_map.1 c
 have:=BL (h.locs p a).1
 grind
theorem St.put{w:World}{b:Nat}{c j:Array Value}{e:TypeId}{fz:Nat×Nat}{L':Lc}(h:St E M L w)(hp:PutAt b (.cells c e fz) (.cells j e fz) L L'):St E M L' (w.setRow b j):=by
 obtain⟨A,B,rfl,rfl⟩:=hp.ex
 have i:=h.locs (b,.cells c e fz) (by simp)
 have f:∀p∈A++B,p.1≠b:=by
  intro p hp n
  have m:=h.nodup
  grind
 have g:∀k,k≠b->(w.setRow b j).heap[k]? =w.heap[k]? :=λk l=>setRow_other w b k j l
 exact
  {os:=h.os,tape:=h.tape,output:=h.output,size:=by rw[setRow_size];exact h.size
   same:=λk l d=>by
    have:k≠b:=λe=>by subst e;exact i.2.1.elim (λh=>by omega) d
    rw[g k this];exact h.same k l d
   fresh:=h.fresh
   agree:=λk x d=>by
    have:k≠b:=λe=>by subst e;rw[i.2.2]at d;cases d
    rw[g k this];exact h.agree k x d
   locs:=λp hp=>by
    rcases List.mem_append.1 hp with hp|hp
    ·have a:=h.locs p (by simp[hp])
     exact⟨by rw[g _ (f p (by simp[hp]))];exact a.1,a.2⟩
    rcases List.mem_cons.1 hp with rfl|hp
    ·exact ⟨setRow_heap w b _ _ _ _ i.1,i.2⟩
    have a:=h.locs p (by simp[hp])
    exact⟨by rw[g _ (f p (by simp[hp]))];exact a.1,a.2⟩
   nodup:=by have:=h.nodup;simpa [List.map_append]using this }
theorem Dw{K:Value->Mem->Lc->Prop}(z:gd ops F o=some true)
  (h:∀a w,Has N F a->St E M L w->∃v e i j,((execOp a.eval o).run P w=.ok (.value v) e\/(v=undef/\(execOp a.eval o).run P w=.ok .skip e))/\St E i j e/\K v i j):HF P ops N F E M L o K:=λa w s y=>
 ⟨FN s z,λQ=>by
  obtain⟨v,e,i,j,b,m,t⟩:=h a w s y
  have k:∀c,o.op≠.defer c:=by
   intro c B
   have f:∀n,(execOp a.eval o).run P w=.ok n e->∃d,n=.defer d:=λn g=>by
    simp only[execOp,B,Sem.run_bind]at g
    generalize (resolve a.eval c o.type).run P w=r at g
    cases r with
    |ok d u=>simp[Result.andThen]at g;exact⟨d,g.1.symm⟩
    |halt x u=>simp[Result.andThen]at g
   rcases b with b|⟨_,b⟩
   ·obtain ⟨d,l⟩:=f _ b;cases l
   obtain⟨d,l⟩:=f _ b;cases l
  refine⟨λ_ _=>trivial,?_⟩
  rw[Oper.semAt_eq _ _ _ k]
  rcases b with b|⟨rfl,b⟩
  ·rw [b];exact⟨v,i,j,rfl,m,t⟩
  rw[b];exact⟨undef,i,j,rfl,m,t⟩⟩
theorem AM{t:TypeId}{e d:Nat}{z:List Value}(k:gd ops F o=some true)(h:o.op=.alloc t)[i:Lay P t e d z]:
  HF P ops N F E M L o (λv l m=>∃b,v=.pointer (some ⟨b,0,none⟩)/\M=l/\m=(b,.cells z.toArray t (0,0))::L):=Dw k λa w r g=>by
 obtain⟨n,v,j,_,_,f,c⟩:=i.info
 refine⟨_,_,M,_,.inl ?_,g.alloc (.cells z.toArray t (0,0)),_,rfl,rfl,rfl⟩
 simp[execOp,h,Instr.alloc,zeroValue,typeInfo,j,f,newVar,newRow,c]
theorem Bf{t:TypeId}{x:Operand}{u:Value}(f:gd ops F o=some true)(e:o.op=.box t x)(c:ev F x=some u){cs:List Value}(g:u.cells=cs.toArray):
  HF P ops N F E M L o (λv i j=>∃b,v=.pointer (some ⟨b,0,none⟩)/\M=i/\j=(b,.cells cs.toArray t (0,0))::L):=Dw f λa w h d=>by
 refine⟨_,_,M,_,.inl ?_,d.alloc (.cells cs.toArray t (0,0)),_,rfl,rfl,rfl⟩
 simp[execOp,e,Instr.box,newVar,newRow,h.ev c,g]
theorem JJ{t:TypeId}{x y:Operand}{u:Value}{b off:Nat}{l cs:List Value}{e:TypeId}{L':Lc}{c g:Nat}{z:List Value}(D:gd ops F o=some true)(r:o.op=.store t x y)(n:ev F x=some (.pointer (some ⟨b,off,none⟩)))(m:ev F y=some u)
  [B:Lay P t c g z] (G:u.cells=cs.toArray) (s:cs.length=c) (I:∀v∈cs,v.oneCell'=true) [at_:At b (.cells l.toArray e (0,0)) L] (j:off+c<=l.length)
  [hp:PutAt b (.cells l.toArray e (0,0)) (.cells (l.take off++cs++l.drop (off+cs.length)).toArray e (0,0)) L L']:
  HF P ops N F E M L o (λ_ J h=>M=J/\h=L'):=Dw D λa w k i=>by
 obtain⟨K,v,C,f,_⟩:=B.info
 have H:=(i.locs _ at_.mem).1
 refine⟨undef,_,M,L',.inr ⟨rfl,?_⟩,i.put hp,rfl,rfl⟩
 have d:=run_storeCells_at P b off e cs 0 l.toArray w H (by simp;omega) I
 simp[execOp,r,k.ev n,k.ev m,Instr.storeAt,Instr.sureAddr,storeVar,sizeOf,typeInfo,C,f,G,s,d]
end
set_option maxRecDepth 8000
def Own(v:Value)(R:Lc)(e:TypeId)(size n:Nat)(xs:List Value):Prop:=
 xs.length=n*size/\
 ((v=.slice none 0 0/\n=0/\R=[])\/
 ∃g cap cur,v=.slice (some ⟨g,0,none⟩) n cap/\R=[(g,.cells cur e (0,0))]/\n<=cap/\cap<=maxLen/\cur.size=cap*size/\cur.toList.take (n*size)=xs)
theorem Own.nil(e:TypeId)(a:Nat):Own (.slice none 0 0) [] e a 0 []:=⟨by simp,.inl ⟨rfl,rfl,rfl⟩⟩
class Pick(R:Lc)(L:Lc)(L2:outParam Lc):Prop where
 perm:L.Perm (R++L2)
instance(priority:=high) Pick.head{R L:Lc}:Pick R (R++L) L:=⟨List.Perm.refl _⟩
instance Pick.self{R:Lc}:Pick R R []:=⟨by simp⟩
instance Pick.nil{L:Lc}:Pick [] L L:=⟨List.Perm.refl _⟩
instance Pick.cons{R L L2:Lc}{p:Nat×Obj}[h:Pick R L L2]:Pick R (p::L) (p::L2):=⟨((List.Perm.cons p h.perm).trans (List.perm_middle.symm))⟩
instance Pick.app{R A L L2:Lc}[h:Pick R L L2]:Pick R (A++L) (A++L2):=⟨by
 have h1:=(List.Perm.append_left A h.perm)
 refine h1.trans ?_
 rw[<-List.append_assoc,<-List.append_assoc]
 exact List.Perm.append_right _ List.perm_append_comm⟩
instance(priority:=high) Pick.one{p:Nat×Obj}{L:Lc}:Pick [p] (p::L) L:=⟨List.Perm.refl _⟩
section
variable{P:Program}{ops:Array Oper}{N:Fs}{F:Fr}{E:Ent}{M:Mem}{L:Lc}{o:Oper}
theorem Own.row{v:Value}{R L2:Lc}{e:TypeId}{a n:Nat}{xs:List Value}(h:Own v R e a n xs){w:World}(d:St E M (R++L2) w):w.ownsRow 0 e a v n xs:=by
 refine⟨h.1,?_⟩
 rcases h.2 with⟨rfl,rfl,_⟩|⟨g,c,b,rfl,rfl,k,j,i,f⟩
 ·grind
 exact .inr ⟨g,c,b,rfl,Nat.zero_le _,(d.locs (g,.cells b e (0,0)) (by simp)).1,k,j,i,f⟩
theorem St.grown{v v':Value}{R L2:Lc}{e:TypeId}{i n n':Nat}{xs xs':List Value}{w s:World}(a:St E M (R++L2) w)(h:Own v R e i n xs)(K:s.ownsRow 0 e i v' n' xs')(f:w.grownBy s v.ownBlock)
  (hold:∀g,v'.ownBlock=some g->g<w.heap.size->v.ownBlock=some g):∃O,Own v' O e i n' xs'/\St E M (O++L2) s:=by
 have d:∀g,v.ownBlock=some g->∃t,R=[(g,t)]:=λg f=>by
  rcases h.2 with⟨rfl,rfl,_⟩|⟨Y,z,m,rfl,rfl,_⟩
  ·simp [Value.ownBlock]at f
  simp[Value.ownBlock]at f;subst f;exact⟨_,rfl⟩
 have Z:∀p∈R,v.ownBlock=some p.1:=λp c=>by
  rcases h.2 with⟨rfl,rfl,rfl⟩|⟨Y,z,m,rfl,rfl,_⟩
  ·cases c
  rw[List.mem_singleton.1 c];rfl
 have keep:∀k,k<w.heap.size->v.ownBlock≠some k->s.heap[k]? =w.heap[k]? :=λk G H=>f.block k G (λe=>H e.symm)
 have u:=a.nodup
 rw[List.map_append]at u
 have C:=(List.nodup_append.1 u).2.1
 have r:∀p∈L2,v.ownBlock≠some p.1:=λp c J=>by
  obtain⟨t,rfl⟩:=d p.1 J
  exact(List.nodup_append.1 u).2.2 p.1 (by simp) p.1 (List.mem_map.2 ⟨p,c,rfl⟩) rfl
 have o:∀p∈L2,s.heap[p.1]? =some p.2/\(E.W.heap.size<=p.1\/p.1∈E.X)/\M p.1=none:=λp c=>by
  have:=a.locs p (by simp[c])
  exact⟨by rw[keep p.1 (BL this.1) (r p c)];exact this.1,this.2⟩
 have F:∀b t,M b=some t->s.heap[b]? =some t:=λb t N=>by
  have D:=a.agree b t N
  rw[keep b (BL D) (λe=>by
   obtain⟨B,l⟩:=d b e
   have:=(a.locs (b,B) (by rw[l];simp)).2.2
   rw[N]at this;cases this)]
  exact D
 have j:∀k,k<E.W.heap.size->k∉E.X->s.heap[k]? =E.W.heap[k]? :=λk G L=>by
  rw[keep k (Nat.lt_of_lt_of_le G a.size) (λe=>by
   obtain⟨B,l⟩:=d k e
   have:=(a.locs (k,B) (by rw[l];simp)).2.1
   exact this.elim (λh=>by simp only at h;omega) L)]
  exact a.same k G L
 rcases K.2 with⟨rfl,rfl⟩|⟨g,z,m,rfl,_,I,V,U,T,S⟩
 ·refine ⟨[],⟨K.1,.inl ⟨rfl,rfl,rfl⟩⟩,?_⟩
  exact⟨f.os.trans a.os,f.tape.trans a.tape,f.output.trans a.output,Nat.le_trans a.size f.size,j,a.fresh,F,λp c=>o p (by simpa using c),by simpa using C⟩
 refine⟨[(g,.cells m e (0,0))],⟨K.1,.inr ⟨g,z,m,rfl,rfl,V,U,T,S⟩⟩,?_⟩
 have Q:∀p∈L2,p.1≠g:=λp c J=>by
  have h5:=BL (a.locs p (by simp[c])).1
  exact r p c (by rw[J];exact hold g rfl (by omega))
 refine⟨f.os.trans a.os,f.tape.trans a.tape,f.output.trans a.output,Nat.le_trans a.size f.size,j,a.fresh,F,λp c=>?_,?_⟩
 ·rcases List.mem_cons.1 c with rfl|c
  ·refine ⟨I,?_⟩
   by_cases y:g<w.heap.size
   ·obtain ⟨B,l⟩:=d g (hold g rfl y)
    exact(a.locs (g,B) (by rw[l];simp)).2
   refine⟨.inl (Nat.le_trans a.size (Nat.le_of_not_lt y)),?_⟩
   cases P:M g with
   |none=>rfl
   |some x=>exact absurd (BL (a.agree _ _ P)) y
  exact o p c
 grind
def SJ(M:Mem)(L:Lc)(a:Option Addr)(news:List Value):Prop:=news=[]\/∃b off,a=some ⟨b,off,none⟩/\∀i v,news[i]? =some v->CJ M L b (off+i) v
theorem HF.imp{K d:Value->Mem->Lc->Prop}(h:HF P ops N F E M L o K)(hk:∀v M' L',K v M' L'->d v M' L'):HF P ops N F E M L o d:=λa w c b=>
 ⟨(h a w c b).1,λQ=>Oper.wpIn_mono (λj i ⟨v,M',L',e,f,g⟩=>⟨v,M',L',e,f,hk v M' L' g⟩) ((h a w c b).2 Q)⟩
theorem Ty{x y:Operand}{t e:TypeId}{v:Value}{R L2:Lc}{f d n m c:Nat}{z xs news:List Value}{s:Addr}(hg:gd ops F o=some true)
  (ho:o.op=.call { callee:=.builtin .append,args:=#[x,y],argTypes:=#[t,t] }) (hx:ev F x=some v) (hy:ev F y=some (.slice (some s) m c)) [ht:Und P t (.slice e)] [hl:Lay P e f d z]
  (G:Own v R e f n xs) [hp:Pick R L L2] (I:news.length=m*f) (H:∀i v,news[i]? =some v->CJ M L s.block (s.off+i) v) (B:s.spot=none) (ah:Nat.blt 0 f=true) (h1:∀u∈news,u.oneCell'=true) (Q:n+m<=1000000000) (ab:d<=100000):
  HF P ops N F E M L o (λZ M' L'=>M=M'/\∃R',L'=R'++L2/\Own Z R' e f (n+m) (xs++news)/\(Z=.slice none 0 0↔v=.slice none 0 0/\m=0)/\((∀p∈R,E.W.heap.size<=p.1)->∀p∈R',E.W.heap.size<=p.1)):=Dw hg λa w ha hw=>by
 obtain⟨ti,zv,hi,r,Y,hz,ag⟩:=hl.info
 have T:=hw.perm hp.perm
 have k:=G.row T
 have S:∀j,s.add j=⟨s.block,s.off+j,none⟩:=λj=>by
  obtain⟨b,of,sp⟩:=s;simp only at B;subst B;unfold Addr.add;split<;>simp_all
 have aj:0<f:=by simpa [Nat.blt_eq]using ah
 obtain⟨Z,w',U,h2,h3,h4⟩:=run_append_own (P:=P) w 0 t o.type e ti zv f d ht.h hi hz r Y (by rw[ag];simpa using hl.len) aj v n xs k s m c news I
  (λj u hu=>by rw[S];exact(H j u hu).cell hw.js) h1 (by unfold maxLen;omega) (by
   have:(n+m)*d<=1000000000*100000:=Nat.mul_le_mul Q ab
   omega) (Nat.zero_le _)
 have hold:∀g,Z.ownBlock=some g->g<w.heap.size->v.ownBlock=some g:=by
  intro g J X
  have ao:((n+m:Nat):Int)<=9223372036854775807:=by omega
  have O:(n+m)*d<=140737488355328:=by
   have:(n+m)*d<=1000000000*100000:=Nat.mul_le_mul Q ab
   omega
  have l:∀j u,news[j]? =some u->w.cell? (s.add j)=some u:=λj u hu=>by rw[S];exact(H j u hu).cell hw.js
  rcases k.2 with⟨rfl,rfl⟩|⟨g0,K,af,rfl,_,ak,aq,au,al,ai⟩
  ·by_cases hm:m=0
   ·have:=h4.2 ⟨rfl,hm⟩;subst this;simp[Value.ownBlock]at J
   have D:=run_append_nil (P:=P) w t o.type e ti zv ht.h hi hz s m c news (by rw[r];exact I) l (by omega) (by omega) (by rw[Y];simp only[Nat.zero_add]at O;omega)
   rw[D]at U;cases U
   simp[Value.ownBlock]at J;omega
  by_cases C:n+m<=K
  ·have D:=run_append_room (P:=P) w t o.type e ti ht.h hi g0 n K af ak s m c news (by rw[r];exact I) l h1 C (by rw[I,r,al,<-Nat.add_mul];exact Nat.mul_le_mul_right _ C)
   rw[D]at U;cases U
   simpa [Value.ownBlock]using J
  have V:∀j u,xs[j]? =some u->w.cell? ((⟨g0,0,none⟩:Addr).add j)=some u:=k.cells (g:=g0) rfl
  have D:=run_append_grow (P:=P) w t o.type e ti zv ht.h hi hz ⟨g0,0,none⟩ n K xs (by rw[r];exact k.1) V s m c news (by rw[r];exact I) l (by omega) ao (growslice_fits (by omega) (by rw[Y];exact O))
  rw[D]at U;cases U
  simp[Value.ownBlock]at J;omega
 obtain⟨R',ac,am⟩:=T.grown G h2 h3 hold
 have aa:(∀p∈R,E.W.heap.size<=p.1)->∀p∈R',E.W.heap.size<=p.1:=λhR p hp=>by
  rcases ac.2 with⟨rfl,_,rfl⟩|⟨g,K,af,rfl,rfl,_⟩
  ·cases hp
  rw[List.mem_singleton.1 hp]
  by_cases X:g<w.heap.size
  ·have hv:=hold g rfl X
   rcases G.2 with⟨rfl,_,_⟩|⟨g2,ap,ae,rfl,rfl,_⟩
   ·simp [Value.ownBlock]at hv
   simp[Value.ownBlock]at hv;subst hv;exact hR (_,Obj.cells ae e (0,0)) (List.mem_singleton.2 rfl)
  exact Nat.le_trans T.size (Nat.le_of_not_lt X)
 refine⟨Z,w',M,R'++L2,.inl ?_,am,rfl,R',rfl,ac,h4,aa⟩
 simp[execOp,ho,resolve,invoke,builtin,ha.ev hx,ha.ev hy,U]
theorem Ba{x y:Operand}{t e:TypeId}{v:Value}{R L2:Lc}{a b n m c:Nat}{z xs news:List Value}{j:Addr}(J:gd ops F o=some true)
  (I:o.op=.call { callee:=.builtin .append,args:=#[x,y],argTypes:=#[t,t] }) (H:ev F x=some v) (G:ev F y=some (.slice (some j) m c)) [U:Und P t (.slice e)] [V:Lay P e a b z]
  (g:Own v R e a n xs) [hp:Pick R L L2] (s:news.length=m*a) (f:∀i v,news[i]? =some v->CJ M L j.block (j.off+i) v) (d:j.spot=none) (r:Nat.blt 0 a=true) (K:∀u∈news,u.oneCell'=true) (h:n+m<=1000000000) (B:b<=100000):
  HF P ops N F E M L o (λl C D=>M=C/\∃k,D=k++L2/\Own l k e a (n+m) (xs++news)/\(l=.slice none 0 0↔v=.slice none 0 0/\m=0)):=
 HF.imp (Ty J I H G g s f d r K h B) λl C D ⟨T,k,S,Q,O,_⟩=>⟨T,k,S,Q,O⟩
theorem Pf{x y:Operand}{t e:TypeId}{v:Value}{R:Lc}{b d n c:Nat}{z xs:List Value}{k:Option Addr}(K:gd ops F o=some true)
  (s:o.op=.call { callee:=.builtin .append,args:=#[x,y],argTypes:=#[t,t] }) (m:ev F x=some v) (l:ev F y=some (.slice k 0 c)) [r:Und P t (.slice e)] [H:Lay P e b d z]
  (f:Own v R e b n xs):HF P ops N F E M L o (λB T U=>M=T/\U=L/\B=v):=Dw K λa w j G=>by
 obtain⟨C,V,u,J,I,W,D⟩:=H.info
 refine⟨v,w,M,L,.inl ?_,G,rfl,rfl,rfl⟩
 have i:∀w:World,(Builtin.firstCells C.size 0 (.slice k 0 c)).run P w=.ok #[] w:=λw=>by
  cases k<;>simp[Builtin.firstCells,loadCells,loadCellsFrom]
 rcases f.2 with⟨rfl,rfl,_⟩|⟨g,S,Q,rfl,rfl,O,Z,Y,X⟩
 ·simp [execOp,s,resolve,invoke,builtin,j.ev m,j.ev l,Builtin.append_,run_underlying r.h,sizeOf,typeInfo,u,Builtin.lenOf,i]
 simp[execOp,s,resolve,invoke,builtin,j.ev m,j.ev l,Builtin.append_,run_underlying r.h,sizeOf,typeInfo,u,Builtin.lenOf,i,O,storeCells]
def EN(P:Program)(f:FuncId):Bool:=match P.funcs[f]? with
 | some fn => !(fn.name == "runtime.NumGoroutine") && fn.body.isSome
 |none=>false
theorem Gw{f:FuncId}(h:EN P f=true)(args:Array Value)(w:World):(callFunc f args).run P w=.ok (.enter f args) w:=by
 unfold EN at h
 split at h
 ·rename_i a c
  simp only[Bool.and_eq_true,Bool.not_eq_true']at h
  have b : a.name ≠ "runtime.NumGoroutine" := by grind
  have d:a.body≠none:=λe=>by simp[e]at h
  simp[callFunc,c,b,d]
 grind
theorem Ny{x:Operand}{xs:List Operand}{T:Array TypeId}{f:FuncId}{first b vs d:List Value}{a:Act}(j:o.op=.call { callee:=.value x,args:=xs.toArray,argTypes:=T })(g:Has N F a)(h:ev F x=some (.func (.func f) first.toArray b.toArray))(i:evs F xs=some vs)
  (c:first++vs++b=d) (e:EN P f=true) (w:World):(execOp a.eval o).run P w=.ok (.enter f d.toArray) w:=by
 have l:=g.evs i
 have k:xs.toArray.map a.eval=vs.toArray:=by grind
 subst c
 simp[execOp,j,resolve,k,g.ev h,Deferred.ofValue,invoke,Gw e]
theorem St.into{R L2:Lc}{w:World}(a:St E M (R++L2) w):St ⟨w,R.map (·.1),M⟩ M R w:=
 {os:=rfl,tape:=rfl,output:=rfl,size:=Nat.le_refl _,same:=λ_ _ _=>rfl,fresh:=λ_ _=>rfl,agree:=a.agree
  locs:=λp b=>⟨(a.locs p (by simp[b])).1,.inr (List.mem_map.2 ⟨p,b,rfl⟩),(a.locs p (by simp[b])).2.2⟩
  nodup:=by have:=a.nodup;rw[List.map_append]at this;exact(List.nodup_append.1 this).1 }
theorem St.back{R L2 R':Lc}{w s:World}{M':Mem}(c:St E M (R++L2) w)(h:St ⟨w,R.map (·.1),M⟩ M' R' s):St E M' (R'++L2) s/\MLe M M':=by
  have e:=c.nodup
  rw[List.map_append]at e
  have u:∀k∈R.map (·.1),E.W.heap.size<=k\/k∈E.X:=λk f=>by
   obtain⟨p,d,rfl⟩:=List.mem_map.1 f
   exact(c.locs p (by simp[d])).2.1
  have l:∀p∈L2,p.1<w.heap.size/\p.1∉R.map (·.1):=λp d=>
   ⟨BL (c.locs p (by simp[d])).1,λn=>(List.nodup_append.1 e).2.2 p.1 n p.1 (List.mem_map.2 ⟨p,d,rfl⟩) rfl⟩
  have j:∀p∈R',w.heap.size<=p.1\/p.1∈R.map (·.1):=λp d=>(h.locs p d).2.1
  refine⟨?_,λb y m=>?_⟩
  ·exact
    {os:=h.os.trans c.os,tape:=h.tape.trans c.tape,output:=h.output.trans c.output,size:=Nat.le_trans c.size h.size
     same:=λk f t=>(h.same k (Nat.lt_of_lt_of_le f c.size) (λn=>(u k n).elim (λh=>by omega) t)).trans (c.same k f t)
     fresh:=λk f=>(h.fresh k (Nat.lt_of_lt_of_le f c.size)).trans (c.fresh k f)
     agree:=h.agree
     locs:=λp d=>by
      rcases List.mem_append.1 d with d|d
      ·refine ⟨(h.locs p d).1,?_,(h.locs p d).2.2⟩
       rcases j p d with i|i
       ·exact .inl (Nat.le_trans c.size i)
       exact u _ i
      obtain⟨i,r⟩:=l p d
      have g:=c.locs p (by simp[d])
      exact⟨by rw[h.same p.1 i r];exact g.1,g.2.1,by rw[h.fresh p.1 i];exact g.2.2⟩
     nodup:=by
      rw[List.map_append]
      refine List.nodup_append.2 ⟨h.nodup,(List.nodup_append.1 e).2.1,λa B b m o=>?_⟩
      obtain⟨p,d,rfl⟩:=List.mem_map.1 B
      obtain⟨q,z,rfl⟩:=List.mem_map.1 m
      obtain⟨i,r⟩:=l q z
      rcases j p d with g|g
      ·omega
      rw[o]at g;exact r g }
  rw[h.fresh b (BL (c.agree b y m))];exact m
theorem FT{x:Operand}{xs:List Operand}{T:Array TypeId}{f:FuncId}{first b vs j:List Value}{R L2:Lc}{post:Value->Mem->Lc->Prop}(z:gd ops F o=some true)
  (m:o.op=.call { callee:=.value x,args:=xs.toArray,argTypes:=T }) (s:ev F x=some (.func (.func f) first.toArray b.toArray)) (u:evs F xs=some vs) (i:first++vs++b=j) (l:EN P f=true)
  (hs:SpecL P f j.toArray M R post) [hp:Pick R L L2]:HF P ops N F E M L o (λv k D=>MLe M k/\∃R',D=R'++L2/\post v k R'/\∀p∈R',p.1∈R.map (·.1)\/E.W.heap.size<=p.1):=λa w r t=>
 ⟨FN r z,λQ=>by
  have d:=t.perm hp.perm
  refine⟨λ_ _=>trivial,?_⟩
  rw[Oper.semAt_eq _ _ _ (λc n=>by rw[m]at n;cases n),Ny m r s u i l w]
  refine⟨E3 _ _,Px _ _ ((hs w d.into).mono λe G y=>?_)⟩
  obtain⟨v,k,R',rfl,g,h⟩:=y
  obtain⟨C,B⟩:=d.back h
  exact⟨v,k,R'++L2,rfl,C,B,R',rfl,g,λp hp=>(h.locs p hp).2.1.symm.imp id (Nat.le_trans d.size)⟩⟩
theorem Bu{x:Operand}{xs:List Operand}{T:Array TypeId}{f:FuncId}{first a vs c:List Value}{R L2:Lc}{post:Value->Mem->Lc->Prop}(l:gd ops F o=some true)
  (k:o.op=.call { callee:=.value x,args:=xs.toArray,argTypes:=T }) (i:ev F x=some (.func (.func f) first.toArray a.toArray)) (j:evs F xs=some vs) (b:first++vs++a=c) (e:EN P f=true)
  (hs:SpecL P f c.toArray M R post) [hp:Pick R L L2]:HF P ops N F E M L o (λv g h=>MLe M g/\∃d,h=d++L2/\post v g d):=
 HF.imp (FT l k i j b e hs) λv g h ⟨r,d,n,m,_⟩=>⟨r,d,n,m⟩
theorem CG{x:Operand}{xs:List Operand}{T:Array TypeId}{f:FuncId}{first b vs d:List Value}{v:Value}(z:gd ops F o=some true)
  (s:o.op=.call { callee:=.value x,args:=xs.toArray,argTypes:=T }) (l:ev F x=some (.func (.func f) first.toArray b.toArray)) (n:evs F xs=some vs) (c:first++vs++b=d) (i:EN P f=true)
  (hs:SpecL P f d.toArray M [] (λu _ _=>u=v)):QF P ops N F M L o v:=λa j=>
 .inl ⟨FN j z,λw m=>by
  have g:St ⟨w,([]:Lc).map (·.1),M⟩ M [] w:=
   {os:=rfl,tape:=rfl,output:=rfl,size:=Nat.le_refl _,same:=λ_ _ _=>rfl,fresh:=λ_ _=>rfl,agree:=m.agree
    locs:=λp r=>by cases r
    nodup:=by simp }
  rw[Ny s j l n c i w]
  refine⟨Below.refl _ _,(hs w g).mono λe B y=>?_⟩
  obtain⟨u,D,C,rfl,rfl,h⟩:=y
  exact⟨rfl,⟨h.os,h.tape,h.output,h.size,λk t=>h.same k t (by simp)⟩⟩⟩
end
set_option maxRecDepth 8000
inductive Bd (F:Fr):Option Operand->Nat->Nat->Prop
 |no (d:Nat):Bd F none d d
 |of {y:Operand} {k:IntKind} {i:Int} {d v:Nat} (h:ev F y=some (.int k i)) (h0:0<=i) (hv:i.toNat=v):Bd F (some y) d v
def H7(a:Option Addr)(l m s:Nat):Option Addr:=if m=l then a else a.map (·.add (l*s))
variable{b m:Nat}
theorem AB{off l s:Nat}(h:l<m):H7 (some ⟨b,off,none⟩) l m s=some ⟨b,off+l*s,none⟩:=by
 have:m≠l:=by omega
 have a:∀j,(⟨b,off,none⟩:Addr).add j=⟨b,off+j,none⟩:=λj=>by unfold Addr.add;split<;>simp_all
 grind[H7]
variable{a:Option Addr}
theorem AZ{s:Nat}:H7 a 0 m s=a:=by
 unfold H7;split
 ·rfl
 cases a<;>simp[Addr.add]
section
variable{P:Program}{ops:Array Oper}{N:Fs}{F:Fr}{E:Ent}{M:Mem}{L:Lc}{o:Oper}
theorem Dd{y:Value}{k:IntKind}{i:Int}{v d:Nat}{a:BoundsCode}(b:y=.int k i)(f:0<=i)(c:i.toNat=v)(e:v<=d)(w:World):(Instr.sliceBound y d a).run P w=.ok v w:=by
 subst b c
 have:0<=i/\i<=d:=⟨f,by omega⟩
 simp[Instr.sliceBound,asIntOf,this]
theorem Nz{a:Act}(c:Has N F a){isS:Bool}{len e l h m:Nat}{y u r:Option Operand}(E:Bd F r e m)(z:Bd F u len h)(t:Bd F y 0 l)(d:l<=h)(b:h<=m)(f:m<=e)(s:r=none\/u≠none)(w:World):
  (Instr.sliceBounds isS len e (y.map a.eval) (u.map a.eval) (r.map a.eval)).run P w=.ok (l,h,m) w:=by
 unfold Instr.sliceBounds
 cases E with
 |no=>
  cases z with
  |no=>cases t with
   |no=>simp
   |of o n k=>simp[Dd (P:=P) (c.ev o) n k d]
  |of j i g=>cases t with
   |no=>simp[Dd (P:=P) (c.ev j) i g b]
   |of o n k=>simp[Dd (P:=P) (c.ev o) n k d,Dd (P:=P) (c.ev j) i g b]
 |of D C B=>
  cases z with
  |no=>simp at s
  |of j i g=>cases t with
   |no=>simp[Dd (P:=P) (c.ev j) i g b,Dd (P:=P) (c.ev D) C B f]
   |of o n k=>simp[Dd (P:=P) (c.ev o) n k d,Dd (P:=P) (c.ev j) i g b,Dd (P:=P) (c.ev D) C B f]
theorem C6{x:Operand}{t e:TypeId}{s k f:Option Operand}{a:Option Addr}{len c l h m r n:Nat}{z:List Value}(G:gd ops F o=some true)(B:o.op=.slice t x s k f)(u:ev F x=some (.slice a len c))[y:Und P t (.slice e)][hs:Lay P e r n z]
  (C:Bd F f c m) (E:Bd F k len h) (D:Bd F s 0 l) (b:l<=h/\h<=m/\m<=c) (g:f=none\/k≠none):QF P ops N F M L o (.slice (H7 a l m r) (h-l) (m-l)):=BG G λJ d w _=>by
 obtain⟨I,v,j,i,_⟩:=hs.info
 have H:=Nz (P:=P) d (isS:=true) C E D b.1 b.2.1 b.2.2 g w
 simp only[execOp,B,Instr.sliceAt,Sem.run_bind,run_underlying y.h,Result.andThen_ok,Instr.slice,d.ev u,H,sizeOf,typeInfo,run_program,j,Sem.run_pure,i,H7]
theorem qSlA{x:Operand}{t e:TypeId}{s k f:Option Operand}{b off n l h m d r:Nat}{z:List Value}(G:gd ops F o=some true)(B:o.op=.slice t x s k f)(u:ev F x=some (.pointer (some ⟨b,off,none⟩)))[y:Und P t (.array n e)][hs:Lay P e d r z]
  (C:Bd F f n m) (E:Bd F k n h) (D:Bd F s 0 l) (a:l<=h/\h<=m/\m<=n) (g:f=none\/k≠none):QF P ops N F M L o (.slice (H7 (some ⟨b,off,none⟩) l m d) (h-l) (m-l)):=BG G λJ c w _=>by
 obtain⟨I,v,j,i,_⟩:=hs.info
 have H:=Nz (P:=P) c (isS:=false) C E D a.1 a.2.1 a.2.2 g w
 have e:H7 (some ⟨b,off,none⟩) l m d=some (if m=l then (⟨b,off,none⟩:Addr)else (⟨b,off,none⟩:Addr).add (l*d)):=by unfold H7;split<;>rfl
 simp only[execOp,B,Instr.sliceAt,Sem.run_bind,run_underlying y.h,Result.andThen_ok,Instr.sureAddr,c.ev u,H,sizeOf,typeInfo,run_program,j,Sem.run_pure,i,e]
def GW(place:Nat->Option (Nat×Nat)):List Value->List (Nat×Value)->Option (List Value)
 |cs,[]=>some cs
 |cs,(i,v)::rest=>match place i with
  |some (off,size)=>bif Nat.beq v.cells.toList.length size&&Nat.ble (off+size) cs.length then GW place (cs.take off++v.cells.toList++cs.drop (off+size)) rest else none
  |none=>none
theorem Qs(off:Nat):∀(vs:List Value)(j:Nat)(cs:List Value),off+j+vs.length<=cs.length->
  ((vs.zipIdx j).foldl (λ(a:Array Value)(p:Value×Nat)=>a.setIfInBounds (off+p.2) p.1) cs.toArray)=(cs.take (off+j)++vs++cs.drop (off+j+vs.length)).toArray
 |[],j,cs,h=>by simp
 |v::vs,j,cs,h=>by
  simp only[List.zipIdx_cons,List.foldl_cons,List.setIfInBounds_toArray]
  simp only[List.length_cons]at h
  rw[Qs off vs (j+1) (cs.set (off+j) v) (by simp;omega)]
  have b:off+j<cs.length:=by omega
  have d:(cs.set (off+j) v).take (off+(j+1))=cs.take (off+j)++[v]:=by
   rw[<-Nat.add_assoc,List.take_succ_eq_append_getElem (by simpa using b),List.take_set_of_le (Nat.le_refl _)];simp
  have c:(cs.set (off+j) v).drop (off+(j+1)+vs.length)=cs.drop (off+j+(vs.length+1)):=by
   rw[List.drop_set_of_lt (by omega)];congr 1;omega
  rw[d,c];simp
theorem MR(place:Nat->Option (Nat×Nat)):∀(ps:List (Nat×Value))(cs r:List Value),GW place cs ps=some r->Instr.fill place cs.toArray ps=some r.toArray
 |[],cs,r,h=>by simp[GW]at h;simp[Instr.fill,h]
 |(i,v)::ps,cs,r,h=>by
  unfold GW at h
  unfold Instr.fill
  cases d:place i with
  |none=>simp[d]at h
  |some g=>
   obtain⟨off,size⟩:=g
   simp only[d]at h⊢
   cases b:(Nat.beq v.cells.toList.length size&&Nat.ble (off+size) cs.length)with
   |false=>rw[b]at h;cases h
   |true=>
    rw[b]at h
    simp only[cond_true]at h
    simp only[Bool.and_eq_true,Nat.ble_eq]at b
    have c:v.cells.size=size:=by rw[<-Array.length_toList];exact Nat.eq_of_beq_eq_true b.1
    have k:¬(v.cells.size≠size||decide (off+v.cells.size>cs.toArray.size))=true:=by simp[c];omega
    have f:=Qs off v.cells.toList 0 cs (by simp[c];omega)
    rw[if_neg (by simpa using k)]
    simp only[Nat.add_zero,Array.length_toList,c]at f
    have j:v.cells.zipIdx.foldl (λ(a:Array Value)(p:Value×Nat)=>a.setIfInBounds (off+p.2) p.1) cs.toArray=(cs.take off++v.cells.toList++cs.drop (off+size)).toArray:=by
     rw[<-f,<-Array.foldl_toList];simp
    have e:=MR place ps _ r h
    rw[<-j]at e
    exact e
end
class Plc(P:Program)(t:TypeId)(pl:outParam (List (Nat×Nat))):Prop where
 h:(match P.underlying t with|some (.struct fs)=>fs.toList.mapM (λf=>(P.info? f.type).map λi=>(f.offset,i.size))|_=>none)=some pl
def evp(F:Fr):List (Nat×Operand)->Option (List (Nat×Value))
 |[]=>some []
 |(i,x)::ps=>match ev F x,evp F ps with
  |some v,some vs=>some ((i,v)::vs)
  |_,_=>none
variable{F:Fr}{N:Fs}
theorem Has.evp{a:Act}(h:Has N F a):∀{ps:List (Nat×Operand)}{vs:List (Nat×Value)},evp F ps=some vs->ps.map (λ(i,x)=>(i,a.eval x))=vs
 |[],vs,b=>by simpa [Go.Proofs.YtdahhoicackcaaaGreat.evp]using b
 |(i,x)::ps,vs,b=>by
  unfold Go.Proofs.YtdahhoicackcaaaGreat.evp at b
  split at b
  ·rename_i v e d c
   cases b
   simp[h.ev d,h.evp c]
  grind
section
variable{P:Program}{ops:Array Oper}{N:Fs}{F:Fr}{E:Ent}{M:Mem}{L:Lc}{o:Oper}
theorem Bk{t:TypeId}{ps:List (Nat×Operand)}{vs:List (Nat×Value)}{f e:Nat}{z cs:List Value}{c:List (Nat×Nat)}(r:gd ops F o=some true)(l:o.op=.build t ps.toArray)(j:evp F ps=some vs)[m:Lay P t f e z][hp:Plc P t c]
  (s:GW (c[·]?) z vs=some cs):QF P ops N F M L o (.agg cs.toArray):=BG r λa u w _=>by
 obtain⟨H,G,n,_,_,g,d⟩:=m.info
 have b:=hp.h
 split at b
 ·rename_i I k
  have E:P.built t vs=some cs.toArray:=by
   have D:(λi:Nat=>c.toArray[i]?)=(λi:Nat=>c[i]?):=by funext i;simp
   simp only[Program.built,n,k,g,b,D,d]
   exact MR _ _ _ _ s
  have C:=u.evp j
  have B:((ps.toArray).map λx=>(x.1,a.eval x.2)).toList=vs:=by rw[<-C];simp
  have y:=run_build (P:=P) w t ((ps.toArray).map λx=>(x.1,a.eval x.2)) cs.toArray (by rw[B];exact E)
  simp only[execOp,l,Sem.run_bind,y,Result.andThen_ok,Sem.run_pure]
 cases b
theorem Aa{t e:TypeId}{n:Nat}{ps:List (Nat×Operand)}{vs:List (Nat×Value)}{c B:Nat}{z cs:List Value}(T:gd ops F o=some true)(D:o.op=.buildSlice t n ps.toArray)(Q:evp F ps=some vs)[C:Und P t (.slice e)][H:Lay P e c B z]
  (U:GW (λi=>some (i*c,c)) (List.replicate n z).flatten vs=some cs) (d:Nat.ble (n*c) 16777216=true) (g:Nat.blt 0 c=true):
  HF P ops N F E M L o (λv Y Z=>∃b,v=.slice (some ⟨b,0,none⟩) n n/\M=Y/\Z=(b,.cells cs.toArray e (0,0))::L):=Dw T λa w V O=>by
 have f:=H.len
 obtain⟨ti,zv,u,k,_,K,m⟩:=H.info
 refine⟨_,_,M,_,.inl ?_,O.alloc (.cells cs.toArray e (0,0)),_,rfl,rfl,rfl⟩
 have I:=V.evp Q
 have W:((ps.toArray).map λx=>(x.1,a.eval x.2)).toList=vs:=by rw[<-I];simp
 have R:¬(16777216<n*c):=by simpa [Nat.ble_eq]using d
 have h0:0<c:=by simpa [Nat.blt_eq]using g
 have l:(Array.range (n*c)).map (λi=>z.toArray[i%z.toArray.size]!)=((List.replicate n z).flatten).toArray:=by
  have S:∀n,(List.range (n*c)).map (λi=>z[i%c]!)=(List.replicate n z).flatten:=by
   intro n
   induction n with
   |zero=>simp
   |succ n J=>
    rw[Nat.succ_mul,List.range_add,List.map_append,J,List.replicate_succ',List.flatten_append]
    congr 1
    rw[List.map_map]
    apply List.ext_getElem
    ·simp [f]
    intro i X h2
    have j:i<c:=by simpa using X
    have:(n*c+i)%c=i:=by rw[Nat.mul_comm,Nat.mul_add_mod,Nat.mod_eq_of_lt j]
    simp[this,f,j]
  apply Array.ext'
  simp only[Array.toList_map,Array.toList_range]
  rw[<-S n]
  apply List.map_congr_left
  intro i u
  simp[f]
 have y:=MR (λi=>some (i*c,c)) vs _ _ U
 by_cases G:n*c=0
 ·have s:n=0:=by rcases Nat.mul_eq_zero.1 G with h|h<;>omega
  subst s
  simp only[List.replicate_zero,List.flatten_nil]at y
  simp[execOp,D,Instr.buildSlice,run_underlying C.h,sizeOf,typeInfo,u,k,I,y,newRow,Array.range_zero']
 have r:¬(n*c>2 ^ 24):=R
 simp only[execOp,D,Instr.buildSlice,Sem.run_bind,run_underlying C.h,Result.andThen_ok,sizeOf,typeInfo,run_program,u,Sem.run_pure,k,if_neg r,if_neg G,zeroValue,K,m,W,l,y]
 simp[newRow]
theorem wCi{x y:Operand}{t u e:TypeId}{b off dn dc:Nat}{g:Option Addr}{f m:Nat}{l cs:List Value}{i:TypeId}{L':Lc}{D:Nat}{z:List Value}(W:gd ops F o=some true)
  (T:o.op=.call { callee:=.builtin .copy,args:=#[x,y],argTypes:=#[t,u] }) (O:ev F x=some (.slice (some ⟨b,off,none⟩) dn dc)) (K:ev F y=some (.slice g f m)) [R:Und P t (.slice e)] [V:Lay P e 1 D z]
  (U:cs.length=min f dn) (C:SJ M L g cs) (Z:∀v∈cs,v.oneCell'=true) [at_:At b (.cells l.toArray i (0,0)) L] (I:off+cs.length<=l.length)
  [hp:PutAt b (.cells l.toArray i (0,0)) (.cells (l.take off++cs++l.drop (off+cs.length)).toArray i (0,0)) L L']:
  HF P ops N F E M L o (λv M' G=>v=.int .i64 cs.length/\M=M'/\G=L'):=Dw W λa w J r=>by
 obtain⟨ti,zv,H,c,_⟩:=V.info
 have Y:=(r.locs _ at_.mem).1
 refine⟨.int .i64 cs.length,_,M,L',.inl ?_,r.put hp,rfl,rfl,rfl⟩
 have S:(P.info? e).map (·.size)=some 1:=by simp[H,c]
 have s:=run_storeCells_at P b off i cs 0 l.toArray w Y (by simp;omega) Z
 have B:(Builtin.firstCells 1 cs.length (.slice g f m)).run P w=.ok cs.toArray w:=by
  rcases C with rfl|⟨n,k,rfl,X⟩
  ·cases g<;>simp[Builtin.firstCells,loadCells,loadCellsFrom]
  have d:∀j,(⟨n,k,none⟩:Addr).add j=⟨n,k+j,none⟩:=λj=>by unfold Addr.add;split<;>simp_all
  exact run_firstCells_some (P:=P) w 1 cs.length ⟨n,k,none⟩ f m cs (by simp) (λj v Q=>by rw[d];exact(X j v Q).cell r.js)
 simp[execOp,T,resolve,invoke,builtin,J.ev O,J.ev K,Builtin.copy_,run_underlying R.h,sizeOf,typeInfo,H,c,Builtin.lenOf,<-U,B,s,goInt]
theorem EJ{x y:Operand}{t e:TypeId}{k C:IntKind}{n c:Int}{g f:Nat}{z:List Value}(Y:gd ops F o=some true)(V:o.op=.makeSlice t x y)(S:ev F x=some (.int k n))(R:ev F y=some (.int C c))[U:Und P t (.slice e)][G:Lay P e g f z]
  (h:0<=n/\n<=c/\c<=1000000000) (u:Nat.ble f 100000=true):
  HF P ops N F E M L o (λv M' L'=>∃b,v=.slice (some ⟨b,0,none⟩) n.toNat c.toNat/\M=M'/\L'=(b,.cells ((List.replicate c.toNat z).flatten).toArray e (0,0))::L):=Dw Y λa w I T=>by
 have d:=G.len
 obtain⟨l,B,H,s,r,Q,m⟩:=G.info
 refine⟨_,_,M,_,.inl ?_,T.alloc (.cells ((List.replicate c.toNat z).flatten).toArray e (0,0)),_,rfl,rfl,rfl⟩
 have Z:(l.bytes:Int)*c<=281474976710656:=by
  rw[r]
  have J:f<=100000:=by simpa [Nat.ble_eq]using u
  have h2:(f:Int)*c<=100000*c:=Int.mul_le_mul_of_nonneg_right (by omega) (by omega)
  omega
 have D:=run_make (P:=P) w t e l B U.h H Q k C n c h.1 h.2.1 Z (by omega)
 have W:madeCells B.cells (c.toNat*l.size)=((List.replicate c.toNat z).flatten).toArray:=by
  rw[m,s]
  rcases Nat.eq_zero_or_pos g with K|K
  ·subst K
   have:z=[]:=List.eq_nil_of_length_eq_zero d
   subst this
   simp[madeCells]
  have X:∀n,(List.range (n*g)).map (λi=>z[i%g]!)=(List.replicate n z).flatten:=by
   intro n
   induction n with
   |zero=>simp
   |succ n O=>
    rw[Nat.succ_mul,List.range_add,List.map_append,O,List.replicate_succ',List.flatten_append]
    congr 1
    rw[List.map_map]
    apply List.ext_getElem
    ·simp [d]
    intro i J h2
    have j:i<g:=by simpa using J
    have:(n*g+i)%g=i:=by rw[Nat.mul_comm,Nat.mul_add_mod,Nat.mod_eq_of_lt j]
    simp[this,d,j]
  apply Array.ext'
  rw[<-X]
  simp only[madeCells,Array.toList_map,Array.toList_range]
  apply List.map_congr_left
  intro i H
  simp[d]
 rw[W]at D
 simp[execOp,V,I.ev S,I.ev R,D]
theorem Yc{x:Operand}{s d e:TypeId}{g:Option Addr}{n c:Nat}{xs:List Int}(D:gd ops F o=some true)(l:o.op=.convert s d x)(j:ev F x=some (.slice g n c))[hs:Und P s (.slice e)][r:Und P e (.int .u8)][t:Und P d .string]
  (y:xs.length=n) (z:SJ M L g (xs.map (Value.int .u8))):QF P ops N F M L o (.string (strOfNums xs)):=BG D λa u w C=>by
 cases g with
 |none=>
  have:xs=[]:=by
   rcases z with h|⟨b,off,h,_⟩
   ·simpa using h
   cases h
  subst this
  have k:=run_convert_bytes_nil (P:=P) w s e hs.h r.h n c d t.h
  simp[execOp,l,u.ev j,k,strOfNums,ByteArray.empty,ByteArray.emptyWithCapacity];rfl
 |some B=>
  rcases z with h|⟨b,off,h,f⟩
  ·have:xs=[]:=by simpa using h
   subst this
   subst y
   have:(convert s d (.slice (some B) 0 c)).run P w=.ok (.string (strOfNums [])) w:=by
    obtain⟨b,off,E⟩:=B
    simp[convert,run_underlying hs.h,run_underlying t.h,run_underlying r.h,Conv.bytesToString,loadCells,loadCellsFrom,strOfNums,ByteArray.empty,ByteArray.emptyWithCapacity];rfl
   simp[execOp,l,u.ev j,this]
  cases h
  have k:=run_convert_bytes_arg (P:=P) w s e hs.h r.h b off n c xs y (λi G=>(f i _ (by
   have m:i<xs.length:=by omega
   simp[List.getD_eq_getElem?_getD,m])).cell C) d t.h
  simp[execOp,l,u.ev j,k]
end
end Go.Proofs.YtdahhoicackcaaaGreat
