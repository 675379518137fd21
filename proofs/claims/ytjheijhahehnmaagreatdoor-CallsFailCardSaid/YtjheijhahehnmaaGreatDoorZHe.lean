/- THE WALKING LAYER, fifth part: slices of slices, literals, copy, make, strings. No statement of the seat is proved here. -/
import Derived.Test.YtjheijhahehnmaaGreatDoorZHb
namespace Go.Proofs.YtjheijhahehnmaaGreatDoor
set_option linter.unusedSimpArgs false
set_option linter.unusedVariables false
set_option linter.unusedSectionVars false
set_option maxRecDepth 8000
open Go.RowKit
def gd(ops:Array Oper)(F:Fr)(o:Oper):Option Bool:=
 match o.guard with
 |none=>some true
 |some (j,want)=>match (ops[j]?).bind (·.dst)with
  |some d=>match lk d F with
   |some (.bool b)=>some (b==want)
   |some (.tuple _)=>some false
   |_=>none
  |none=>none
variable{F:Fr}{N:Fs}{a:Act}{o:Oper}{ops:Array Oper}
theorem Fq{b:Bool}(g:Has N F a)(h:gd ops F o=some b):Region.wanted o (yielded ops a.tmps)=b:=by
 unfold gd at h;unfold Region.wanted;cases i:o.guard with
 |none=>grind
 |some k=>
  obtain⟨j,c⟩:=k
  rw[i]at h
  simp only at h⊢
  split at h
  ·rename_i d f
   split at h
   ·rename_i l e
    cases h
    have:=g.get d _ e
    cases l<;>cases c<;>simp[yielded,f,this]
   ·rename_i m e
    cases h
    have:=g.get d _ e
    simp[yielded,f,this]
   grind
  grind
def pv(F:Fr):Op->Option Value
 |.move x=>ev F x
 |.assign x=>ev F x
 |.pick c a b=>match ev F c with
  |some (.bool true)=>ev F a
  |some (.bool false)=>ev F b
  |_=>none
 |.extract t i=>match ev F t with
  |some (.tuple vs)=>vs[i]?
  |_=>none
 |.binOp op _ x y _=>match ev F x,ev F y with
  |some (.int k a),some (.int k' b)=>if k=k' then
    match op with
    |.add=>some (.int k (k.wrap (a+b)))
    |.sub=>some (.int k (k.wrap (a-b)))
    |.mul=>some (.int k (k.wrap (a*b)))
    |.eql=>some (.bool (decide (a=b)))
    |.neq=>some (.bool (decide (¬a=b)))
    |.lss=>some (.bool (decide (a<b)))
    |.leq=>some (.bool (decide (a<=b)))
    |.gtr=>some (.bool (decide (b<a)))
    |.geq=>some (.bool (decide (b<=a)))
    |_=>none
   else none
  |some (.string a),some (.string b)=>match op with
    |.eql=>some (.bool (a.toList==b.toList))
    |.neq=>some (.bool (!(a.toList==b.toList)))
    |_=>none
  |_,_=>none
 |.unOp .not _ x=>match ev F x with
  |some (.bool b)=>some (.bool (!b))
  |_=>none
 |.makeFunc fn first captured=>match evs F first.toList,evs F captured.toList with
  |some a,some b=>some (.func fn a.toArray b.toArray)
  |_,_=>none
 |_=>none
section
variable{P:Program}{ops:Array Oper}{N:Fs}{F:Fr}{E:Ent}{M:Mem}{L:Lc}{o:Oper}
theorem wTs{a:Act}(d:Has N F a){v:Value}(h:pv F o.op=some v)(w:World):(execOp a.eval o).run P w=.ok (.value v) w:=by
 obtain⟨I,B,u,z,s,n⟩:=o;simp only at h;unfold pv at h;split at h
 ·simp only[execOp,d.ev h,Sem.run_pure]
 ·simp only[execOp,d.ev h,Sem.run_pure]
 ·rename_i c x y;split at h
  ·rename_i l;simp[execOp,d.ev l,d.ev h,asBool]
  ·rename_i l;simp[execOp,d.ev l,d.ev h,asBool]
  grind
 ·rename_i t i;split at h
  ·rename_i L C;simp[execOp,d.ev C,Instr.extract,h]
  grind
 ·rename_i B K x y J;split at h
  ·rename_i k b M c j m;split at h
   ·rename_i D;subst D;split at h<;>first|cases h|skip
    all_goals (simp only[execOp,d.ev j,d.ev m];simp[eqGuard,binOp,Op.intArith,Op.intCmp])
    all_goals (by_cases e:b=c<;>simp[e])
   grind
  ·rename_i b c j m;split at h<;>first|cases h|skip
   all_goals (simp only[execOp,d.ev j,d.ev m];simp[eqGuard,binOp,Op.stringOp])
  grind
 ·rename_i t x;split at h
  ·rename_i b j;cases h;simp[execOp,d.ev j,Op.unary]
  grind
 ·rename_i O first g
  split at h
  ·rename_i b c E l;cases h;have H:=d.evs E;have G:=d.evs l;have e:∀(f:Operand->Value)(xs:Array Operand),xs.map f=(xs.toList.map f).toArray:=λf xs=>by rw[<-Array.toList_map,Array.toArray_toList]
   simp only[execOp,Instr.makeFunc,e,H,G,Sem.run_bind,Sem.run_pure,Result.andThen_ok]
  grind
 grind
theorem Bv{v:Value}(d:gd ops F o=some true)(h:∀a,Has N F a->∀w,Js M L w->(execOp a.eval o).run P w=.ok (.value v) w):QF P ops N F M L o v:=λa b=>
 .inl ⟨Fq b d,λw c=>by rw[h a b w c];exact⟨rfl,Below.refl _ _⟩⟩
theorem qP{v:Value}(a:gd ops F o=some true)(h:pv F o.op=some v):QF P ops N F M L o v:=Bv a λ_ b w _=>wTs b h w
theorem qS(a:gd ops F o=some false):QF P ops N F M L o undef:=λ_ b=>.inr ⟨Fq b a,rfl⟩
theorem Bh{v v':Value}(h:QF P ops N F M L o v)(e:v=v'):QF P ops N F M L o v':=e▸h
def DC(N:Fs)(ops:Array Oper)(F:Fr)(o:Oper):Option (Nat×Value):=
 match o.dst with
 |some d=>bif Nat.blt d N.n then match gd ops F o with
  |some true=>match pv F o.op with
   |some v=>some (d,v)
   |none=>none
  |some false=>some (d,undef)
  |none=>none
  else none
 |none=>none
theorem B1{d:Nat}{v:Value}(h:DC N ops F o=some (d,v)):o.dst=some d/\Nat.blt d N.n=true/\∀P M L,QF P ops N F M L o v:=by
 grind[DC,qP,qS]
variable{Q:Exit->Act->World->Prop}{rest:List Oper}{d:Nat}
theorem jp{v:Value}(h:DC N ops F o=some (d,v))(k:JL P ops N Q rest ((d,v)::F) E M L):JL P ops N Q (o::rest) F E M L:=
 A2 (B1 h).1 (B1 h).2.1 ((B1 h).2.2 P M L) k
theorem jt{b:Bool}(h:DC N ops F o=some (d,.bool b))(a:b=true)(k:JL P ops N Q rest ((d,.bool true)::F) E M L):JL P ops N Q (o::rest) F E M L:=jp h (by rw[a];exact k)
theorem jf{b:Bool}(h:DC N ops F o=some (d,.bool b))(a:b=false)(k:JL P ops N Q rest ((d,.bool false)::F) E M L):JL P ops N Q (o::rest) F E M L:=jp h (by rw[a];exact k)
theorem js{p:Prop}{_:Decidable p}(h:DC N ops F o=some (d,.bool (decide p)))(c:p->JL P ops N Q rest ((d,.bool true)::F) E M L)(b:¬p->JL P ops N Q rest ((d,.bool false)::F) E M L):JL P ops N Q (o::rest) F E M L:=by
 by_cases a:p
 ·exact jt h (decide_eq_true a) (c a)
 exact jf h (decide_eq_false a) (b a)
theorem LZ{b:Bool}(h:DC N ops F o=some (d,.bool b))(e:b=true->JL P ops N Q rest ((d,.bool true)::F) E M L)(c:b=false->JL P ops N Q rest ((d,.bool false)::F) E M L):JL P ops N Q (o::rest) F E M L:=by
 cases a:b
 ·exact jf h a (c a)
 exact jt h a (e a)
def ar:BinOp->Int->Int->Option Int
 |.add,a,b=>some (a+b)
 |.sub,a,b=>some (a-b)
 |.mul,a,b=>some (a*b)
 |_,_,_=>none
def wCm(N:Fs)(ops:Array Oper)(F:Fr)(o:Oper):Option (Nat×Int):=
 match o.dst,gd ops F o,o.op with
 |some d,some true,.binOp op _ x y _=>bif Nat.blt d N.n then match ev F x,ev F y with
  |some (.int .i64 a),some (.int .i64 b)=>match ar op a b with
   |some r=>some (d,r)
   |none=>none
  |_,_=>none
  else none
 |_,_,_=>none
theorem qA{d:BinOp}{g f:TypeId}{x y:Operand}{a b r:Int}(m:gd ops F o=some true)(l:o.op=.binOp d g x y f)(j:ev F x=some (.int .i64 a))(i:ev F y=some (.int .i64 b))
  (c:ar d a b=some r) (h: -9223372036854775808<=r/\r<=9223372036854775807):QF P ops N F M L o (.int .i64 r):=Bv m λn e w _=>by
 have k:=IntWalk.i64_in r h
 simp only[execOp,l,e.ev j,e.ev i]
 unfold ar at c
 split at c<;>first|cases c|skip
 all_goals simp[eqGuard,binOp,Op.intArith,k]
theorem EJ{r:Int}(h:wCm N ops F o=some (d,r))(a: -9223372036854775808<=r/\r<=9223372036854775807):o.dst=some d/\Nat.blt d N.n=true/\QF P ops N F M L o (.int .i64 r):=by
 grind[wCm,qA]
theorem ja{r:Int}(h:wCm N ops F o=some (d,r))(a: -9223372036854775808<=r/\r<=9223372036854775807)(k:JL P ops N Q rest ((d,.int .i64 r)::F) E M L):JL P ops N Q (o::rest) F E M L:=
 A2 (EJ (P:=P) (M:=M) (L:=L) h a).1 (EJ (P:=P) (M:=M) (L:=L) h a).2.1 (EJ h a).2.2 k
variable{Mi Mw:Mem}{Li Lw:Lc}{p:Ph}{i:Nat}{restD:List (Nat×Bool)}
theorem dp{v:Value}(a:ops[i]? =some o)(h:DC N ops F o=some (d,v))(k:JD P ops N p Mw Lw Q restD ((d,v)::F) E M L Mi Li)(b:p.A i=true:=by rfl):JD P ops N p Mw Lw Q ((i,true)::restD) F E M L Mi Li:=
 Nn a (B1 h).1 (B1 h).2.1 (λM L=>(B1 h).2.2 P M L) k b
theorem dt{b:Bool}(a:ops[i]? =some o)(h:DC N ops F o=some (d,.bool b))(c:b=true)(k:JD P ops N p Mw Lw Q restD ((d,.bool true)::F) E M L Mi Li)(e:p.A i=true:=by rfl):JD P ops N p Mw Lw Q ((i,true)::restD) F E M L Mi Li:=dp a h (by rw[c];exact k) e
theorem df{b:Bool}(a:ops[i]? =some o)(h:DC N ops F o=some (d,.bool b))(c:b=false)(k:JD P ops N p Mw Lw Q restD ((d,.bool false)::F) E M L Mi Li)(e:p.A i=true:=by rfl):JD P ops N p Mw Lw Q ((i,true)::restD) F E M L Mi Li:=dp a h (by rw[c];exact k) e
theorem ds{a:Prop}{_:Decidable a}(c:ops[i]? =some o)(h:DC N ops F o=some (d,.bool (decide a)))(g:a->JD P ops N p Mw Lw Q restD ((d,.bool true)::F) E M L Mi Li)(f:¬a->JD P ops N p Mw Lw Q restD ((d,.bool false)::F) E M L Mi Li)(e:p.A i=true:=by rfl):JD P ops N p Mw Lw Q ((i,true)::restD) F E M L Mi Li:=by
 by_cases b:a
 ·exact dt c h (decide_eq_true b) (g b) e
 exact df c h (decide_eq_false b) (f b) e
theorem da{r:Int}(b:ops[i]? =some o)(h:wCm N ops F o=some (d,r))(a: -9223372036854775808<=r/\r<=9223372036854775807)(k:JD P ops N p Mw Lw Q restD ((d,.int .i64 r)::F) E M L Mi Li)(c:p.A i=true:=by rfl):JD P ops N p Mw Lw Q ((i,true)::restD) F E M L Mi Li:=
 Nn b (EJ (P:=P) (M:=M) (L:=L) h a).1 (EJ (P:=P) (M:=M) (L:=L) h a).2.1 (λ_ _=>(EJ h a).2.2) k c
theorem dk(j:ops[i]? =some o)(h:o.dst=some d)(s:Nat.blt d N.n=true)(l:gd ops F o=some false)(k:JD P ops N p Mw Lw Q restD ((d,undef)::F) E M L Mi Li)(u:p.A i=true:=by rfl):JD P ops N p Mw Lw Q ((i,false)::restD) F E M L Mi Li:=λc e f g=>
 ⟨o,j,by unfold HM;rw[h];exact s,St.closed _ _ _,λ_ b=>(b.js.sub c e).sub f g,λ_ _ b=>b.js.sub c e,.inr ⟨λa m=>Fq m l,by rw[h,u];exact k c e f g⟩⟩
theorem BP{b:Bool}(c:o.dst=some d)(e:Nat.blt d N.n=true)(a:QF P ops N F M L o (.bool b))(g:b=true->JL P ops N Q rest ((d,.bool true)::F) E M L)(f:b=false->JL P ops N Q rest ((d,.bool false)::F) E M L):JL P ops N Q (o::rest) F E M L:=by
 cases b
 ·exact A2 c e a (f rfl)
 exact A2 c e a (g rfl)
theorem Td{b:Bool}(c:ops[i]? =some o)(e:o.dst=some d)(g:Nat.blt d N.n=true)(a:QF P ops N F Mi Li o (.bool b))(k:b=true->JD P ops N p Mw Lw Q restD ((d,.bool true)::F) E M L Mi Li)(j:b=false->JD P ops N p Mw Lw Q restD ((d,.bool false)::F) E M L Mi Li)(h:p.A i=true:=by rfl)(f:p.U i=true:=by rfl):JD P ops N p Mw Lw Q ((i,true)::restD) F E M L Mi Li:=by
 cases b
 ·exact Ch c e g a (j rfl) h f
 exact Ch c e g a (k rfl) h f
theorem ep{v:Value}(a:ops[i]? =some o)(h:DC N ops F o=some (d,v))(k:JE P ops N p Mw Lw Q restD ((d,v)::F) E M L)(c:p.A i=true:=by rfl)(b:p.U i=false:=by rfl):JE P ops N p Mw Lw Q ((i,true)::restD) F E M L:=
 Kn a (B1 h).1 (B1 h).2.1 ((B1 h).2.2 P Mw Lw) k c b
theorem wYr{x y:Operand}{T:Array TypeId}{k d:IntKind}{a b:Int}(h:gd ops F o=some true)(g:o.op=.call { callee:=.builtin .max,args:=#[x,y],argTypes:=T })(f:ev F x=some (.int k a))(e:ev F y=some (.int d b)):
  QF P ops N F M L o (.int k (max a b)):=Bv h λi c w _=>by
 have:max a b=if a<b then b else a:=by rw[Int.max_def];split<;>split<;>omega
 simp[execOp,g,resolve,invoke,builtin,Builtin.max_,Builtin.max2,c.ev f,c.ev e,this]
theorem VY{x y:Operand}{T:Array TypeId}{k d:IntKind}{a b:Int}(h:gd ops F o=some true)(g:o.op=.call { callee:=.builtin .min,args:=#[x,y],argTypes:=T })(f:ev F x=some (.int k a))(e:ev F y=some (.int d b)):
  QF P ops N F M L o (.int k (min a b)):=Bv h λi c w _=>by
 have:min a b=if b<a then b else a:=by rw[Int.min_def];split<;>split<;>omega
 simp[execOp,g,resolve,invoke,builtin,Builtin.min_,Builtin.min2,c.ev f,c.ev e,this]
theorem wTp{e d:TypeId}{x y:Operand}{a b:Int}(i:gd ops F o=some true)(h:o.op=.binOp .quo e x y d)(g:ev F x=some (.int .i64 a))(f:ev F y=some (.int .i64 b))
  (m:0<=a) (l:a<=9223372036854775807) (k:1<=b):QF P ops N F M L o (.int .i64 (a / b)):=Bv i λn c w _=>by
 have j:b≠0:=by omega
 simp only[execOp,h,c.ev g,c.ev f]
 simp[eqGuard,binOp,Op.intDiv,j,IntWalk.i64_quo a b ⟨m,l,k⟩]
theorem wYq{e d:TypeId}{x y:Operand}{k:IntKind}{a b:Int}(i:gd ops F o=some true)(h:o.op=.binOp .rem e x y d)(g:ev F x=some (.int k a))(f:ev F y=some (.int k b))
  (l:0<=a) (m:1<=b):QF P ops N F M L o (.int k (a%b)):=Bv i λn c w _=>by
 have j:b≠0:=by omega
 simp only[execOp,h,c.ev g,c.ev f]
 simp[eqGuard,binOp,Op.intDiv,j,Int.tmod_eq_emod_of_nonneg l]
end
class Und(P:Program)(t:TypeId)(d:outParam TypeDesc):Prop where
 h:P.underlying t=some d:=by kernel_rfl
class Lay(P:Program)(t:TypeId)(size bytes:outParam Nat)(z:outParam (List Value)):Prop where
 h:((P.info? t).map λi=>(i.size,i.bytes,i.zero.map λv=>v.cells.toList))=some (size,bytes,some z):=by kernel_rfl
 len:z.length=size:=by kernel_rfl
class Fld(P:Program)(s:TypeId)(i:Nat)(off:outParam Nat)(ft:outParam TypeId):Prop where
 h:(match P.underlying s with|some (.struct fs)=>(fs[i]?).map λf=>(f.offset,f.type)|_=>none)=some (off,ft):=by kernel_rfl
variable{P:Program}{z:List Value}
theorem Lay.info{t:TypeId}{size a:Nat}(l:Lay P t size a z):∃i v,P.info? t=some i/\i.size=size/\i.bytes=a/\i.zero=some v/\v.cells=z.toArray:=by
 have h:=l.h;cases c:P.info? t with
 |none=>grind
 |some i=>
  rw[c]at h
  cases b:i.zero with
  |none=>simp[b]at h
  |some v=>
   grind
variable{ft s:TypeId}{i off:Nat}
theorem Fld.fields(l:Fld P s i off ft):∃a f,P.underlying s=some (.struct a)/\a[i]? =some f/\f.offset=off/\f.type=ft:=by
 have h:=l.h;grind
class At(b:Nat)(o:outParam Obj)(L:Lc):Prop where
 mem:(b,o)∈L
instance(priority:=high) At.head{b:Nat}{o:Obj}{L:Lc}:At b o ((b,o)::L):=⟨List.Mem.head _⟩
instance At.tail{b:Nat}{o:Obj}{p:Nat×Obj}{L:Lc}[h:At b o L]:At b o (p::L):=⟨List.Mem.tail _ h.mem⟩
instance At.right{b:Nat}{o:Obj}{R L:Lc}[h:At b o L]:At b o (R++L):=⟨List.mem_append_right _ h.mem⟩
class PutAt(b:Nat)(o:outParam Obj)(o':Obj)(L:Lc)(L':outParam Lc):Prop where
 ex:∃A B,L=A++(b,o)::B/\L'=A++(b,o')::B
instance(priority:=high) PutAt.head{b:Nat}{o o':Obj}{L:Lc}:PutAt b o o' ((b,o)::L) ((b,o')::L):=⟨[],L,rfl,rfl⟩
instance PutAt.tail{b:Nat}{o o':Obj}{p:Nat×Obj}{L L':Lc}[h:PutAt b o o' L L']:PutAt b o o' (p::L) (p::L'):=⟨by
 obtain⟨A,B,h1,h2⟩:=h.ex;exact⟨p::A,B,by rw[h1];rfl,by rw[h2];rfl⟩⟩
instance PutAt.right{b:Nat}{o o':Obj}{R L L':Lc}[h:PutAt b o o' L L']:PutAt b o o' (R++L) (R++L'):=⟨by
 obtain⟨A,B,h1,h2⟩:=h.ex;exact⟨R++A,B,by rw[h1];simp,by rw[h2];simp⟩⟩
def CJ(M:Mem)(L:Lc)(b off:Nat)(v:Value):Prop:=∃c e fz,(M b=some (.cells c e fz)\/(b,Obj.cells c e fz)∈L)/\c[off]? =some v
variable{L:Lc}{M:Mem}{b:Nat}{w:World}
theorem CJ.cell{v:Value}(h:CJ M L b off v)(a:Js M L w):w.cell? ⟨b,off,none⟩=some v:=by
 obtain⟨c,e,fz,f,d⟩:=h;have:w.heap[b]? =some (.cells c e fz):=f.elim (a.agree _ _) (a.locs (b,Obj.cells c e fz));simp[World.cell?,this,d]
variable{e:TypeId}{l:List Value}
theorem CJ.loc{v:Value}{fz:Nat×Nat}[h:At b (.cells l.toArray e fz) L](a:l[off]? =some v):CJ M L b off v:=
 ⟨l.toArray,e,fz,.inr h.mem,by simpa using a⟩
def HR:TypeDesc->Bool
 |.struct _|.array _ _=>true
 |_=>false
section
variable{P:Program}{ops:Array Oper}{N:Fs}{F:Fr}{E:Ent}{M:Mem}{L:Lc}{o:Oper}
theorem C1{t:TypeId}{d:TypeDesc}(h:P.underlying t=some d)(w:World):(isAgg t).run P w=.ok (HR d) w:=by
 simp only[isAgg,Sem.run_bind,run_underlying h,Result.andThen_ok];cases d<;>rfl
theorem FY{x:Operand}{t e:TypeId}{a:Option Addr}{n c:Nat}(g:gd ops F o=some true)(f:o.op=.call { callee:=.builtin .len,args:=#[x],argTypes:=#[t] })
  (b:ev F x=some (.slice a n c)) [d:Und P t (.slice e)]:QF P ops N F M L o (.int .i64 n):=Bv g λj i w _=>by
 simp[execOp,f,resolve,invoke,builtin,Builtin.len_,i.ev b,run_underlying d.h,goInt]
theorem Bn{x:Operand}{s d:TypeId}{k a:IntKind}{n:Int}{ds:TypeDesc}(e:gd ops F o=some true)(c:o.op=.convert s d x)(b:ev F x=some (.int a n))[hs:Und P s ds][f:Und P d (.int k)]
  :QF P ops N F M L o (.int k (k.wrap n)):=Bv e λi g w _=>by
 simp[execOp,c,convert,run_underlying hs.h,run_underlying f.h,g.ev b,Conv.intToInt]
theorem C7{x:Operand}{s d:TypeId}{a:IntKind}{n:Int}{ds:TypeDesc}(e:gd ops F o=some true)(c:o.op=.convert s d x)(b:ev F x=some (.int a n))[hs:Und P s ds][f:Und P d (.int .i64)](h: -9223372036854775808<=n/\n<=9223372036854775807)
  :QF P ops N F M L o (.int .i64 n):=Bh (Bn e c b) (by rw[IntWalk.i64_in n h])
theorem Ac{x:Operand}{s:TypeId}{i l:Nat}{y:TypeId}{n m:Nat}{z:List Value}{b off a:Nat}(J:gd ops F o=some true)(G:o.op=.fieldAddr s x i)(C:ev F x=some (.pointer (some ⟨b,off,none⟩)))[K:Fld P s i l y][H:Lay P y n m z]
  (u:Nat.beq n 0=false) (E:off+l=a):QF P ops N F M L o (.pointer (some ⟨b,a,none⟩)):=Bv J λR O w _=>by
 obtain⟨Q,f,D,k,j,h⟩:=K.fields
 obtain⟨B,v,I,g,_⟩:=H.info
 have d:B.size≠0:=λe=>by rw[g]at e;rw[e]at u;simp at u
 have c:(⟨b,off,none⟩:Addr).add l=⟨b,a,none⟩:=by unfold Addr.add;split<;>simp_all
 subst j h
 simp[execOp,G,Instr.fieldAt,run_underlying D,k,O.ev C,Instr.sureAddr,fieldPlace,sizeOf,typeInfo,I,d,c]
theorem Au{x:Operand}{t:TypeId}{d:TypeDesc}{b off:Nat}{v:Value}(g:gd ops F o=some true)(f:o.op=.load t x)(c:ev F x=some (.pointer (some ⟨b,off,none⟩)))[i:Und P t d](k:HR d=false)(j:CJ M L b off v):QF P ops N F M L o v:=
 Bv g λl a w e=>by
  simp[execOp,f,a.ev c,Instr.loadAt,Instr.sureAddr,loadVar,C1 i.h,k,j.cell e]
theorem A1{x:Operand}{t:TypeId}{d:TypeDesc}{b off g f:Nat}{z cs:List Value}(B:gd ops F o=some true)(n:o.op=.load t x)(k:ev F x=some (.pointer (some ⟨b,off,none⟩)))[C:Und P t d][u:Lay P t g f z](E:HR d=true)
  (s:cs.length=g) (D:∀i v,cs[i]? =some v->CJ M L b (off+i) v):QF P ops N F M L o (.agg cs.toArray):=
 Bv B λH e w l=>by
  obtain⟨G,v,y,c,_⟩:=u.info
  have a:∀j,(⟨b,off,none⟩:Addr).add j=⟨b,off+j,none⟩:=λj=>by unfold Addr.add;split<;>simp_all
  have h:=run_loadCells_list (P:=P) (w:=w) ⟨b,off,none⟩ cs (λj v m=>by rw[a];exact(D j v m).cell l)
  simp[execOp,n,e.ev k,Instr.loadAt,Instr.sureAddr,loadVar,C1 C.h,E,sizeOf,typeInfo,y,c,<-s,h]
theorem EV{x s:Operand}{t e:TypeId}{b off n c m l:Nat}{z:List Value}{k:IntKind}{i:Int}(E:gd ops F o=some true)(B:o.op=.indexAddr t x s)(u:ev F x=some (.slice (some ⟨b,off,none⟩) n c))(D:ev F s=some (.int k i))[y:Und P t (.slice e)][C:Lay P e m l z]
  (h:0<=i/\i<n):QF P ops N F M L o (.pointer (some ⟨b,off+i.toNat*m,none⟩)):=
 Bv E λI d w H=>by
  obtain⟨G,v,g,f,_⟩:=C.info
  have a:∀j,(⟨b,off,none⟩:Addr).add j=⟨b,off+j,none⟩:=λj=>by unfold Addr.add;split<;>simp_all
  simp[execOp,B,d.ev u,d.ev D,Instr.indexAt,asIntOf,run_underlying y.h,h,sizeOf,typeInfo,g,f,a]
theorem F7{x m:Operand}{t e:TypeId}{b off n l g:Nat}{z:List Value}{k:IntKind}{i:Int}(D:gd ops F o=some true)(y:o.op=.indexAddr t x m)(s:ev F x=some (.pointer (some ⟨b,off,none⟩)))(C:ev F m=some (.int k i))[u:Und P t (.array n e)][B:Lay P e l g z]
  (h:0<=i/\i<n):QF P ops N F M L o (.pointer (some ⟨b,off+i.toNat*l,none⟩)):=
 Bv D λH c w G=>by
  obtain⟨E,v,f,d,_⟩:=B.info
  have a:∀j,(⟨b,off,none⟩:Addr).add j=⟨b,off+j,none⟩:=λj=>by unfold Addr.add;split<;>simp_all
  simp[execOp,y,c.ev s,c.ev C,Instr.indexAt,asIntOf,Instr.sureAddr,run_underlying u.h,h,sizeOf,typeInfo,f,d,a]
theorem wLi{x:Operand}{s:TypeId}{i j:Nat}{g:TypeId}{d:TypeDesc}{cs:List Value}{v:Value}(u:gd ops F o=some true)(n:o.op=.field s x i)(k:ev F x=some (.agg cs.toArray))[y:Fld P s i j g][z:Und P g d](B:HR d=false)(l:cs[j]? =some v):QF P ops N F M L o v:=
 Bv u λE e w C=>by
  obtain⟨D,f,m,c,b,a⟩:=y.fields
  subst b a
  simp[execOp,n,e.ev k,Instr.field,run_underlying m,c,asAgg,part,C1 z.h,B,l]
theorem wAn{x:Operand}{s:TypeId}{i n:Nat}{l:TypeId}{d:TypeDesc}{cs:List Value}{a m:Nat}{z:List Value}(D:gd ops F o=some true)(B:o.op=.field s x i)(u:ev F x=some (.agg cs.toArray))[E:Fld P s i n l][G:Und P l d][C:Lay P l a m z](H:HR d=true):QF P ops N F M L o (.agg ((cs.drop n).take a).toArray):=
 Bv D λO k w J=>by
  obtain⟨K,f,y,j,g,e⟩:=E.fields
  obtain⟨I,v,c,b,_⟩:=C.info
  subst g e
  have:cs.toArray.extract f.offset (f.offset+a)=((cs.drop f.offset).take a).toArray:=by simp
  simp[execOp,B,k.ev u,Instr.field,run_underlying y,j,asAgg,part,C1 G.h,H,sizeOf,typeInfo,c,b]
theorem St.alloc{w:World}(h:St E M L w)(b:Obj):St E M ((w.heap.size,b)::L) (w.alloc b):=by
 have e:Below w.heap.size w (w.alloc b):=(Below.refl _ _).alloc (Nat.le_refl _) _;have d:=St.closed _ _ _ _ _ h e;refine { d with locs:=λp a=>?_,nodup:=?_ }
 ·rcases List.mem_cons.1 a with rfl|a
  ·refine ⟨heap_alloc_new w _,.inl h.size,?_⟩;cases c:M w.heap.size with
   |none=>rfl
   |some x=>exact absurd (Bw (h.agree _ _ c)) (Nat.lt_irrefl _)
  exact d.locs p a
 refine List.nodup_cons.2 ⟨λc=>?_,h.nodup⟩;obtain⟨p,a,f⟩:=List.mem_map.1 c;have:=Bw (h.locs p a).1;grind
theorem St.put{w:World}{b:Nat}{c l:Array Value}{e:TypeId}{fz:Nat×Nat}{L':Lc}(h:St E M L w)(a:PutAt b (.cells c e fz) (.cells l e fz) L L'):St E M L' (w.setRow b l):=by
 obtain⟨A,B,rfl,rfl⟩:=a.ex;have j:=h.locs (b,.cells c e fz) (by simp);have g:∀p∈A++B,p.1≠b:=by
  intro p a o;have n:=h.nodup;grind
 have i:∀k,k≠b->(w.setRow b l).heap[k]? =w.heap[k]? :=λk m=>setRow_other w b k l m;exact
  {os:=h.os,tape:=h.tape,output:=h.output,size:=by rw[setRow_size];exact h.size
   same:=λk m f=>by
    have:k≠b:=λe=>by subst e;exact j.2.1.elim (λh=>by omega) f
    rw[i k this];exact h.same k m f
   fresh:=h.fresh
   agree:=λk x f=>by
    have:k≠b:=λe=>by subst e;rw[j.2.2]at f;cases f
    rw[i k this];exact h.agree k x f
   locs:=λp a=>by
    rcases List.mem_append.1 a with a|a
    ·have d:=h.locs p (by simp[a])
     exact⟨by rw[i _ (g p (by simp[a]))];exact d.1,d.2⟩
    rcases List.mem_cons.1 a with rfl|a
    ·exact ⟨setRow_heap w b _ _ _ _ j.1,j.2⟩
    have d:=h.locs p (by simp[a])
    exact⟨by rw[i _ (g p (by simp[a]))];exact d.1,d.2⟩
   nodup:=by have:=h.nodup;simpa [List.map_append]using this }
theorem CP{K:Value->Mem->Lc->Prop}(B:gd ops F o=some true)
  (h:∀a w,Has N F a->St E M L w->∃v e i j,((execOp a.eval o).run P w=.ok (.value v) e\/(v=undef/\(execOp a.eval o).run P w=.ok .skip e))/\St E i j e/\K v i j):HF P ops N F E M L o K:=λa w s z=>
 ⟨Fq s B,λQ=>by
  obtain⟨v,e,i,j,b,m,u⟩:=h a w s z
  have k:∀c,o.op≠.defer c:=by
   intro c C;have f:∀n,(execOp a.eval o).run P w=.ok n e->∃d,n=.defer d:=λn g=>by
    simp only[execOp,C,Sem.run_bind]at g;generalize (resolve a.eval c o.type).run P w=r at g;cases r with
    |ok d y=>simp[Result.andThen]at g;exact⟨d,g.1.symm⟩
    |halt x y=>simp[Result.andThen]at g
   rcases b with b|⟨_,b⟩
   ·obtain ⟨d,l⟩:=f _ b;cases l
   obtain⟨d,l⟩:=f _ b;cases l
  refine⟨λ_ _=>trivial,?_⟩
  rw[Oper.semAt_eq _ _ _ k]
  rcases b with b|⟨rfl,b⟩
  ·rw [b];exact⟨v,i,j,rfl,m,u⟩
  rw[b];exact⟨undef,i,j,rfl,m,u⟩⟩
theorem AX{t:TypeId}{e d:Nat}{z:List Value}(k:gd ops F o=some true)(h:o.op=.alloc t)[i:Lay P t e d z]:
  HF P ops N F E M L o (λv l m=>∃b,v=.pointer (some ⟨b,0,none⟩)/\M=l/\m=(b,.cells z.toArray t (0,0))::L):=CP k λa w s g=>by
 obtain⟨n,v,j,_,_,f,c⟩:=i.info
 refine⟨_,_,M,_,.inl ?_,g.alloc (.cells z.toArray t (0,0)),_,rfl,rfl,rfl⟩
 simp[execOp,h,Instr.alloc,zeroValue,typeInfo,j,f,newVar,newRow,c]
theorem Bt{t:TypeId}{x:Operand}{u:Value}(f:gd ops F o=some true)(e:o.op=.box t x)(c:ev F x=some u){cs:List Value}(g:u.cells=cs.toArray):
  HF P ops N F E M L o (λv i j=>∃b,v=.pointer (some ⟨b,0,none⟩)/\M=i/\j=(b,.cells cs.toArray t (0,0))::L):=CP f λa w h d=>by
 refine⟨_,_,M,_,.inl ?_,d.alloc (.cells cs.toArray t (0,0)),_,rfl,rfl,rfl⟩
 simp[execOp,e,Instr.box,newVar,newRow,h.ev c,g]
theorem Ns{t:TypeId}{x y:Operand}{u:Value}{b off:Nat}{l cs:List Value}{e:TypeId}{L':Lc}{c g:Nat}{z:List Value}(I:gd ops F o=some true)(C:o.op=.store t x y)(s:ev F x=some (.pointer (some ⟨b,off,none⟩)))(n:ev F y=some u)
  [G:Lay P t c g z] (J:u.cells=cs.toArray) (D:cs.length=c) (O:∀v∈cs,v.oneCell'=true) [h:At b (.cells l.toArray e (0,0)) L] (k:off+c<=l.length)
  [B:PutAt b (.cells l.toArray e (0,0)) (.cells (l.take off++cs++l.drop (off+cs.length)).toArray e (0,0)) L L']:
  HF P ops N F E M L o (λ_ Q i=>M=Q/\i=L'):=CP I λa w m j=>by
 obtain⟨R,v,H,f,_⟩:=G.info
 have K:=(j.locs _ h.mem).1
 refine⟨undef,_,M,L',.inr ⟨rfl,?_⟩,j.put B,rfl,rfl⟩
 have d:=run_storeCells_at P b off e cs 0 l.toArray w K (by simp;omega) O
 simp[execOp,C,m.ev s,m.ev n,Instr.storeAt,Instr.sureAddr,storeVar,sizeOf,typeInfo,H,f,J,D,d]
end
def Own(v:Value)(R:Lc)(e:TypeId)(size n:Nat)(xs:List Value):Prop:=
 xs.length=n*size/\
 ((v=.slice none 0 0/\n=0/\R=[])\/
 ∃g cap cur,v=.slice (some ⟨g,0,none⟩) n cap/\R=[(g,.cells cur e (0,0))]/\n<=cap/\cap<=maxLen/\cur.size=cap*size/\cur.toList.take (n*size)=xs)
theorem Own.nil(e:TypeId)(size:Nat):Own (.slice none 0 0) [] e size 0 []:=⟨by simp,.inl ⟨rfl,rfl,rfl⟩⟩
class Pick(R:Lc)(L:Lc)(L2:outParam Lc):Prop where
 perm:L.Perm (R++L2)
instance(priority:=high) Pick.head{R L:Lc}:Pick R (R++L) L:=⟨List.Perm.refl _⟩
instance Pick.self{R:Lc}:Pick R R []:=⟨by simp⟩
instance Pick.nil{L:Lc}:Pick [] L L:=⟨List.Perm.refl _⟩
instance Pick.cons{R L L2:Lc}{p:Nat×Obj}[h:Pick R L L2]:Pick R (p::L) (p::L2):=⟨((List.Perm.cons p h.perm).trans (List.perm_middle.symm))⟩
instance Pick.app{R A L L2:Lc}[h:Pick R L L2]:Pick R (A++L) (A++L2):=⟨by
 have h1:=(List.Perm.append_left A h.perm)
 refine h1.trans ?_
 rw[<-List.append_assoc,<-List.append_assoc]
 exact List.Perm.append_right _ List.perm_append_comm⟩
instance(priority:=high) Pick.one{p:Nat×Obj}{L:Lc}:Pick [p] (p::L) L:=⟨List.Perm.refl _⟩
section
variable{P:Program}{ops:Array Oper}{N:Fs}{F:Fr}{E:Ent}{M:Mem}{L:Lc}{o:Oper}
theorem Own.row{v:Value}{R L2:Lc}{e:TypeId}{size n:Nat}{xs:List Value}(h:Own v R e size n xs){w:World}(c:St E M (R++L2) w):w.ownsRow 0 e size v n xs:=by
 refine⟨h.1,?_⟩;rcases h.2 with⟨rfl,rfl,_⟩|⟨g,b,a,rfl,rfl,j,i,f,d⟩
 ·grind
 exact .inr ⟨g,b,a,rfl,Nat.zero_le _,(c.locs (g,.cells a e (0,0)) (by simp)).1,j,i,f,d⟩
theorem St.grown{v v':Value}{R L2:Lc}{e:TypeId}{size n n':Nat}{xs xs':List Value}{w w':World}(a:St E M (R++L2) w)(h:Own v R e size n xs)(L:w'.ownsRow 0 e size v' n' xs')(f:w.grownBy w' v.ownBlock)
  (m:∀g,v'.ownBlock=some g->g<w.heap.size->v.ownBlock=some g):∃P,Own v' P e size n' xs'/\St E M (P++L2) w':=by
 have d:∀g,v.ownBlock=some g->∃u,R=[(g,u)]:=λg f=>by
  rcases h.2 with⟨rfl,rfl,_⟩|⟨Z,B,l,rfl,rfl,_⟩
  ·simp [Value.ownBlock]at f
  simp[Value.ownBlock]at f;subst f;exact⟨_,rfl⟩
 have hR:∀p∈R,v.ownBlock=some p.1:=λp c=>by
  rcases h.2 with⟨rfl,rfl,rfl⟩|⟨Z,B,l,rfl,rfl,_⟩
  ·cases c
  rw[List.mem_singleton.1 c];rfl
 have keep:∀k,k<w.heap.size->v.ownBlock≠some k->w'.heap[k]? =w.heap[k]? :=λk H I=>f.block k H (λe=>I e.symm);have y:=a.nodup;rw[List.map_append]at y;have D:=(List.nodup_append.1 y).2.1;have s:∀p∈L2,v.ownBlock≠some p.1:=λp c K=>by
  obtain⟨u,rfl⟩:=d p.1 K;exact(List.nodup_append.1 y).2.2 p.1 (by simp) p.1 (List.mem_map.2 ⟨p,c,rfl⟩) rfl
 have o:∀p∈L2,w'.heap[p.1]? =some p.2/\(E.W.heap.size<=p.1\/p.1∈E.X)/\M p.1=none:=λp c=>by
  have:=a.locs p (by simp[c]);exact⟨by rw[keep p.1 (Bw this.1) (s p c)];exact this.1,this.2⟩
 have G:∀b u,M b=some u->w'.heap[b]? =some u:=λb u O=>by
  have F:=a.agree b u O;rw[keep b (Bw F) (λe=>by
   obtain⟨C,j⟩:=d b e;have:=(a.locs (b,C) (by rw[j];simp)).2.2;rw[O]at this;cases this)]
  exact F
 have i:∀k,k<E.W.heap.size->k∉E.X->w'.heap[k]? =E.W.heap[k]? :=λk H N=>by
  rw[keep k (Nat.lt_of_lt_of_le H a.size) (λe=>by
   obtain⟨C,j⟩:=d k e;have:=(a.locs (k,C) (by rw[j];simp)).2.1;exact this.elim (λh=>by simp only at h;omega) N)]
  exact a.same k H N
 rcases L.2 with⟨rfl,rfl⟩|⟨g,B,l,rfl,_,J,Y,V,U,T⟩
 ·refine ⟨[],⟨L.1,.inl ⟨rfl,rfl,rfl⟩⟩,?_⟩;exact⟨f.os.trans a.os,f.tape.trans a.tape,f.output.trans a.output,Nat.le_trans a.size f.size,i,a.fresh,G,λp c=>o p (by simpa using c),by simpa using D⟩
 refine⟨[(g,.cells l e (0,0))],⟨L.1,.inr ⟨g,B,l,rfl,rfl,Y,V,U,T⟩⟩,?_⟩;have S:∀p∈L2,p.1≠g:=λp c K=>by
  have h5:=Bw (a.locs p (by simp[c])).1;exact s p c (by rw[K];exact m g rfl (by omega))
 refine⟨f.os.trans a.os,f.tape.trans a.tape,f.output.trans a.output,Nat.le_trans a.size f.size,i,a.fresh,G,λp c=>?_,?_⟩
 ·rcases List.mem_cons.1 c with rfl|c
  ·refine ⟨J,?_⟩;by_cases z:g<w.heap.size
   ·obtain ⟨C,j⟩:=d g (m g rfl z);exact(a.locs (g,C) (by rw[j];simp)).2
   refine⟨.inl (Nat.le_trans a.size (Nat.le_of_not_lt z)),?_⟩;cases Q:M g with
   |none=>rfl
   |some x=>exact absurd (Bw (a.agree _ _ Q)) z
  exact o p c
 grind
def SJ(M:Mem)(L:Lc)(a:Option Addr)(news:List Value):Prop:=news=[]\/∃b off,a=some ⟨b,off,none⟩/\∀i v,news[i]? =some v->CJ M L b (off+i) v
theorem HF.imp{K d:Value->Mem->Lc->Prop}(h:HF P ops N F E M L o K)(hk:∀v M' L',K v M' L'->d v M' L'):HF P ops N F E M L o d:=λa w c b=>
 ⟨(h a w c b).1,λQ=>Oper.wpIn_mono (λj i ⟨v,M',L',e,f,g⟩=>⟨v,M',L',e,f,hk v M' L' g⟩) ((h a w c b).2 Q)⟩
theorem WR{x y:Operand}{t e:TypeId}{v:Value}{R L2:Lc}{size k n m c:Nat}{z xs news:List Value}{s:Addr}(hg:gd ops F o=some true)
  (ho:o.op=.call { callee:=.builtin .append,args:=#[x,y],argTypes:=#[t,t] }) (hx:ev F x=some v) (hy:ev F y=some (.slice (some s) m c)) [ht:Und P t (.slice e)] [hl:Lay P e size k z]
  (G:Own v R e size n xs) [hp:Pick R L L2] (I:news.length=m*size) (H:∀i v,news[i]? =some v->CJ M L s.block (s.off+i) v) (B:s.spot=none) (ah:Nat.blt 0 size=true) (h1:∀u∈news,u.oneCell'=true) (ab:n+m<=maxLen) (J:(n+m)*k<=140737488355328):
  HF P ops N F E M L o (λv' M' L'=>M=M'/\∃Z,L'=Z++L2/\Own v' Z e size (n+m) (xs++news)/\(v'=.slice none 0 0↔v=.slice none 0 0/\m=0)/\((∀p∈R,E.W.heap.size<=p.1)->∀p∈Z,E.W.heap.size<=p.1)):=CP hg λa w ha hw=>by
 obtain⟨ti,zv,hi,l,Y,hz,ag⟩:=hl.info
 have T:=hw.perm hp.perm
 have d:=G.row T
 have S:∀j,s.add j=⟨s.block,s.off+j,none⟩:=λj=>by
  obtain⟨b,of,sp⟩:=s;simp only at B;subst B;unfold Addr.add;split<;>simp_all
 have aj:0<size:=by simpa [Nat.blt_eq]using ah
 obtain⟨v',w',U,h2,h3,h4⟩:=run_append_own (P:=P) w 0 t o.type e ti zv size k ht.h hi hz l Y (by rw[ag];simpa using hl.len) aj v n xs d s m c news I
  (λj u hu=>by rw[S];exact(H j u hu).cell hw.js) h1 ab J (Nat.zero_le _)
 have Q:∀g,v'.ownBlock=some g->g<w.heap.size->v.ownBlock=some g:=by
  intro g K X;have ao:((n+m:Nat):Int)<=9223372036854775807:=by unfold maxLen at ab;omega
  have f:∀j u,news[j]? =some u->w.cell? (s.add j)=some u:=λj u hu=>by rw[S];exact(H j u hu).cell hw.js
  rcases d.2 with⟨rfl,rfl⟩|⟨g0,O,af,rfl,_,ak,aq,au,al,ai⟩
  ·by_cases hm:m=0
   ·have:=h4.2 ⟨rfl,hm⟩;subst this;simp[Value.ownBlock]at K
   have D:=run_append_nil (P:=P) w t o.type e ti zv ht.h hi hz s m c news (by rw[l];exact I) f (by omega) (by omega) (by rw[Y];simp only[Nat.zero_add]at J;omega);rw[D]at U;cases U;simp[Value.ownBlock]at K;omega
  by_cases C:n+m<=O
  ·have D:=run_append_room (P:=P) w t o.type e ti ht.h hi g0 n O af ak s m c news (by rw[l];exact I) f h1 C (by rw[I,l,al,<-Nat.add_mul];exact Nat.mul_le_mul_right _ C);rw[D]at U;cases U;simpa [Value.ownBlock]using K
  have V:∀j u,xs[j]? =some u->w.cell? ((⟨g0,0,none⟩:Addr).add j)=some u:=d.cells (g:=g0) rfl;have D:=run_append_grow (P:=P) w t o.type e ti zv ht.h hi hz ⟨g0,0,none⟩ n O xs (by rw[l];exact d.1) V s m c news (by rw[l];exact I) f (by omega) ao (growslice_fits (by omega) (by rw[Y];exact J));rw[D]at U;cases U;simp[Value.ownBlock]at K;omega
 obtain⟨Z,ac,am⟩:=T.grown G h2 h3 Q
 have aa:(∀p∈R,E.W.heap.size<=p.1)->∀p∈Z,E.W.heap.size<=p.1:=λhR p hp=>by
  rcases ac.2 with⟨rfl,_,rfl⟩|⟨g,O,af,rfl,rfl,_⟩
  ·cases hp
  rw[List.mem_singleton.1 hp];by_cases X:g<w.heap.size
  ·have hv:=Q g rfl X;rcases G.2 with⟨rfl,_,_⟩|⟨g2,ap,ae,rfl,rfl,_⟩
   ·simp [Value.ownBlock]at hv
   simp[Value.ownBlock]at hv;subst hv;exact hR (_,Obj.cells ae e (0,0)) (List.mem_singleton.2 rfl)
  exact Nat.le_trans T.size (Nat.le_of_not_lt X)
 refine⟨v',w',M,Z++L2,.inl ?_,am,rfl,Z,rfl,ac,h4,aa⟩
 simp[execOp,ho,resolve,invoke,builtin,ha.ev hx,ha.ev hy,U]
theorem WU{x y:Operand}{t e:TypeId}{v:Value}{R L2:Lc}{size a n m c:Nat}{z xs news:List Value}{h:Addr}(G:gd ops F o=some true)
  (D:o.op=.call { callee:=.builtin .append,args:=#[x,y],argTypes:=#[t,t] }) (C:ev F x=some v) (B:ev F y=some (.slice (some h) m c)) [K:Und P t (.slice e)] [Q:Lay P e size a z]
  (f:Own v R e size n xs) [O:Pick R L L2] (k:news.length=m*size) (d:∀i v,news[i]? =some v->CJ M L h.block (h.off+i) v) (b:h.spot=none) (j:Nat.blt 0 size=true) (H:∀u∈news,u.oneCell'=true) (g:n+m<=1000000000) (l:a<=100000):
  HF P ops N F E M L o (λw I J=>M=I/\∃s,J=s++L2/\Own w s e size (n+m) (xs++news)/\(w=.slice none 0 0↔v=.slice none 0 0/\m=0)/\((∀p∈R,E.W.heap.size<=p.1)->∀p∈s,E.W.heap.size<=p.1)):=
 WR G D C B f k d b j H (by unfold maxLen;omega) (by
  have:(n+m)*a<=1000000000*100000:=Nat.mul_le_mul g l
  omega)
theorem AY{x y:Operand}{t e:TypeId}{v:Value}{R L2:Lc}{size a n m c:Nat}{z xs news:List Value}{h:Addr}(I:gd ops F o=some true)
  (H:o.op=.call { callee:=.builtin .append,args:=#[x,y],argTypes:=#[t,t] }) (G:ev F x=some v) (D:ev F y=some (.slice (some h) m c)) [T:Und P t (.slice e)] [V:Lay P e size a z]
  (f:Own v R e size n xs) [U:Pick R L L2] (s:news.length=m*size) (d:∀i v,news[i]? =some v->CJ M L h.block (h.off+i) v) (b:h.spot=none) (l:Nat.blt 0 size=true) (J:∀u∈news,u.oneCell'=true) (g:n+m<=1000000000) (w:a<=100000):
  HF P ops N F E M L o (λk B C=>M=B/\∃j,C=j++L2/\Own k j e size (n+m) (xs++news)/\(k=.slice none 0 0↔v=.slice none 0 0/\m=0)):=
 HF.imp (WU I H G D f s d b l J g w) λk B C ⟨S,j,Q,O,K,_⟩=>⟨S,j,Q,O,K⟩
theorem L7{x y:Operand}{t e:TypeId}{v:Value}{R:Lc}{size b n c:Nat}{z xs:List Value}{j:Option Addr}(K:gd ops F o=some true)
  (s:o.op=.call { callee:=.builtin .append,args:=#[x,y],argTypes:=#[t,t] }) (l:ev F x=some v) (k:ev F y=some (.slice j 0 c)) [m:Und P t (.slice e)] [H:Lay P e size b z]
  (d:Own v R e size n xs):HF P ops N F E M L o (λB T U=>M=T/\U=L/\B=v):=CP K λa w i G=>by
 obtain⟨C,V,u,J,I,W,D⟩:=H.info
 refine⟨v,w,M,L,.inl ?_,G,rfl,rfl,rfl⟩
 have f:∀w:World,(Builtin.firstCells C.size 0 (.slice j 0 c)).run P w=.ok #[] w:=λw=>by
  cases j<;>simp[Builtin.firstCells,loadCells,loadCellsFrom]
 rcases d.2 with⟨rfl,rfl,_⟩|⟨g,S,Q,rfl,rfl,O,Z,Y,X⟩
 ·simp [execOp,s,resolve,invoke,builtin,i.ev l,i.ev k,Builtin.append_,run_underlying m.h,sizeOf,typeInfo,u,Builtin.lenOf,f]
 simp[execOp,s,resolve,invoke,builtin,i.ev l,i.ev k,Builtin.append_,run_underlying m.h,sizeOf,typeInfo,u,Builtin.lenOf,f,O,storeCells]
def Dn(P:Program)(f:FuncId):Bool:=match P.funcs[f]? with
 | some fn => !(fn.name == "runtime.NumGoroutine") && fn.body.isSome
 |none=>false
theorem Hb{f:FuncId}(h:Dn P f=true)(args:Array Value)(w:World):(callFunc f args).run P w=.ok (.enter f args) w:=by
 unfold Dn at h;split at h
 ·rename_i a c;simp only[Bool.and_eq_true,Bool.not_eq_true']at h;have b : a.name ≠ "runtime.NumGoroutine" := by grind
  have d:a.body≠none:=λe=>by simp[e]at h
  simp[callFunc,c,b,d]
 grind
theorem KI{x:Operand}{xs:List Operand}{T:Array TypeId}{f:FuncId}{first b vs d:List Value}{a:Act}(i:o.op=.call { callee:=.value x,args:=xs.toArray,argTypes:=T })(e:Has N F a)(g:ev F x=some (.func (.func f) first.toArray b.toArray))(h:evs F xs=some vs)
  (c:first++vs++b=d) (hgo:Dn P f=true) (w:World):(execOp a.eval o).run P w=.ok (.enter f d.toArray) w:=by
 have k:=e.evs h;have j:xs.toArray.map a.eval=vs.toArray:=by grind
 subst c;simp[execOp,i,resolve,j,e.ev g,Deferred.ofValue,invoke,Hb hgo]
theorem St.into{R L2:Lc}{w:World}(a:St E M (R++L2) w):St ⟨w,R.map (·.1),M⟩ M R w:=
 {os:=rfl,tape:=rfl,output:=rfl,size:=Nat.le_refl _,same:=λ_ _ _=>rfl,fresh:=λ_ _=>rfl,agree:=a.agree
  locs:=λp b=>⟨(a.locs p (by simp[b])).1,.inr (List.mem_map.2 ⟨p,b,rfl⟩),(a.locs p (by simp[b])).2.2⟩
  nodup:=by have:=a.nodup;rw[List.map_append]at this;exact(List.nodup_append.1 this).1 }
theorem St.back{R L2 u:Lc}{w w':World}{M':Mem}(c:St E M (R++L2) w)(h:St ⟨w,R.map (·.1),M⟩ M' u w'):St E M' (u++L2) w'/\MLe M M':=by
  have e:=c.nodup;rw[List.map_append]at e;have z:∀k∈R.map (·.1),E.W.heap.size<=k\/k∈E.X:=λk f=>by
   obtain⟨p,d,rfl⟩:=List.mem_map.1 f;exact(c.locs p (by simp[d])).2.1
  have l:∀p∈L2,p.1<w.heap.size/\p.1∉R.map (·.1):=λp d=>
   ⟨Bw (c.locs p (by simp[d])).1,λn=>(List.nodup_append.1 e).2.2 p.1 n p.1 (List.mem_map.2 ⟨p,d,rfl⟩) rfl⟩
  have j:∀p∈u,w.heap.size<=p.1\/p.1∈R.map (·.1):=λp d=>(h.locs p d).2.1;refine⟨?_,λb B m=>?_⟩
  ·exact
    {os:=h.os.trans c.os,tape:=h.tape.trans c.tape,output:=h.output.trans c.output,size:=Nat.le_trans c.size h.size
     same:=λk f y=>(h.same k (Nat.lt_of_lt_of_le f c.size) (λn=>(z k n).elim (λh=>by omega) y)).trans (c.same k f y)
     fresh:=λk f=>(h.fresh k (Nat.lt_of_lt_of_le f c.size)).trans (c.fresh k f)
     agree:=h.agree
     locs:=λp d=>by
      rcases List.mem_append.1 d with d|d
      ·refine ⟨(h.locs p d).1,?_,(h.locs p d).2.2⟩
       rcases j p d with i|i
       ·exact .inl (Nat.le_trans c.size i)
       exact z _ i
      obtain⟨i,s⟩:=l p d
      have g:=c.locs p (by simp[d])
      exact⟨by rw[h.same p.1 i s];exact g.1,g.2.1,by rw[h.fresh p.1 i];exact g.2.2⟩
     nodup:=by
      rw[List.map_append]
      refine List.nodup_append.2 ⟨h.nodup,(List.nodup_append.1 e).2.1,λa D b m o=>?_⟩
      obtain⟨p,d,rfl⟩:=List.mem_map.1 D
      obtain⟨q,C,rfl⟩:=List.mem_map.1 m
      obtain⟨i,s⟩:=l q C
      rcases j p d with g|g
      ·omega
      rw[o]at g;exact s g }
  rw[h.fresh b (Bw (c.agree b B m))];exact m
theorem Gu{x:Operand}{xs:List Operand}{T:Array TypeId}{f:FuncId}{first b vs k:List Value}{R L2:Lc}{post:Value->Mem->Lc->Prop}(D:gd ops F o=some true)
  (n:o.op=.call { callee:=.value x,args:=xs.toArray,argTypes:=T }) (y:ev F x=some (.func (.func f) first.toArray b.toArray)) (B:evs F xs=some vs) (j:first++vs++b=k) (hgo:Dn P f=true)
  (hs:SpecL P f k.toArray M R post) [m:Pick R L L2]:HF P ops N F E M L o (λv l I=>MLe M l/\∃i,I=i++L2/\post v l i/\∀p∈i,p.1∈R.map (·.1)\/E.W.heap.size<=p.1):=λa w u z=>
 ⟨Fq u D,λQ=>by
  have d:=z.perm m.perm
  refine⟨λ_ _=>trivial,?_⟩
  rw[Oper.semAt_eq _ _ _ (λc s=>by rw[n]at s;cases s),KI n u y B j hgo w]
  refine⟨Fy _ _,RL _ _ ((hs w d.into).mono λe J C=>?_)⟩
  obtain⟨v,l,i,rfl,g,h⟩:=C
  obtain⟨H,G⟩:=d.back h
  exact⟨v,l,i++L2,rfl,H,G,i,rfl,g,λp m=>(h.locs p m).2.1.symm.imp id (Nat.le_trans d.size)⟩⟩
theorem BV{x:Operand}{xs:List Operand}{T:Array TypeId}{f:FuncId}{first a vs c:List Value}{R L2:Lc}{post:Value->Mem->Lc->Prop}(k:gd ops F o=some true)
  (j:o.op=.call { callee:=.value x,args:=xs.toArray,argTypes:=T }) (h:ev F x=some (.func (.func f) first.toArray a.toArray)) (i:evs F xs=some vs) (b:first++vs++a=c) (hgo:Dn P f=true)
  (hs:SpecL P f c.toArray M R post) [s:Pick R L L2]:HF P ops N F E M L o (λv e g=>MLe M e/\∃d,g=d++L2/\post v e d):=
 HF.imp (Gu k j h i b hgo hs) λv e g ⟨n,d,m,l,_⟩=>⟨n,d,m,l⟩
theorem CZ{x:Operand}{xs:List Operand}{T:Array TypeId}{f:FuncId}{first b vs d:List Value}{v:Value}(B:gd ops F o=some true)
  (s:o.op=.call { callee:=.value x,args:=xs.toArray,argTypes:=T }) (j:ev F x=some (.func (.func f) first.toArray b.toArray)) (m:evs F xs=some vs) (c:first++vs++b=d) (hgo:Dn P f=true)
  (hs:SpecL P f d.toArray M [] (λu _ _=>u=v)):QF P ops N F M L o v:=λa i=>
 .inl ⟨Fq i B,λw l=>by
  have g:St ⟨w,([]:Lc).map (·.1),M⟩ M [] w:=
   {os:=rfl,tape:=rfl,output:=rfl,size:=Nat.le_refl _,same:=λ_ _ _=>rfl,fresh:=λ_ _=>rfl,agree:=l.agree
    locs:=λp n=>by cases n
    nodup:=by simp }
  rw[KI s i j m c hgo w]
  refine⟨Below.refl _ _,(hs w g).mono λe C z=>?_⟩
  obtain⟨u,E,D,rfl,rfl,h⟩:=z
  exact⟨rfl,⟨h.os,h.tape,h.output,h.size,λk y=>h.same k y (by simp)⟩⟩⟩
end
inductive Bd (F:Fr):Option Operand->Nat->Nat->Prop
 |no (d:Nat):Bd F none d d
 |of {y:Operand} {k:IntKind} {i:Int} {d v:Nat} (h:ev F y=some (.int k i)) (h0:0<=i) (hv:i.toNat=v):Bd F (some y) d v
def HE(a:Option Addr)(l m s:Nat):Option Addr:=if m=l then a else a.map (·.add (l*s))
variable{b m:Nat}
theorem AH{off l s:Nat}(h:l<m):HE (some ⟨b,off,none⟩) l m s=some ⟨b,off+l*s,none⟩:=by
 have:m≠l:=by omega
 have a:∀j,(⟨b,off,none⟩:Addr).add j=⟨b,off+j,none⟩:=λj=>by unfold Addr.add;split<;>simp_all
 grind[HE]
variable{a:Option Addr}
theorem AU{s:Nat}:HE a 0 m s=a:=by
 unfold HE;split
 ·rfl
 cases a<;>simp[Addr.add]
section
variable{P:Program}{ops:Array Oper}{N:Fs}{F:Fr}{E:Ent}{M:Mem}{L:Lc}{o:Oper}
theorem Dr{y:Value}{k:IntKind}{i:Int}{v d:Nat}{a:BoundsCode}(b:y=.int k i)(f:0<=i)(c:i.toNat=v)(e:v<=d)(w:World):(Instr.sliceBound y d a).run P w=.ok v w:=by
 subst b c;have:0<=i/\i<=d:=⟨f,by omega⟩;simp[Instr.sliceBound,asIntOf,this]
theorem P4{a:Act}(c:Has N F a){isS:Bool}{len e l h m:Nat}{B z s:Option Operand}(H:Bd F s e m)(C:Bd F z len h)(y:Bd F B 0 l)(d:l<=h)(b:h<=m)(f:m<=e)(u:s=none\/z≠none)(w:World):
  (Instr.sliceBounds isS len e (B.map a.eval) (z.map a.eval) (s.map a.eval)).run P w=.ok (l,h,m) w:=by
 unfold Instr.sliceBounds;cases H with
 |no=>
  cases C with
  |no=>cases y with
   |no=>simp
   |of o n k=>simp[Dr (P:=P) (c.ev o) n k d]
  |of j i g=>cases y with
   |no=>simp[Dr (P:=P) (c.ev j) i g b]
   |of o n k=>simp[Dr (P:=P) (c.ev o) n k d,Dr (P:=P) (c.ev j) i g b]
 |of G E D=>
  cases C with
  |no=>simp at u
  |of j i g=>cases y with
   |no=>simp[Dr (P:=P) (c.ev j) i g b,Dr (P:=P) (c.ev G) E D f]
   |of o n k=>simp[Dr (P:=P) (c.ev o) n k d,Dr (P:=P) (c.ev j) i g b,Dr (P:=P) (c.ev G) E D f]
theorem CL{x:Operand}{t e:TypeId}{u k f:Option Operand}{a:Option Addr}{len c l h m s n:Nat}{z:List Value}(H:gd ops F o=some true)(C:o.op=.slice t x u k f)(y:ev F x=some (.slice a len c))[B:Und P t (.slice e)][hs:Lay P e s n z]
  (D:Bd F f c m) (G:Bd F k len h) (E:Bd F u 0 l) (b:l<=h/\h<=m/\m<=c) (g:f=none\/k≠none):QF P ops N F M L o (.slice (HE a l m s) (h-l) (m-l)):=Bv H λK d w _=>by
 obtain⟨J,v,j,i,_⟩:=hs.info
 have I:=P4 (P:=P) d (isS:=true) D G E b.1 b.2.1 b.2.2 g w
 simp only[execOp,C,Instr.sliceAt,Sem.run_bind,run_underlying B.h,Result.andThen_ok,Instr.slice,d.ev y,I,sizeOf,typeInfo,run_program,j,Sem.run_pure,i,HE]
theorem wYp{x:Operand}{t e:TypeId}{u k f:Option Operand}{b off n l h m d s:Nat}{z:List Value}(H:gd ops F o=some true)(C:o.op=.slice t x u k f)(y:ev F x=some (.pointer (some ⟨b,off,none⟩)))[B:Und P t (.array n e)][hs:Lay P e d s z]
  (D:Bd F f n m) (G:Bd F k n h) (E:Bd F u 0 l) (a:l<=h/\h<=m/\m<=n) (g:f=none\/k≠none):QF P ops N F M L o (.slice (HE (some ⟨b,off,none⟩) l m d) (h-l) (m-l)):=Bv H λK c w _=>by
 obtain⟨J,v,j,i,_⟩:=hs.info
 have I:=P4 (P:=P) c (isS:=false) D G E a.1 a.2.1 a.2.2 g w
 have e:HE (some ⟨b,off,none⟩) l m d=some (if m=l then (⟨b,off,none⟩:Addr)else (⟨b,off,none⟩:Addr).add (l*d)):=by unfold HE;split<;>rfl
 simp only[execOp,C,Instr.sliceAt,Sem.run_bind,run_underlying B.h,Result.andThen_ok,Instr.sureAddr,c.ev y,I,sizeOf,typeInfo,run_program,j,Sem.run_pure,i,e]
def Gl(place:Nat->Option (Nat×Nat)):List Value->List (Nat×Value)->Option (List Value)
 |cs,[]=>some cs
 |cs,(i,v)::rest=>match place i with
  |some (off,size)=>bif Nat.beq v.cells.toList.length size&&Nat.ble (off+size) cs.length then Gl place (cs.take off++v.cells.toList++cs.drop (off+size)) rest else none
  |none=>none
theorem Tq(off:Nat):∀(vs:List Value)(j:Nat)(cs:List Value),off+j+vs.length<=cs.length->
  ((vs.zipIdx j).foldl (λ(a:Array Value)(p:Value×Nat)=>a.setIfInBounds (off+p.2) p.1) cs.toArray)=(cs.take (off+j)++vs++cs.drop (off+j+vs.length)).toArray
 |[],j,cs,h=>by simp
 |v::vs,j,cs,h=>by
  simp only[List.zipIdx_cons,List.foldl_cons,List.setIfInBounds_toArray];simp only[List.length_cons]at h;rw[Tq off vs (j+1) (cs.set (off+j) v) (by simp;omega)];have b:off+j<cs.length:=by omega
  have d:(cs.set (off+j) v).take (off+(j+1))=cs.take (off+j)++[v]:=by
   rw[<-Nat.add_assoc,List.take_succ_eq_append_getElem (by simpa using b),List.take_set_of_le (Nat.le_refl _)];simp
  have c:(cs.set (off+j) v).drop (off+(j+1)+vs.length)=cs.drop (off+j+(vs.length+1)):=by
   rw[List.drop_set_of_lt (by omega)];congr 1;omega
  rw[d,c];simp
theorem MB(place:Nat->Option (Nat×Nat)):∀(ps:List (Nat×Value))(cs r:List Value),Gl place cs ps=some r->Instr.fill place cs.toArray ps=some r.toArray
 |[],cs,r,h=>by simp[Gl]at h;simp[Instr.fill,h]
 |(i,v)::ps,cs,r,h=>by
  unfold Gl at h;unfold Instr.fill;cases d:place i with
  |none=>simp[d]at h
  |some g=>
   obtain⟨off,size⟩:=g
   simp only[d]at h⊢
   cases b:(Nat.beq v.cells.toList.length size&&Nat.ble (off+size) cs.length)with
   |false=>rw[b]at h;cases h
   |true=>
    rw[b]at h
    simp only[cond_true]at h
    simp only[Bool.and_eq_true,Nat.ble_eq]at b
    have c:v.cells.size=size:=by rw[<-Array.length_toList];exact Nat.eq_of_beq_eq_true b.1
    have k:¬(v.cells.size≠size||decide (off+v.cells.size>cs.toArray.size))=true:=by simp[c];omega
    have f:=Tq off v.cells.toList 0 cs (by simp[c];omega)
    rw[if_neg (by simpa using k)]
    simp only[Nat.add_zero,Array.length_toList,c]at f
    have j:v.cells.zipIdx.foldl (λ(a:Array Value)(p:Value×Nat)=>a.setIfInBounds (off+p.2) p.1) cs.toArray=(cs.take off++v.cells.toList++cs.drop (off+size)).toArray:=by
     rw[<-f,<-Array.foldl_toList];simp
    have e:=MB place ps _ r h
    rw[<-j]at e
    exact e
end
class Plc(P:Program)(t:TypeId)(pl:outParam (List (Nat×Nat))):Prop where
 h:(match P.underlying t with|some (.struct fs)=>fs.toList.mapM (λf=>(P.info? f.type).map λi=>(f.offset,i.size))|_=>none)=some pl:=by kernel_rfl
def evp(F:Fr):List (Nat×Operand)->Option (List (Nat×Value))
 |[]=>some []
 |(i,x)::ps=>match ev F x,evp F ps with
  |some v,some vs=>some ((i,v)::vs)
  |_,_=>none
variable{F:Fr}{N:Fs}
theorem Has.evp{a:Act}(h:Has N F a):∀{ps:List (Nat×Operand)}{vs:List (Nat×Value)},evp F ps=some vs->ps.map (λ(i,x)=>(i,a.eval x))=vs
 |[],vs,b=>by simpa [Go.Proofs.YtjheijhahehnmaaGreatDoor.evp]using b
 |(i,x)::ps,vs,b=>by
  unfold Go.Proofs.YtjheijhahehnmaaGreatDoor.evp at b;split at b
  ·rename_i v e d c;cases b;simp[h.ev d,h.evp c]
  grind
section
variable{P:Program}{ops:Array Oper}{N:Fs}{F:Fr}{E:Ent}{M:Mem}{L:Lc}{o:Oper}
theorem BF{t:TypeId}{ps:List (Nat×Operand)}{vs:List (Nat×Value)}{f e:Nat}{z cs:List Value}{c:List (Nat×Nat)}(u:gd ops F o=some true)(m:o.op=.build t ps.toArray)(j:evp F ps=some vs)[n:Lay P t f e z][l:Plc P t c]
  (y:Gl (c[·]?) z vs=some cs):QF P ops N F M L o (.agg cs.toArray):=Bv u λa B w _=>by
 obtain⟨J,I,s,_,_,g,d⟩:=n.info
 have b:=l.h
 split at b
 ·rename_i K k
  have H:P.built t vs=some cs.toArray:=by
   have G:(λi:Nat=>c.toArray[i]?)=(λi:Nat=>c[i]?):=by funext i;simp
   simp only[Program.built,s,k,g,b,G,d];exact MB _ _ _ _ y
  have E:=B.evp j
  have D:((ps.toArray).map λx=>(x.1,a.eval x.2)).toList=vs:=by rw[<-E];simp
  have C:=run_build (P:=P) w t ((ps.toArray).map λx=>(x.1,a.eval x.2)) cs.toArray (by rw[D];exact H)
  simp only[execOp,m,Sem.run_bind,C,Result.andThen_ok,Sem.run_pure]
 cases b
theorem Ab{t e:TypeId}{n:Nat}{ps:List (Nat×Operand)}{vs:List (Nat×Value)}{c C:Nat}{z cs:List Value}(U:gd ops F o=some true)(G:o.op=.buildSlice t n ps.toArray)(R:evp F ps=some vs)[D:Und P t (.slice e)][I:Lay P e c C z]
  (V:Gl (λi=>some (i*c,c)) (List.replicate n z).flatten vs=some cs) (d:Nat.ble (n*c) 16777216=true) (g:Nat.blt 0 c=true):
  HF P ops N F E M L o (λv Z L'=>∃b,v=.slice (some ⟨b,0,none⟩) n n/\M=Z/\L'=(b,.cells cs.toArray e (0,0))::L):=CP U λa w W Q=>by
 have f:=I.len
 obtain⟨ti,zv,y,k,_,O,m⟩:=I.info
 refine⟨_,_,M,_,.inl ?_,Q.alloc (.cells cs.toArray e (0,0)),_,rfl,rfl,rfl⟩
 have J:=W.evp R
 have X:((ps.toArray).map λx=>(x.1,a.eval x.2)).toList=vs:=by rw[<-J];simp
 have S:¬(16777216<n*c):=by simpa [Nat.ble_eq]using d
 have h0:0<c:=by simpa [Nat.blt_eq]using g
 have l:(Array.range (n*c)).map (λi=>z.toArray[i%z.toArray.size]!)=((List.replicate n z).flatten).toArray:=by
  have T:∀n,(List.range (n*c)).map (λi=>z[i%c]!)=(List.replicate n z).flatten:=by
   intro n;induction n with
   |zero=>simp
   |succ n K=>
    rw[Nat.succ_mul,List.range_add,List.map_append,K,List.replicate_succ',List.flatten_append]
    congr 1
    rw[List.map_map]
    apply List.ext_getElem
    ·simp [f]
    intro i Y h2
    have j:i<c:=by simpa using Y
    have:(n*c+i)%c=i:=by rw[Nat.mul_comm,Nat.mul_add_mod,Nat.mod_eq_of_lt j]
    simp[this,f,j]
  apply Array.ext';simp only[Array.toList_map,Array.toList_range];rw[<-T n];apply List.map_congr_left;intro i y;simp[f]
 have B:=MB (λi=>some (i*c,c)) vs _ _ V
 by_cases H:n*c=0
 ·have u:n=0:=by rcases Nat.mul_eq_zero.1 H with h|h<;>omega
  subst u;simp only[List.replicate_zero,List.flatten_nil]at B;simp[execOp,G,Instr.buildSlice,run_underlying D.h,sizeOf,typeInfo,y,k,J,B,newRow,Array.range_zero']
 have s:¬(n*c>2 ^ 24):=S
 simp only[execOp,G,Instr.buildSlice,Sem.run_bind,run_underlying D.h,Result.andThen_ok,sizeOf,typeInfo,run_program,y,Sem.run_pure,k,if_neg s,if_neg H,zeroValue,O,m,X,l,B]
 simp[newRow]
theorem WQ{x y:Operand}{t u e:TypeId}{b off dn dc:Nat}{g:Option Addr}{f m:Nat}{l cs:List Value}{i:TypeId}{L':Lc}{G:Nat}{z:List Value}(Z:gd ops F o=some true)
  (W:o.op=.call { callee:=.builtin .copy,args:=#[x,y],argTypes:=#[t,u] }) (R:ev F x=some (.slice (some ⟨b,off,none⟩) dn dc)) (Q:ev F y=some (.slice g f m)) [T:Und P t (.slice e)] [Y:Lay P e 1 G z]
  (X:cs.length=min f dn) (D:SJ M L g cs) (h1:∀v∈cs,v.oneCell'=true) [H:At b (.cells l.toArray i (0,0)) L] (K:off+cs.length<=l.length)
  [V:PutAt b (.cells l.toArray i (0,0)) (.cells (l.take off++cs++l.drop (off+cs.length)).toArray i (0,0)) L L']:
  HF P ops N F E M L o (λv M' I=>v=.int .i64 cs.length/\M=M'/\I=L'):=CP Z λa w O s=>by
 obtain⟨ti,zv,J,c,_⟩:=Y.info
 have hb:=(s.locs _ H.mem).1
 refine⟨.int .i64 cs.length,_,M,L',.inl ?_,s.put V,rfl,rfl,rfl⟩
 have U:(P.info? e).map (·.size)=some 1:=by simp[J,c]
 have B:=run_storeCells_at P b off i cs 0 l.toArray w hb (by simp;omega) h1
 have C:(Builtin.firstCells 1 cs.length (.slice g f m)).run P w=.ok cs.toArray w:=by
  rcases D with rfl|⟨n,k,rfl,hc⟩
  ·cases g<;>simp[Builtin.firstCells,loadCells,loadCellsFrom]
  have d:∀j,(⟨n,k,none⟩:Addr).add j=⟨n,k+j,none⟩:=λj=>by unfold Addr.add;split<;>simp_all
  exact run_firstCells_some (P:=P) w 1 cs.length ⟨n,k,none⟩ f m cs (by simp) (λj v S=>by rw[d];exact(hc j v S).cell s.js)
 simp[execOp,W,resolve,invoke,builtin,O.ev R,O.ev Q,Builtin.copy_,run_underlying T.h,sizeOf,typeInfo,J,c,Builtin.lenOf,<-X,C,B,goInt]
theorem D1{x y:Operand}{t e:TypeId}{k D:IntKind}{n c:Int}{g f:Nat}{z:List Value}(Z:gd ops F o=some true)(W:o.op=.makeSlice t x y)(T:ev F x=some (.int k n))(S:ev F y=some (.int D c))[V:Und P t (.slice e)][H:Lay P e g f z]
  (h:0<=n/\n<=c/\c<=1000000000) (B:Nat.ble f 100000=true):
  HF P ops N F E M L o (λv M' L'=>∃b,v=.slice (some ⟨b,0,none⟩) n.toNat c.toNat/\M=M'/\L'=(b,.cells ((List.replicate c.toNat z).flatten).toArray e (0,0))::L):=CP Z λa w J U=>by
 have d:=H.len
 obtain⟨l,C,I,u,s,R,m⟩:=H.info
 refine⟨_,_,M,_,.inl ?_,U.alloc (.cells ((List.replicate c.toNat z).flatten).toArray e (0,0)),_,rfl,rfl,rfl⟩
 have hb:(l.bytes:Int)*c<=281474976710656:=by
  rw[s];have K:f<=100000:=by simpa [Nat.ble_eq]using B
  have h2:(f:Int)*c<=100000*c:=Int.mul_le_mul_of_nonneg_right (by omega) (by omega);omega
 have G:=run_make (P:=P) w t e l C V.h I R k D n c h.1 h.2.1 hb (by omega)
 have X:madeCells C.cells (c.toNat*l.size)=((List.replicate c.toNat z).flatten).toArray:=by
  rw[m,u];rcases Nat.eq_zero_or_pos g with O|O
  ·subst O;have:z=[]:=List.eq_nil_of_length_eq_zero d;subst this;simp[madeCells]
  have Y:∀n,(List.range (n*g)).map (λi=>z[i%g]!)=(List.replicate n z).flatten:=by
   intro n;induction n with
   |zero=>simp
   |succ n Q=>
    rw[Nat.succ_mul,List.range_add,List.map_append,Q,List.replicate_succ',List.flatten_append]
    congr 1
    rw[List.map_map]
    apply List.ext_getElem
    ·simp [d]
    intro i K h2
    have j:i<g:=by simpa using K
    have:(n*g+i)%g=i:=by rw[Nat.mul_comm,Nat.mul_add_mod,Nat.mod_eq_of_lt j]
    simp[this,d,j]
  apply Array.ext';rw[<-Y];simp only[madeCells,Array.toList_map,Array.toList_range];apply List.map_congr_left;intro i I;simp[d]
 rw[X]at G
 simp[execOp,W,J.ev T,J.ev S,G]
theorem Qd{x:Operand}{s d e:TypeId}{g:Option Addr}{n c:Nat}{xs:List Int}(G:gd ops F o=some true)(l:o.op=.convert s d x)(j:ev F x=some (.slice g n c))[hs:Und P s (.slice e)][u:Und P e (.int .u8)][y:Und P d .string]
  (B:xs.length=n) (C:SJ M L g (xs.map (Value.int .u8))):QF P ops N F M L o (.string (strOfNums xs)):=Bv G λa z w E=>by
 cases g with
 |none=>
  have:xs=[]:=by
   rcases C with h|⟨b,off,h,_⟩
   ·simpa using h
   cases h
  subst this
  have k:=run_convert_bytes_nil (P:=P) w s e hs.h u.h n c d y.h
  simp[execOp,l,z.ev j,k,strOfNums,ByteArray.empty,ByteArray.emptyWithCapacity];rfl
 |some D=>
  rcases C with h|⟨b,off,h,f⟩
  ·have:xs=[]:=by simpa using h
   subst this
   subst B
   have:(convert s d (.slice (some D) 0 c)).run P w=.ok (.string (strOfNums [])) w:=by
    obtain⟨b,off,H⟩:=D
    simp[convert,run_underlying hs.h,run_underlying y.h,run_underlying u.h,Conv.bytesToString,loadCells,loadCellsFrom,strOfNums,ByteArray.empty,ByteArray.emptyWithCapacity];rfl
   simp[execOp,l,z.ev j,this]
  cases h
  have k:=run_convert_bytes_arg (P:=P) w s e hs.h u.h b off n c xs B (λi I=>(f i _ (by
   have m:i<xs.length:=by omega
   simp[List.getD_eq_getElem?_getD,m])).cell E) d y.h
  simp[execOp,l,z.ev j,k]
end
end Go.Proofs.YtjheijhahehnmaaGreatDoor
