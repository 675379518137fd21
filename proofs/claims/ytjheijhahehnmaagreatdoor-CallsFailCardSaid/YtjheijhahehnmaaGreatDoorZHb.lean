/- THE WALKING LAYER, second part: memory that is never written again and blocks of one's own; regions, code, calls. No statement of the seat is proved here. -/
import Derived.Test.YtjheijhahehnmaaGreatDoorProg
import Derived.WalkKit
import Derived.OrdersHeld
import Derived.Deep.RegionHeld3
import Derived.OrdersIn
import Derived.RangeFuncCalls
import Derived.RangeFuncLeaves
namespace Go.Proofs.YtjheijhahehnmaaGreatDoor
set_option linter.unusedSimpArgs false
set_option linter.unusedVariables false
set_option linter.unusedSectionVars false
set_option maxRecDepth 8000
open Go.RowKit
abbrev Fr:=List (Nat×Value)
def lk(t:Nat):Fr->Option Value
 |[]=>none
 |(s,v)::F=>bif Nat.beq s t then some v else lk t F
def ev(F:Fr):Operand->Option Value
 |.tmp t=>lk t F
 |.const v=>some v
 |.global g=>some (.pointer (some ⟨g,0,none⟩))
 |.func f=>some (.func (.func f) #[] #[])
def evs(F:Fr):List Operand->Option (List Value)
 |[]=>some []
 |x::xs=>match ev F x,evs F xs with
  |some v,some vs=>some (v::vs)
  |_,_=>none
structure Fs where
 n:Nat
 D:List Deferred:=[]
 r:Option Nat:=none
def FF(r:Option Nat):Fence:={ Fence.wide with round:=r }
def Nj(d:Nat):Deferred:={ target:=.collected d,args:=#[] }
instance:Coe Nat Deferred:=⟨Nj⟩
structure Has(N:Fs)(F:Fr)(a:Act):Prop where
 size:a.tmps.size=N.n
 defers:a.defers=N.D
 get:∀t v,lk t F=some v->a.tmps[t]? =some v
variable{F:Fr}{N:Fs}{a:Act}
theorem Has.ev(h:Has N F a){x:Operand}{v:Value}(b:ev F x=some v):a.eval x=v:=by
 cases x with
 |tmp t=>simp only[Act.eval];have:=h.get t v b;simp[Array.getD_eq_getD_getElem?,this]
 |const u=>simpa [Go.Proofs.YtjheijhahehnmaaGreatDoor.ev,Act.eval]using b
 |global g=>simpa [Go.Proofs.YtjheijhahehnmaaGreatDoor.ev,Act.eval]using b
 |func f=>simpa [Go.Proofs.YtjheijhahehnmaaGreatDoor.ev,Act.eval]using b
theorem Has.evs(h:Has N F a):∀{xs:List Operand}{vs:List Value},evs F xs=some vs->xs.map a.eval=vs
 |[],vs,b=>by simpa [Go.Proofs.YtjheijhahehnmaaGreatDoor.evs]using b
 |x::xs,vs,b=>by
  unfold Go.Proofs.YtjheijhahehnmaaGreatDoor.evs at b;split at b
  ·rename_i v e d c;cases b;simp[h.ev d,h.evs c]
  grind
variable{d:Nat}
theorem Has.put(h:Has N F a)(f:d<N.n)(v:Value):Has N ((d,v)::F) (a.put (some d) v):=by
 refine⟨by simp[Act.put,h.size],h.defers,λt u b=>?_⟩;unfold lk at b;simp only[Act.put];by_cases c:d=t
 ·subst c;simp at b;subst b;simp[h.size,f]
 have e:Nat.beq d t=false:=by
  cases e:Nat.beq d t
  ·rfl
  simp_all
 rw[e]at b;simp only[cond_false]at b;rw[Array.getElem?_setIfInBounds_ne c];exact h.get t u b
structure Keep(F F':Fr):Prop where
 sub:∀t v,lk t F'=some v->lk t F=some v
theorem Keep.nil:Keep F []:=⟨λ_ _ h=>by cases h⟩
variable{F':Fr}
theorem Keep.cons{t:Nat}{v:Value}(h:lk t F=some v)(k:Keep F F'):Keep F ((t,v)::F'):=⟨λs u a=>by
 unfold lk at a
 cases b:Nat.beq t s
 ·rw [b]at a;exact k.sub s u a
 rw[b]at a;cases a;rw[<-Nat.eq_of_beq_eq_true b];exact h⟩
theorem Keep.ceq{t:Nat}{u v:Value}(h:lk t F=some u)(e:u=v)(k:Keep F F'):Keep F ((t,v)::F'):=Keep.cons (by rw[h,e]) k
theorem Has.keep(h:Has N F a)(k:Keep F F'):Has N F' a:=⟨h.size,h.defers,λt v b=>h.get t v (k.sub t v b)⟩
abbrev Pe:=World->Prop
def NF(C:Pe):Prop:=∀w w',C w->Below w.heap.size w w'->C w'
def growUpon(P:Program)(w:World)(v:Value):Result Next->Prop
 |.ok (.value u) w'=>u=v/\Below w.heap.size w w'
 |.ok .skip w'=>v=undef/\Below w.heap.size w w'
 |.ok (.enter f args) w'=>Below w.heap.size w w'/\Calls P f args w' (λe w''=>e=.returned v/\Below w.heap.size w w'')
 |_=>False
def QY(P:Program)(ops:Array Oper)(C:Pe)(o:Oper)(v:Value)(a:Act):Prop:=
 (Region.wanted o (yielded ops a.tmps)=true/\∀w,C w->growUpon P w v ((execOp a.eval o).run P w))\/
 (Region.wanted o (yielded ops a.tmps)=false/\v=undef)
section
variable{P:Program}{ops:Array Oper}{Q:Exit->Act->World->Prop}{md:Region.Mode}
theorem growUpon.plain{o:Oper}{a:Operand->Value}{w:World}{v:Value}(h:growUpon P w v ((execOp a o).run P w)):∀c,o.op≠.defer c:=by
 intro c e;simp only[execOp,e,Sem.run_bind]at h;generalize (resolve a c o.type).run P w=r at h;cases r with
 |ok d b=>simp_all [growUpon]
 |halt x b=>simp_all [growUpon]
theorem Fy(r:Option Nat)(n:Nat):(FF r).depth.isSome=true->1<=n:=λh=>by simp[FF,Fence.wide]at h
theorem RL{f:FuncId}{args:Array Value}{w:World}{R:Ending->World->Prop}(r:Option Nat)(n:Nat)(h:Calls P f args w R):CallsIn (FF r) n P f args w R:=(callsIn_wide (n:=n)).2 h
theorem growUpon.wp{r:Option Nat}{o:Oper}{a:Act}{w:World}{v:Value}{K:Act->World->Prop}(h:growUpon P w v ((execOp a.eval o).run P w))
  (c:∀w',Below w.heap.size w w'->K (a.put o.dst v) w'):o.wpIn (FF r) 0 P a w K Q:=by
 refine⟨λ_ _=>trivial,?_⟩;rw[Oper.semAt_eq _ _ _ h.plain];generalize (execOp a.eval o).run P w=r at *;cases r with
 |ok n w'=>
  cases n<;>simp only[growUpon]at h<;>simp only[Oper.uponIn]
  case value u=>obtain⟨rfl,b⟩:=h;exact c _ b
  case skip=>obtain⟨rfl,b⟩:=h;exact c _ b
  case enter f args=>exact⟨Fy _ _,RL _ _ (h.2.mono λe d ⟨g,b⟩=>by subst g;exact c _ b)⟩
 |halt x w'=>grind[growUpon]
theorem QY.wpOp{r:Option Nat}{C:Pe}{i:Nat}{o:Oper}{v:Value}{a:Act}(f:ops[i]? =some o)(d:QY P ops C o v a){w:World}(hC:C w){K:Act->World->Prop}
  (c:∀w',Below w.heap.size w w'->K (a.put o.dst v) w'):Go.wpOpIn (FF r) 0 P ops Q i K a w:=by
 unfold Go.wpOpIn;simp only[f];rcases d with⟨b,e⟩|⟨b,rfl⟩
 ·simp only[b,if_true];exact(e w hC).wp c
 simp only[b,Bool.false_eq_true,if_false];exact⟨λ_ _=>trivial,c _ (Below.refl _ _)⟩
theorem QY.of_same{C:Pe}{o:Oper}{v:Value}{a b:Act}(c:QY P ops C o v a)(e:execOp b.eval o=execOp a.eval o)
  (d:Region.wanted o (yielded ops b.tmps)=Region.wanted o (yielded ops a.tmps)):QY P ops C o v b:=by
 grind[QY]
theorem wCr{r:Option Nat}{j:Nat}{g i:Oper}{v:Value}(L:ops[j]? =some i)(G:g.apart ops i=true)
  (z:∀cs b,g.op≠.select cs b) (E:∀cs b,i.op≠.select cs b) (F:∀c,i.op≠.defer c)
  (I:∀c a w,Q (.panic c) (a.put g.dst v) w->Q (.panic c) a w) {Y:Act->Prop}
  (H:∀a s,Y a->execOp s.eval g=execOp a.eval g->Region.wanted g (yielded ops s.tmps)=Region.wanted g (yielded ops a.tmps)->Y s) {K:Act->World->Prop} {a:Act} {w:World}
  (k:Y a) (h:wpOpIn (FF r) 0 P ops Q j K (a.put g.dst v) w):
  wpOpIn (FF r) 0 P ops Q j (λs C=>Y s/\K (s.put g.dst v) C) a w:=by
 obtain⟨J,o,B⟩:=Oper.apart_spec G;have keep:∀(a:Act),Y a->∀u,Y (a.put i.dst u):=λa k u=>
  H _ _ k (execOp_put g z a i.dst u B) (wanted_put g a i.dst u B)
 unfold wpOpIn at *;simp only[L]at *;rw[wanted_put i a g.dst v J]at h;split
 ·rename_i D;simp only[D,if_true]at h;refine⟨λ_ _=>trivial,?_⟩;have h:=h.2;rw[Oper.semAt_eq _ _ _ F]at h⊢;rw[execOp_put i E a g.dst v J]at h;generalize (execOp a.eval i).run P w=r at *;cases r with
  |ok n C=>
   cases n<;>simp only[Oper.uponIn]at h⊢
   case value u=>exact⟨keep a k u,by rw[<-Act.put_comm a v u o];exact h⟩
   case skip=>exact⟨keep a k _,by rw[<-Act.put_comm a v undef o];exact h⟩
   case defer d=>
    refine⟨H _ _ (H _ _ k rfl rfl:Y { a with defers:=d::a.defers }) (execOp_put g z _ i.dst undef B) (wanted_put g _ i.dst undef B),?_⟩
    rw[<-Act.put_comm _ v undef o,<-Act.put_defers]
    exact h
   case enter f args=>
    refine⟨h.1,CallsIn.mono h.2 λe y m=>?_⟩
    cases e with
    |returned u=>exact⟨keep a k u,by rw[<-Act.put_comm a v u o];exact m⟩
    |panicked c=>exact I _ _ _ m
    |outgrown=>exact m
   case row row args=>exact⟨h.1,RowsIn.mono h.2 λu y m=>⟨keep a k u,by rw[<-Act.put_comm a v u o];exact m⟩⟩
   case round l f tmps assign body=>
    refine⟨h.1,RoundIn.mono h.2 λe y m=>?_⟩
    cases e with
    |returned u=>exact⟨keep a k u,by rw[<-Act.put_comm a v u o];exact m⟩
    |panicked c=>exact I _ _ _ m
    |outgrown=>exact m
  |halt x C=>
   cases x<;>simp only[Oper.uponIn]at h⊢
   grind
 rename_i D;simp only[D]at h;exact⟨λ_ _=>trivial,keep a k _,by rw[<-Act.put_comm a v undef o];exact h.2⟩
def AC(A:Nat->Bool)(r:Option Nat)(P:Program)(md:Region.Mode)(ops:Array Oper)(Q:Exit->Act->World->Prop)(J I:Pe):Nat->Bool->Array Bool->Act->Pe->Prop
 |0,_,listed,a,C=>∀w,C w->Region.ready md ops listed=[]/\Q .normal a w
 |fuel+1,g,listed,a,C=>∀w,C w->(Region.ready md ops listed=[]->Q .normal a w)/\
  ∀i∈Region.ready md ops listed,wpOpIn (FF r) 0 P ops Q i (λa' w'=>∃C':Pe,NF C'/\(∀x,C' x->I x)/\((g&&A i)=true->∀x,C' x->J x)/\C' w'/\AC A r P md ops Q J I fuel (g&&A i) (listed.setIfInBounds i true) a' C') a w
theorem AC.any{A:Nat->Bool}{r:Option Nat}{J I:Pe}:∀(fuel:Nat)(g:Bool)(b:Array Bool)(a:Act)(C:Pe)(w:World),C w->AC A r P md ops Q J I fuel g b a C->wpAnyIn (FF r) 0 P md ops Q fuel b a w
 |0,_,_,_,_,w,c,h=>h w c
 |fuel+1,_,_,_,_,w,c,h=>⟨(h w c).1,λi e=>wpOpIn_mono (λk d ⟨l,_,_,_,j,f⟩=>AC.any fuel _ _ k l d j f) ((h w c).2 i e)⟩
theorem AC.mono{A:Nat->Bool}{r:Option Nat}{J k I l:Pe}(f:∀w,k w->J w)(j:∀w,l w->I w):∀(fuel:Nat)(g:Bool)(b:Array Bool)(a:Act)(C:Pe),AC A r P md ops Q k l fuel g b a C->AC A r P md ops Q J I fuel g b a C
 |0,_,_,_,_,h=>h
 |fuel+1,_,_,_,_,h=>λw e=>⟨(h w e).1,λi n=>wpOpIn_mono (λB D ⟨m,z,y,d,u,s⟩=>⟨m,z,λx c=>j x (y x c),λo x c=>f x (d o x c),u,AC.mono f j fuel _ _ B m s⟩) ((h w e).2 i n)⟩
def JZ(md:Region.Mode)(ops:Array Oper):Nat->Nat->Nat->Bool
 |0,_,_=>false
 |f+1,j,i=>match ops[j]? with
  |some oj=>oj.after.toList.any λe=>Region.binds md e&&(Nat.beq e.on i||JZ md ops f e.on i)
  |none=>false
def Shut(md:Region.Mode)(ops:Array Oper)(listed:Array Bool):Prop:=∀j oj,ops[j]? =some oj->listed.getD j false=true->∀e∈oj.after,Region.binds md e=true->listed.getD e.on false=true
theorem wVh{a:Array Bool}{i:Nat}(h:a.getD i false=true):a.getD i true=true:=by
 grind
theorem Shut.none(n:Nat):Shut md ops (Array.replicate n false):=λj _ _ h=>by
 rcases Nat.lt_or_ge j n with a|a<;>simp[a]at h
theorem Shut.set{a:Array Bool}{i:Nat}(h:Shut md ops a)(n:i∈Region.ready md ops a):Shut md ops (a.setIfInBounds i true):=λj m g f e k l=>by
 refine getD_set_true ?_
 by_cases b:i=j
 ·subst b
  obtain⟨_,o,d,c⟩:=mem_ready.1 n
  rw[g]at d;cases d
  exact c e k l
 rw[getD_set_ne false b]at f
 exact h j m g f e k l
theorem Shut.reach{a:Array Bool}(h:Shut md ops a){i:Nat}:∀(f j:Nat),JZ md ops f j i=true->(∀d,ops[j]? =some d->∀e∈d.after,Region.binds md e=true->a.getD e.on false=true)->a.getD i false=true
 |0,_,b,_=>by cases b
 |f+1,j,b,c=>by
  unfold JZ at b;split at b
  ·rename_i d s;obtain⟨e,u,g⟩:=List.any_eq_true.1 b;rw[Bool.and_eq_true,Bool.or_eq_true]at g;have n:=c d s e (by simpa using u) g.1;rcases g.2 with m|m
   ·rw [<-Nat.eq_of_beq_eq_true m];exact n
   exact h.reach f e.on m λok o w k l=>h e.on ok o n w k l
  grind
theorem AC.first{A:Nat->Bool}{r:Option Nat}{J I:Pe}{i:Nat}{M:Oper}{v:Value}(u:Bool)(hi:ops[i]? =some M)(O:∀(j:Nat)(o:Oper) cs b,ops[j]? =some o->o.op≠.select cs b)(af:∀(j:Nat)(o:Oper) c,ops[j]? =some o->o.op≠.defer c)
  (hQ:∀c a w,Q (.panic c) (a.put M.dst v) w->Q (.panic c) a w) (hA:A i=true)
  (hB:u=true->∀j,j<ops.size->A j=false->JZ md ops ops.size j i=true):
  ∀(l:Nat)(g:Bool)(d:Array Bool)(a:Act)(C:Pe),(u=true->g=true)->((∀j,A j=true)\/Shut md ops d)->
   (∀j L,ops[j]? =some L->j≠i->d.getD j true=false->(∀e∈L.after,Region.binds md e=true->e.on≠i)->M.apart ops L=true)->
   i∈Region.ready md ops d->QY P ops (if u then J else I) M v a->NF C->(∀w,C w->I w)->(g=true->∀w,C w->J w)->
   AC A r P md ops Q J I l g (d.setIfInBounds i true) (a.put M.dst v) C->AC A r P md ops Q J I (l+1) g d a C:=by
 have B:∀(g:Bool)(C:Pe),(u=true->g=true)->(∀w,C w->I w)->(g=true->∀w,C w->J w)->∀w,C w->(if u then J else I) w:=λg C s n m w hw=>by
  cases hu:u with
  |false=>simpa using n w hw
  |true=>simpa using m (s hu) w hw
 intro l;induction l with
 |zero=>
  intro g d a C s _ _ R hy F n m H w hC
  refine⟨λh=>(by rw[h]at R;cases R),λj hj=>?_⟩
  by_cases f:j=i
  ·subst f
   rw[hA,Bool.and_true]
   exact hy.wpOp hi (B g C s n m w hC) λ_ hb=>⟨C,F,n,m,F _ _ hC hb,H⟩
  have:=ready_mono hj f
  rw[(H w hC).1]at this
  cases this
 |succ l ih=>
  intro g d a C s Z E R hy F n m H w hC
  refine⟨λh=>(by rw[h]at R;cases R),λj hj=>?_⟩
  by_cases f:j=i
  ·subst f
   rw[hA,Bool.and_true]
   exact hy.wpOp hi (B g C s n m w hC) λ_ hb=>⟨C,F,n,m,F _ _ hC hb,H⟩
  have G:=(H w hC).2 j (ready_mono hj f)
  obtain⟨S,L,z,U⟩:=mem_ready.1 hj
  have aa:∀e∈L.after,Region.binds md e=true->e.on≠i:=λe he hb ah=>by
   have G:=U e he hb
   have h0:=(mem_ready.1 R).1
   rw[ah]at G
   rcases Nat.lt_or_ge i d.size with h'|h'
   ·simp [h']at h0 G;rw[h0]at G;cases G
   simp[Array.getElem?_eq_none h']at G
  have h2:=wCr z (E j L z f S aa) (λcs b=>O i M cs b hi) (λcs b=>O j L cs b z) (λc=>af j L c z) hQ (Y:=QY P ops (if u then J else I) M v) (λ_ _ y e1 e2=>y.of_same e1 e2) hy G
  have K:∀k ok,ops[k]? =some ok->k≠i->(d.setIfInBounds j true).getD k true=false->
    (∀e∈ok.after,Region.binds md e=true->e.on≠i)->M.apart ops ok=true:=λk ok hk ag W ae=>by
   refine E k ok hk ag ?_ ae
   by_cases ab:j=k
   ·subst ab;exact S
   rw[getD_set_ne true ab]at W;exact W
  refine wpOpIn_mono (λa' w' h3=>?_) h2
  obtain⟨ac,C',T,N,D,ad,ai⟩:=h3
  have X:u=true->(g&&A j)=true:=λhu=>by
   rw[s hu,Bool.true_and]
   cases V:A j with
   |true=>rfl
   |false=>
    have hS:=Z.resolve_left λh=>by rw[h j]at V;cases V
    have G:=wVh (hS.reach ops.size j (hB hu j (Array.getElem?_eq_some_iff.1 z).1 V) λo ho=>by rw[z]at ho;cases ho;exact U)
    rw[(mem_ready.1 R).1]at G;cases G
  refine⟨C',T,N,D,ad,ih _ (d.setIfInBounds j true) a' C' X (Z.imp id λh=>h.set hj) K (ready_mono R (Ne.symm f)) ac T N D ?_⟩
  rw[Array.setIfInBounds_comm _ _ f]
  exact ai
theorem AC.alone{A:Nat->Bool}{r:Option Nat}{J I:Pe}{i:Nat}{c:Nat}{g:Bool}{b:Array Bool}{a:Act}{C:Pe}(e:Region.ready md ops b=[i])
  (h:∀w,C w->wpOpIn (FF r) 0 P ops Q i (λm l=>∃d:Pe,NF d/\(∀x,d x->I x)/\((g&&A i)=true->∀x,d x->J x)/\d l/\AC A r P md ops Q J I c (g&&A i) (b.setIfInBounds i true) m d) a w):AC A r P md ops Q J I (c+1) g b a C:=
 λw hC=>⟨λk=>(by rw[e]at k;cases k),λj f=>(by rw[e]at f;rw[List.mem_singleton.1 f];exact h w hC)⟩
theorem AC.done{A:Nat->Bool}{r:Option Nat}{J I:Pe}{g:Bool}{b:Array Bool}{a:Act}{C:Pe}(d:Region.ready md ops b=[])(h:∀w,C w->Q .normal a w):∀c,AC A r P md ops Q J I c g b a C
 |0=>λw hC=>⟨d,h w hC⟩
 |_+1=>λw hC=>⟨λ_=>h w hC,(by rw[d];intro i e;cases e)⟩
end
def upd(d:Option Nat)(v:Value)(F:Fr):Fr:=match d with|some d=>(d,v)::F|none=>F
def HM(N:Fs)(o:Oper):Bool:=match o.dst with|some d=>Nat.blt d N.n|none=>true
variable{o:Oper}
theorem Has.upd(h:Has N F a)(b:HM N o=true)(v:Value):Has N (upd o.dst v F) (a.put o.dst v):=by
 unfold HM at b;cases c:o.dst with
 |none=>exact h
 |some d=>rw[c]at b;exact h.put (by simpa [Nat.blt_eq]using b) v
structure Ph where
 A:Nat->Bool:=λ_=>true
 U:Nat->Bool:=λ_=>true
def JO(p:Ph)(P:Program)(ops:Array Oper)(N:Fs)(Q:Exit->Act->World->Prop):List (Nat×Bool)->Bool->Fr->Pe->Pe->Pe->Prop
 |[],_,F,_,_,C=>∀a w,Has N F a->C w->Q .normal a w
 |(i,q)::rest,g,F,J,I,C=>∃o,ops[i]? =some o/\HM N o=true/\NF C/\(∀w,C w->I w)/\(g=true->∀w,C w->J w)/\
  match q with
  |true=>p.A i=true/\(p.U i=true->g=true)/\∃v,(∀a,Has N F a->QY P ops (if p.U i then J else I) o v a)/\JO p P ops N Q rest g (upd o.dst v F) J I C
  |false=>(∀a w,Has N F a->C w->Region.wanted o (yielded ops a.tmps)=true/\
    o.wpIn (FF N.r) 0 P a w (λa' w'=>∃v,a'=a.put o.dst v/\∃(J' I' C':Pe),NF C'/\(∀x,C' x->I' x)/\(∀x,I' x->I x)/\((g&&p.A i)=true->∀x,C' x->J' x)/\(∀x,J' x->J x)/\C' w'/\JO p P ops N Q rest (g&&p.A i) (upd o.dst v F) J' I' C') Q)\/
    ((∀a,Has N F a->Region.wanted o (yielded ops a.tmps)=false)/\JO p P ops N Q rest (g&&p.A i) (upd o.dst undef F) J I C)
def Dc(ops:Array Oper):Bool:=ops.all λo=>match o.op with|.defer _=>false|_=>true
variable{ops:Array Oper}
theorem LK(h:Dc ops=true)(j:Nat)(o:Oper)(c:Call)(a:ops[j]? =some o):o.op≠.defer c:=by
 intro b;have:=Array.all_eq_true_iff_forall_mem.1 h o (Array.mem_of_getElem? a);grind
def Nd(p:Ph)(ops:Array Oper):Bool:=(List.range ops.size).all λi=> !p.U i||(List.range ops.size).all λj=>p.A j||JZ .any ops ops.size j i
variable{i:Nat}
theorem Wa{p:Ph}(h:Nd p ops=true)(a:i<ops.size)(d:p.U i=true)(j:Nat)(c:j<ops.size)(b:p.A j=false):JZ .any ops ops.size j i=true:=by
 have e:=List.all_eq_true.1 h i (List.mem_range.2 a);grind
theorem Qk(a:Array Oper):Nd {} a=true:=by simp[Nd]
def Da(ops:Array Oper):List (Nat×Bool)->Array Bool->Bool
 |[],listed=>(Region.ready .any ops listed).isEmpty
 |(i,true)::rest,listed=>(Region.ready .any ops listed).contains i&&Region.free .any ops listed i&&Da ops rest (listed.setIfInBounds i true)
 |(i,false)::rest,listed=>(Region.ready .any ops listed==[i])&&Da ops rest (listed.setIfInBounds i true)
section
variable{P:Program}{ops:Array Oper}{Q:Exit->Act->World->Prop}{N:Fs}
theorem JO.toAC{p:Ph}(hs:(Region.noSelect ops&&Dc ops)=true)(k:Nd p ops=true)(K:∀c d v a w,Q (.panic c) (a.put d v) w->Q (.panic c) a w):∀(l:List (Nat×Bool))(g:Bool)(b:Array Bool)(F:Fr)(J I C:Pe)(a:Act),
  Shut .any ops b->Da ops l b=true->JO p P ops N Q l g F J I C->Has N F a->AC p.A N.r P .any ops Q J I l.length g b a C
 |[],g,b,F,J,I,C,a,_,e,h,m=>AC.done (by simpa [Da]using e) (λw hC=>h a w m hC) 0
 |(i,true)::f,g,b,F,J,I,C,a,j,e,h,m=>by
  obtain⟨o,B,H,u,z,y,D,W,v,n,s⟩:=h;simp only[Da,Bool.and_eq_true]at e;exact AC.first (p.U i) B (Region.noSelect_spec (Bool.and_eq_true _ _▸hs).1) (LK (Bool.and_eq_true _ _▸hs).2) (λc a w=>K c _ _ a w) D (λD=>Wa k (Array.getElem?_eq_some_iff.1 B).1 D)
   f.length g b a C W (.inr j) (Region.free_spec B e.1.2) (by simpa using e.1.1) (n a m) u z y
   (JO.toAC hs k K f _ _ _ J I C _ (j.set (by simpa using e.1.1)) e.2 s (m.upd H v))
 |(i,false)::f,g,b,F,J,I,C,a,j,e,h,m=>by
  obtain⟨o,B,H,u,z,y,n⟩:=h;simp only[Da,Bool.and_eq_true,beq_iff_eq]at e;refine AC.alone e.1 λw hC=>?_;rcases n with n|⟨O,n⟩
  ·obtain ⟨O,M⟩:=n a w m hC;unfold wpOpIn;simp only[B,O,if_true];refine Oper.wpIn_mono (λa' w' T=>?_) M;obtain⟨v,rfl,J',I',S,h1,Z,G,R,E,Y,X⟩:=T;exact⟨S,h1,λx L=>G x (Z x L),λD x L=>E x (R D x L),Y,AC.mono E G _ _ _ _ _ (JO.toAC hs k K f _ _ _ J' I' S _ (j.set (by rw[e.1];simp)) e.2 X (m.upd H v))⟩
  unfold wpOpIn;simp only[B,O a m,Bool.false_eq_true,if_false];exact⟨λ_ _=>trivial,C,u,z,λV=>y (by simpa using (Bool.and_eq_true _ _▸V).1),hC,JO.toAC hs k K f _ _ _ J I C _ (j.set (by rw[e.1];simp)) e.2 n (m.upd H _)⟩
end
abbrev pB(b:Nat):Value:=.pointer (some ⟨b,0,none⟩)
abbrev cE(l:List Value)(t:TypeId):Obj:=.cells l.toArray t (0,0)
abbrev Mem:=Nat->Option Obj
abbrev Lc:=List (Nat×Obj)
structure Ent where
 W:World
 X:List Nat
 M0:Mem
structure St(E:Ent)(M:Mem)(L:Lc)(w:World):Prop where
 os:w.os=E.W.os
 tape:w.tape=E.W.tape
 output:w.output=E.W.output
 size:E.W.heap.size<=w.heap.size
 same:∀k,k<E.W.heap.size->k∉E.X->w.heap[k]? =E.W.heap[k]?
 fresh:∀k,k<E.W.heap.size->M k=E.M0 k
 agree:∀b o,M b=some o->w.heap[b]? =some o
 locs:∀p∈L,w.heap[p.1]? =some p.2/\(E.W.heap.size<=p.1\/p.1∈E.X)/\M p.1=none
 nodup:(L.map (·.1)).Nodup
structure Js(M:Mem)(L:Lc)(w:World):Prop where
 agree:∀b o,M b=some o->w.heap[b]? =some o
 locs:∀p∈L,w.heap[p.1]? =some p.2
variable{b:Nat}{o:Obj}{w:World}
theorem Bw(h:w.heap[b]? =some o):b<w.heap.size:=(Array.getElem?_eq_some_iff.1 h).1
theorem St.closed(E:Ent)(M:Mem)(L:Lc):NF (St E M L):=λw g h a=>
 {os:=a.os.trans h.os,tape:=a.tape.trans h.tape,output:=a.output.trans h.output,size:=Nat.le_trans h.size a.size
  same:=λk d f=>(a.block k (Nat.lt_of_lt_of_le d h.size)).trans (h.same k d f)
  fresh:=h.fresh
  agree:=λb o e=>by rw[a.block b (Bw (h.agree b o e))];exact h.agree b o e
  locs:=λp c=>⟨by rw[a.block p.1 (Bw (h.locs p c).1)];exact(h.locs p c).1,(h.locs p c).2⟩
  nodup:=h.nodup }
variable{E:Ent}{L:Lc}{M:Mem}
theorem St.js(h:St E M L w):Js M L w:=⟨h.agree,λp a=>(h.locs p a).1⟩
def MLe(M M':Mem):Prop:=∀b o,M b=some o->M' b=some o
theorem MLe.refl(M:Mem):MLe M M:=λ_ _ h=>h
theorem MLe.trans{M' a:Mem}(h:MLe M M')(k:MLe M' a):MLe M a:=λb o x=>k b o (h b o x)
variable{L':Lc}
theorem Js.sub{M':Mem}(c:MLe M M')(d:∀p∈L,p∈L')(h:Js M' L' w):Js M L w:=⟨λb o x=>h.agree b o (c b o x),λp a=>h.locs p (d p a)⟩
theorem St.fewer(h:St E M L w)(hs:L'.Sublist L):St E M L' w:=
 {h with locs:=λp a=>h.locs p (hs.subset a),nodup:=h.nodup.sublist (hs.map _) }
theorem St.perm(h:St E M L w)(hs:L.Perm L'):St E M L' w:=
 {h with locs:=λp a=>h.locs p (hs.mem_iff.2 a),nodup:=(hs.map _).nodup_iff.1 h.nodup }
def Mem.set(M:Mem)(g:Nat)(o:Obj):Mem:=λb=>if b=g then some o else M b
variable{g:Nat}
theorem Mem.le_set(h:M g=none):MLe M (M.set g o):=λb x a=>by
 unfold Mem.set;split
 ·rename_i e;subst e;rw[h]at a;cases a
 exact a
variable{M0:Mem}{W:World}{X:List Nat}
theorem St.freeze(h:St ⟨W,X,M0⟩ M ((g,o)::L) w)(l:g∉X):St ⟨W,X,M0⟩ (M.set g o) L w/\MLe M (M.set g o):=by
 have c:=h.locs (g,o) (by simp);have m:W.heap.size<=g:=c.2.1.resolve_right l;refine⟨{ h with fresh:=λk i=>?_,agree:=λb x d=>?_,locs:=λp f=>?_,nodup:=(List.nodup_cons.1 h.nodup).2 },Mem.le_set c.2.2⟩
 ·have j:k<W.heap.size:=i;have:k≠g:=λe=>by omega
  rw[<-h.fresh k i];simp[Mem.set,this]
 ·unfold Mem.set at d;split at d
  ·grind
  exact h.agree b x d
 have a:=h.locs p (List.mem_cons_of_mem _ f);refine⟨a.1,a.2.1,?_⟩;have:p.1≠g:=λe=>(List.nodup_cons.1 h.nodup).1 (by rw[<-e];exact List.mem_map.2 ⟨p,f,rfl⟩);grind[Mem.set]
section
variable(P:Program)(ops:Array Oper)(N:Fs)
def QF(F:Fr)(M:Mem)(L:Lc)(o:Oper)(v:Value):Prop:=∀a,Has N F a->QY P ops (Js M L) o v a
def HF(F:Fr)(E:Ent)(M:Mem)(L:Lc)(o:Oper)(K:Value->Mem->Lc->Prop):Prop:=∀a w,Has N F a->St E M L w->
 Region.wanted o (yielded ops a.tmps)=true/\∀Q,o.wpIn (FF N.r) 0 P a w (λa' w'=>∃v M' L',a'=a.put o.dst v/\St E M' L' w'/\K v M' L') Q
def JL(Q:Exit->Act->World->Prop)(l:List Oper)(F:Fr)(E:Ent)(M:Mem)(L:Lc):Prop:=∀a w,Has N F a->St E M L w->wpListIn (FF N.r) 0 P ops Q l a w
def JD(p:Ph)(Mw:Mem)(Lw:Lc)(Q:Exit->Act->World->Prop)(l:List (Nat×Bool))(F:Fr)(E:Ent)(M:Mem)(L:Lc)(Mi:Mem)(Li:Lc):Prop:=
 MLe Mi M->(∀p∈Li,p∈L)->MLe Mw Mi->(∀p∈Lw,p∈Li)->JO p P ops N Q l true F (Js Mi Li) (Js Mw Lw) (St E M L)
def JE(p:Ph)(Mw:Mem)(Lw:Lc)(Q:Exit->Act->World->Prop)(l:List (Nat×Bool))(F:Fr)(E:Ent)(M:Mem)(L:Lc):Prop:=
 MLe Mw M->(∀p∈Lw,p∈L)->∀J,JO p P ops N Q l false F J (Js Mw Lw) (St E M L)
end
def JC(P:Program)(N:Fs)(c:Code)(F:Fr)(E:Ent)(M:Mem)(L:Lc)(Q:Exit->Act->World->Prop):Prop:=∀a w,Has N F a->St E M L w->c.wpIn (FF N.r) 0 P Q a w
def JQ(N:Fs)(e:Exit)(F:Fr)(E:Ent)(M:Mem)(L:Lc)(Q:Exit->Act->World->Prop):Prop:=∀a w,Has N F a->St E M L w->Q e a w
section
variable{P:Program}{ops:Array Oper}{N:Fs}{Q:Exit->Act->World->Prop}{F F':Fr}{E:Ent}{M:Mem}{L:Lc}
theorem Ai(h:JQ N .normal F E M L Q):JL P ops N Q [] F E M L:=h
theorem A2{o:Oper}{b:List Oper}{v:Value}{d:Nat}(i:o.dst=some d)(u:Nat.blt d N.n=true)(l:QF P ops N F M L o v)(h:JL P ops N Q b ((d,v)::F) E M L):JL P ops N Q (o::b) F E M L:=by
 intro a w g f;have j:=l a g;have e:d<N.n:=by simp_all
 unfold wpListIn;rcases j with⟨c,k⟩|⟨c,rfl⟩
 ·rw [if_pos c];exact(k w f.js).wp λs m=>by rw[i];exact h _ _ (g.put e v) (St.closed _ _ _ _ _ f m)
 rw[c];simp only[Bool.false_eq_true,if_false];rw[i];exact⟨λ_ _=>trivial,h _ _ (g.put e _) f⟩
theorem Ee{o:Oper}{b:List Oper}{K:Value->Mem->Lc->Prop}{d:Nat}(k:o.dst=some d)(y:Nat.blt d N.n=true)(j:HF P ops N F E M L o K)(h:∀v M' L',K v M' L'->JL P ops N Q b ((d,v)::F) E M' L'):JL P ops N Q (o::b) F E M L:=by
 intro a w e f;obtain⟨s,m⟩:=j a w e f;have c:d<N.n:=by simp_all
 unfold wpListIn;rw[if_pos s];refine Oper.wpIn_mono (λz u i=>?_) (m Q);obtain⟨v,M',L',rfl,g,l⟩:=i;rw[k];exact h v M' L' l _ _ (e.put c v) g
theorem DE{o:Oper}{b:List Oper}{K:Value->Mem->Lc->Prop}(i:o.dst=none)(g:HF P ops N F E M L o K)(h:∀v M' L',K v M' L'->JL P ops N Q b F E M' L'):JL P ops N Q (o::b) F E M L:=by
 intro a w c d;obtain⟨l,k⟩:=g a w c d;unfold wpListIn;rw[if_pos l];refine Oper.wpIn_mono (λn m f=>?_) (k Q);obtain⟨v,M',L',rfl,e,j⟩:=f;rw[i];exact h v M' L' j _ _ c e
theorem Uh{b:List Oper}{M':Mem}{L':Lc}(c:∀w,St E M L w->St E M' L' w)(h:JL P ops N Q b F E M' L'):JL P ops N Q b F E M L:=λa w e d=>h a w e (c w d)
variable{Mi Mw:Mem}{Li Lw:Lc}{p:Ph}
theorem Nm(h:JQ N .normal F E M L Q):JD P ops N p Mw Lw Q [] F E M L Mi Li:=λ_ _ _ _=>h
theorem Ch{i:Nat}{b:List (Nat×Bool)}{o:Oper}{v:Value}{d:Nat}(m:ops[i]? =some o)(k:o.dst=some d)(w:Nat.blt d N.n=true)
  (l:QF P ops N F Mi Li o v) (h:JD P ops N p Mw Lw Q b ((d,v)::F) E M L Mi Li) (y:p.A i=true:=by rfl) (u:p.U i=true:=by rfl):JD P ops N p Mw Lw Q ((i,true)::b) F E M L Mi Li:=λe f g j=>
 ⟨o,m,by unfold HM;rw[k];exact w,St.closed _ _ _,λ_ c=>(c.js.sub e f).sub g j,λ_ _ c=>c.js.sub e f,y,λ_=>rfl,v,λa s=>by rw[if_pos u];exact l a s,by rw[k];exact h e f g j⟩
theorem wNm{i:Nat}{b:List (Nat×Bool)}{o:Oper}{v:Value}{d:Nat}(m:ops[i]? =some o)(k:o.dst=some d)(w:Nat.blt d N.n=true)
  (l:QF P ops N F Mw Lw o v) (h:JD P ops N p Mw Lw Q b ((d,v)::F) E M L Mi Li) (y:p.A i=true:=by rfl) (u:p.U i=false:=by rfl):JD P ops N p Mw Lw Q ((i,true)::b) F E M L Mi Li:=λe f g j=>
 ⟨o,m,by unfold HM;rw[k];exact w,St.closed _ _ _,λ_ c=>(c.js.sub e f).sub g j,λ_ _ c=>c.js.sub e f,y,λ_=>rfl,v,λa s=>by rw[u];exact l a s,by rw[k];exact h e f g j⟩
theorem Nn{i:Nat}{a:List (Nat×Bool)}{o:Oper}{v:Value}{d:Nat}(c:ops[i]? =some o)(e:o.dst=some d)(g:Nat.blt d N.n=true)
  (b:∀M L,QF P ops N F M L o v) (h:JD P ops N p Mw Lw Q a ((d,v)::F) E M L Mi Li) (j:p.A i=true:=by rfl):JD P ops N p Mw Lw Q ((i,true)::a) F E M L Mi Li:=by
 cases f:p.U i
 ·exact wNm c e g (b _ _) h j f
 exact Ch c e g (b _ _) h j f
theorem GP{i:Nat}{e:List (Nat×Bool)}{o:Oper}{K:Value->Mem->Lc->Prop}{d:Nat}(H:ops[i]? =some o)(z:o.dst=some d)(R:Nat.blt d N.n=true)
  (J:HF P ops N F E M L o K)
  (h:∀v M' L',K v M' L'->∃b c,MLe Mi b/\MLe b M'/\(∀p∈Li,p∈c)/\(∀p∈c,p∈L')/\JD P ops N p Mw Lw Q e ((d,v)::F) E M' L' b c) (T:p.A i=true:=by rfl):JD P ops N p Mw Lw Q ((i,false)::e) F E M L Mi Li:=λB C j k=>
 ⟨o,H,by unfold HM;rw[z];exact R,St.closed _ _ _,λ_ g=>(g.js.sub B C).sub j k,λ_ _ g=>g.js.sub B C,.inl λa w O g=>by
  obtain⟨V,U⟩:=J a w O g
  refine⟨V,Oper.wpIn_mono (λX W I=>?_) (U Q)⟩
  obtain⟨v,M',L',rfl,G,S⟩:=I
  obtain⟨b,c,u,s,m,l,D⟩:=h v M' L' S
  refine⟨v,rfl,Js b c,Js Mw Lw,St E M' L',St.closed _ _ _,λ_ f=>(f.js.sub s l).sub (j.trans u) (λp y=>m p (k p y)),λ_ f=>f,λ_ _ f=>f.js.sub s l,λ_ f=>f.sub u m,G,?_⟩
  rw[z,T];exact D s l (j.trans u) (λp y=>m p (k p y))⟩
theorem DF{i:Nat}{d:List (Nat×Bool)}{o:Oper}{K:Value->Mem->Lc->Prop}(D:ops[i]? =some o)(u:o.dst=none)
  (H:HF P ops N F E M L o K)
  (h:∀v M' L',K v M' L'->∃b c,MLe Mi b/\MLe b M'/\(∀p∈Li,p∈c)/\(∀p∈c,p∈L')/\JD P ops N p Mw Lw Q d F E M' L' b c) (O:p.A i=true:=by rfl):JD P ops N p Mw Lw Q ((i,false)::d) F E M L Mi Li:=λy z g j=>
 ⟨o,D,by unfold HM;rw[u],St.closed _ _ _,λ_ f=>(f.js.sub y z).sub g j,λ_ _ f=>f.js.sub y z,.inl λa w I f=>by
  obtain⟨S,R⟩:=H a w I f
  refine⟨S,Oper.wpIn_mono (λU T G=>?_) (R Q)⟩
  obtain⟨v,M',L',rfl,C,J⟩:=G
  obtain⟨b,c,n,m,l,k,B⟩:=h v M' L' J
  refine⟨v,rfl,Js b c,Js Mw Lw,St E M' L',St.closed _ _ _,λ_ e=>(e.js.sub m k).sub (g.trans n) (λp s=>l p (j p s)),λ_ e=>e,λ_ _ e=>e.js.sub m k,λ_ e=>e.sub n l,C,?_⟩
  rw[u,O];exact B m k (g.trans n) (λp s=>l p (j p s))⟩
theorem Ho{i:Nat}{b:List (Nat×Bool)}{o:Oper}{K:Value->Mem->Lc->Prop}(y:ops[i]? =some o)(g:o.dst=none)
  (B:HF P ops N F E M L o K)
  (h:∀v M' L',K v M' L'->MLe Mw M'/\(∀p∈Lw,p∈L')/\JE P ops N p Mw Lw Q b F E M' L') (l:p.A i=false:=by rfl):JD P ops N p Mw Lw Q ((i,false)::b) F E M L Mi Li:=λj k m n=>
 ⟨o,y,by unfold HM;rw[g],St.closed _ _ _,λ_ d=>(d.js.sub j k).sub m n,λ_ _ d=>d.js.sub j k,.inl λa w C d=>by
  obtain⟨H,G⟩:=B a w C d
  refine⟨H,Oper.wpIn_mono (λJ I z=>?_) (G Q)⟩
  obtain⟨v,M',L',rfl,u,D⟩:=z
  obtain⟨f,e,s⟩:=h v M' L' D
  refine⟨v,rfl,Js Mi Li,Js Mw Lw,St E M' L',St.closed _ _ _,λ_ c=>c.js.sub f e,λ_ c=>c,λh=>?_,λ_ c=>c,u,?_⟩
  ·rw [l]at h;cases h
  rw[g,l];exact s f e _⟩
theorem jd_eh{i:Nat}{b:List (Nat×Bool)}{o:Oper}{K:Value->Mem->Lc->Prop}{d:Nat}(B:ops[i]? =some o)(j:o.dst=some d)(H:Nat.blt d N.n=true)
  (D:HF P ops N F E M L o K)
  (h:∀v M' L',K v M' L'->MLe Mw M'/\(∀p∈Lw,p∈L')/\JE P ops N p Mw Lw Q b ((d,v)::F) E M' L') (m:p.A i=false:=by rfl):JD P ops N p Mw Lw Q ((i,false)::b) F E M L Mi Li:=λk l s u=>
 ⟨o,B,by unfold HM;rw[j];exact H,St.closed _ _ _,λ_ e=>(e.js.sub k l).sub s u,λ_ _ e=>e.js.sub k l,.inl λa w G e=>by
  obtain⟨O,J⟩:=D a w G e
  refine⟨O,Oper.wpIn_mono (λS R C=>?_) (J Q)⟩
  obtain⟨v,M',L',rfl,z,I⟩:=C
  obtain⟨g,f,y⟩:=h v M' L' I
  refine⟨v,rfl,Js Mi Li,Js Mw Lw,St E M' L',St.closed _ _ _,λ_ c=>c.js.sub g f,λ_ c=>c,λh=>?_,λ_ c=>c,z,?_⟩
  ·rw [m]at h;cases h
  rw[j,m];exact y g f _⟩
theorem Cv{a:List (Nat×Bool)}{M':Mem}{L':Lc}(g:MLe M M')(i:∀p∈L,p∈L')(e:MLe Mi M)(d:∀p∈Li,p∈L)(h:JD P ops N p Mw Lw Q a F E M' L' Mi Li):
  ∃b c,MLe Mi b/\MLe b M'/\(∀p∈Li,p∈c)/\(∀p∈c,p∈L')/\JD P ops N p Mw Lw Q a F E M' L' b c:=
 ⟨Mi,Li,MLe.refl _,e.trans g,λ_ h=>h,λp f=>i p (d p f),h⟩
theorem QM(h:JQ N .normal F E M L Q):JE P ops N p Mw Lw Q [] F E M L:=λ_ _ _=>h
theorem Kn{i:Nat}{b:List (Nat×Bool)}{o:Oper}{v:Value}{d:Nat}(l:ops[i]? =some o)(f:o.dst=some d)(s:Nat.blt d N.n=true)
  (k:QF P ops N F Mw Lw o v) (h:JE P ops N p Mw Lw Q b ((d,v)::F) E M L) (u:p.A i=true:=by rfl) (g:p.U i=false:=by rfl):JE P ops N p Mw Lw Q ((i,true)::b) F E M L:=λc e J=>
 ⟨o,l,by unfold HM;rw[f];exact s,St.closed _ _ _,λ_ j=>j.js.sub c e,(λh=>by cases h),u,(λh=>by rw[g]at h;cases h),v,λa m=>by rw[g];exact k a m,by rw[f];exact h c e J⟩
theorem KY{i:Nat}{b:List (Nat×Bool)}{o:Oper}{K:Value->Mem->Lc->Prop}(n:ops[i]? =some o)(g:o.dst=none)
  (u:HF P ops N F E M L o K)
  (h:∀v M' L',K v M' L'->MLe Mw M'/\(∀p∈Lw,p∈L')/\JE P ops N p Mw Lw Q b F E M' L'):JE P ops N p Mw Lw Q ((i,false)::b) F E M L:=λj k J=>
 ⟨o,n,by unfold HM;rw[g],St.closed _ _ _,λ_ d=>d.js.sub j k,(λh=>by cases h),.inl λa w y d=>by
  obtain⟨C,B⟩:=u a w y d
  refine⟨C,Oper.wpIn_mono (λG D s=>?_) (B Q)⟩
  obtain⟨v,M',L',rfl,m,z⟩:=s
  obtain⟨f,e,l⟩:=h v M' L' z
  refine⟨v,rfl,J,Js Mw Lw,St E M' L',St.closed _ _ _,λ_ c=>c.js.sub f e,λ_ c=>c,(λh=>by cases h),λ_ c=>c,m,?_⟩
  rw[g];exact l f e J⟩
theorem Af{b:Nat}{l:List Oper}(h:JL P l.toArray N Q l F E M L):JC P N (.region b l.toArray false) F E M L Q:=λa w d c=>wpIn_region_lit (h a w d c)
theorem WC{p:Ph}{o:Nat}{l:List Oper}(b:List (Nat×Bool))(m:Mem)(d n:Lc)(u:P.follows .mixedOrders=true)(hs:(Region.noSelect l.toArray&&Dc l.toArray)=true)
  (g:Da l.toArray b (Array.replicate l.length false)=true) (f:Nd p l.toArray=true) (c:b.length=l.length)
  (k:∀p∈d,p∈L) (i:MLe m M) (j:∀p∈n,p∈d) (h:JD P l.toArray N p m n (NoPanic Q) b F E M L M d):JC P N (.region o l.toArray true) F E M L Q:=λa w y s=>by
 refine wpIn_mono (Q:=NoPanic Q) (wpIn_region_any u ?_) NoPanic.imp
 have e:St E M L { w with drawn:=w.drawn+1 }:={ s with }
 have:=AC.any _ _ _ a (St E M L) _ e (JO.toAC (Q:=NoPanic Q) hs f (λ_ _ _ _ _ h=>h) b true (Array.replicate l.length false) F (Js M d) (Js m n) (St E M L) a (Shut.none _) g (h (MLe.refl _) k i j) y)
 rw[c]at this
 simpa using this
theorem LX{f:Nat}{l:List Oper}(a:List (Nat×Bool))(c:Lc)(g:P.follows .mixedOrders=true)(hs:(Region.noSelect l.toArray&&Dc l.toArray)=true)
  (d:Da l.toArray a (Array.replicate l.length false)=true) (b:a.length=l.length)
  (e:∀p∈c,p∈L) (h:JD P l.toArray N {} M c (NoPanic Q) a F E M L M c):JC P N (.region f l.toArray true) F E M L Q:=
 WC a M c c g hs d (Qk _) b e (MLe.refl _) (λ_ h=>h) h
theorem Ah{x y:Code}(h:JC P N x F E M L (Exit.then (λa w=>y.wpIn (FF N.r) 0 P Q a w) Q)):JC P N (.seq x y) F E M L Q:=λa w c b=>wpIn_seq (h a w c b)
theorem Co(h:JQ N .normal F E M L Q):JC P N .skip F E M L Q:=λa w c b=>wpIn_skip (h a w c b)
theorem QP{l:Nat}(h:JQ N .normal F E M L Q):JC P N (.label l) F E M L Q:=λa w c b=>wpIn_label (h a w c b)
theorem Bq(h:JQ N .ret F E M L Q):JC P N .ret F E M L Q:=λa w c b=>wpIn_ret (h a w c b)
theorem Gi{i:Nat}(h:JQ N (.exit i) F E M L Q):JC P N (.exit i) F E M L Q:=λa w c b=>wpIn_exit (h a w c b)
theorem Dm{b:Nat}{c:Code}(h:JC P N c F E M L (Exit.inBlock b Q)):JC P N (.block b c) F E M L Q:=λa w e d=>wpIn_block (h a w e d)
theorem EF{c:Operand}{x y:Code}(e:ev F c=some (.bool true))(h:JC P N x F E M L Q):JC P N (.cond c x y) F E M L Q:=λa w b d=>wpIn_cond_true (b.ev e) (h a w b d)
theorem DM{c:Operand}{x y:Code}(e:ev F c=some (.bool false))(h:JC P N y F E M L Q):JC P N (.cond c x y) F E M L Q:=λa w b d=>wpIn_cond_false (b.ev e) (h a w b d)
theorem wUy{c:Code}(k:Keep F F')(h:JC P N c F' E M L Q):JC P N c F E M L Q:=λa w d b=>h a w (d.keep k) b
theorem Cf{c:Code}{M':Mem}{L':Lc}(hs:∀w,St E M L w->St E M' L' w)(h:JC P N c F E M' L' Q):JC P N c F E M L Q:=λa w d b=>h a w d (hs w b)
theorem AM{e:Exit}{M':Mem}{L':Lc}(hs:∀w,St E M L w->St E M' L' w)(h:JQ N e F E M' L' Q):JQ N e F E M L Q:=λa w c b=>h a w c (hs w b)
theorem jT{y:Code}(h:JC P N y F E M L Q):JQ N .normal F E M L (Exit.then (λa w=>y.wpIn (FF N.r) 0 P Q a w) Q):=h
theorem wJh{K:Act->World->Prop}(h:JQ N .ret F E M L Q):JQ N .ret F E M L (Exit.then K Q):=h
theorem wBo{K:Act->World->Prop}{i:Nat}(h:JQ N (.exit i) F E M L Q):JQ N (.exit i) F E M L (Exit.then K Q):=h
theorem jB{a:Nat}(h:JQ N .normal F E M L Q):JQ N .normal F E M L (Exit.inBlock a Q):=h
theorem jBr{a:Nat}(h:JQ N .ret F E M L Q):JQ N .ret F E M L (Exit.inBlock a Q):=h
theorem wXd{b:Nat}(h:JQ N .normal F E M L Q):JQ N (.exit b) F E M L (Exit.inBlock b Q):=λa w d c=>by simp only[Exit.inBlock,if_true];exact h a w d c
theorem wXe{b i:Nat}(d:Nat.beq i b=false)(h:JQ N (.exit i) F E M L Q):JQ N (.exit i) F E M L (Exit.inBlock b Q):=λa w f c=>by
 have:i≠b:=λe=>by subst e;simp at d
 simp only[Exit.inBlock,this,if_false];exact h a w f c
theorem wGh(h:JQ N .normal F E M L Q):JQ N .normal F E M L (NoPanic Q):=h
end
section
variable{P:Program}{N:Fs}{Q:Exit->Act->World->Prop}
def XP{α:Type}(N:Fs)(E:Ent)(Fi:α->Fr)(Mi:α->Mem)(Li:α->Lc)(φ:α->Prop)(μ:α->Nat)(x:α)(a:Act)(w:World):Prop:=
 ∃y,φ y/\μ y<μ x/\Has N (Fi y) a/\St E (Mi y) (Li y) w
theorem Wy{p:Nat->Prop}(h:∃n,p n):∃n,p n/\∀k,p k->n<=k:=by
 obtain⟨n,b⟩:=h;induction n using Nat.strongRecOn with
 |_ n a=>
  grind
theorem wUx{α:Type}{E:Ent}{c:Code}(Fi:α->Fr)(Mi:α->Mem)(Li:α->Lc)(φ:α->Prop)(μ:α->Nat)
  (h:∀x,φ x->JC P N c (Fi x) E (Mi x) (Li x) (Exit.then (XP N E Fi Mi Li φ μ x) Q)) (x:α) (hx:φ x):JC P N (.loop c) (Fi x) E (Mi x) (Li x) Q:=by
 classical
 intro a w ha hw;let I:Act->World->Nat->Prop:=λa w n=>∃x,φ x/\Has N (Fi x) a/\St E (Mi x) (Li x) w/\μ x=n;let m:Act->World->Nat:=λa w=>if h:∃n,I a w n then Classical.choose (Wy h)else 0
 have hm:∀a w n,I a w n->m a w<=n:=λa w n hi=>by
  have he:∃n,I a w n:=⟨n,hi⟩;simp only[m,dif_pos he];exact(Classical.choose_spec (Wy he)).2 _ hi
 refine wpIn_loop (λa w=>∃n,I a w n) m ⟨_,x,hx,ha,hw,rfl⟩ λa w he=>?_;have hmin:I a w (m a w):=by grind
 obtain⟨y,hy,hya,hyw,hyn⟩:=hmin;refine wpIn_mono (h y hy a w hya hyw) λe a' w' hq=>?_;cases e with
 |normal=>
  obtain⟨z,hz,hlt,hza,hzw⟩:=hq
  have h1:I a' w' (μ z):=⟨z,hz,hza,hzw,rfl⟩
  exact⟨⟨_,h1⟩,by have:=hm a' w' _ h1;omega⟩
 |exit id=>exact hq
 |goto l=>exact hq
 |ret=>exact hq
 |panic ch=>exact hq
 |outgrown=>exact hq
theorem LW{α:Type}{E:Ent}{c:Code}{F:Fr}{M:Mem}{L:Lc}(f:α->Fr)(d:α->Mem)(e:α->Lc)(b:α->Prop)(g:α->Nat)(x:α)(hk:Keep F (f x))(i:b x)(hs:∀w,St E M L w->St E (d x) (e x) w)
  (h:∀x,b x->JC P N c (f x) E (d x) (e x) (Exit.then (XP N E f d e b g x) Q)):JC P N (.loop c) F E M L Q:=λa w k j=>
 wUx f d e b g h x i a w (k.keep hk) (hs w j)
theorem Hp{α:Type}{E:Ent}{F:Fr}{M:Mem}{L:Lc}{g:α->Fr}{e:α->Mem}{f:α->Lc}{d:α->Prop}{a:α->Nat}{x:α}(y:α)(hk:Keep F (g y))(b:d y)(c:a y<a x)
  (hs:∀w,St E M L w->St E (e y) (f y) w):JQ N .normal F E M L (Exit.then (XP N E g e f d a x) Q):=λ_ w i h=>⟨y,b,c,i.keep hk,hs w h⟩
end
def wXv{α:Type}(N:Fs)(E:Ent)(Fi:α->Fr)(Mi:α->Mem)(Li:α->Lc)(φ:α->Prop)(a:Act)(w:World):Prop:=∃y,φ y/\Has N (Fi y) a/\St E (Mi y) (Li y) w
section
variable{P:Program}{N:Fs}{Q:Exit->Act->World->Prop}
theorem FO{α:Type}{E:Ent}{x y:Code}{F:Fr}{M:Mem}{L:Lc}(g:α->Fr)(d:α->Mem)(f:α->Lc)(c:α->Prop)(h:∀z,c z->JC P N y (g z) E (d z) (f z) Q)
  (j:JC P N x F E M L (Exit.then (wXv N E g d f c) Q)):JC P N (.seq x y) F E M L Q:=λa w m k=>wpIn_seq (wpIn_mono (j a w m k) (λe u i b=>by
 cases e with
 |normal=>obtain⟨z,s,o,n⟩:=b;exact h z s u i o n
 |exit B=>exact b
 |goto l=>exact b
 |ret=>exact b
 |panic C=>exact b
 |outgrown=>exact b))
theorem Cx{α:Type}{E:Ent}{F:Fr}{M:Mem}{L:Lc}{e:α->Fr}{c:α->Mem}{d:α->Lc}{b:α->Prop}(y:α)(hk:Keep F (e y))(a:b y)(hs:∀w,St E M L w->St E (c y) (d y) w):JQ N .normal F E M L (Exit.then (wXv N E e c d b) Q):=λ_ w g f=>⟨y,a,g.keep hk,hs w f⟩
end
def SpecL(P:Program)(f:FuncId)(args:Array Value)(M:Mem)(L:Lc)(post:Value->Mem->Lc->Prop):Prop:=
 ∀w,St ⟨w,L.map (·.1),M⟩ M L w->Calls P f args w λe w'=>∃v M' L',e=.returned v/\post v M' L'/\St ⟨w,L.map (·.1),M⟩ M' L' w'
variable{P:Program}{args:Array Value}{f:FuncId}{post:Value->Mem->Lc->Prop}
theorem SpecL.mono{d:Value->Mem->Lc->Prop}(h:SpecL P f args M L post)(g:∀v M' L',post v M' L'->d v M' L'):SpecL P f args M L d:=
 λw e=>(h w e).mono λ_ _ ⟨v,M',L',a,b,c⟩=>⟨v,M',L',a,g _ _ _ b,c⟩
def Bz(P:Program)(fn:Func)(E:Ent)(post:Value->Mem->Lc->Prop):Exit->Act->World->Prop:=
 bodyPostM (FF none) 0 P fn λe w'=>∃v M' L',e=.returned v/\post v M' L'/\St E M' L' w'
def Jr:Nat->List Value->Fr
 |_,[]=>[]
 |i,v::vs=>(i,v)::Jr (i+1) vs
theorem Pz:∀(vs:List Value)(i t:Nat)(v:Value),lk t (Jr i vs)=some v->i<=t/\vs[t-i]? =some v
 |[],_,_,_,h=>by cases h
 |u::a,i,t,v,h=>by
  unfold Jr lk at h;cases b:Nat.beq i t
  ·rw [b]at h;obtain⟨d,c⟩:=Pz a (i+1) t v h;grind
  simp_all
variable{c:Code}{fn:Func}{vs:List Value}
theorem DX(N:Nat)(F:Fr)
  (e:P.funcs[f]? =some fn) (g:fn.body=some c) (j:fn.ntmps=N) (d:Nat.ble vs.length N=true) (i:Jr 0 vs=F)
  (h:∀W,JC P ⟨N,[],none⟩ c F ⟨W,L.map (·.1),M⟩ M L (Bz P fn ⟨W,L.map (·.1),M⟩ post)):SpecL P f vs.toArray M L post:=by
 intro w b;refine(callsIn_wide (n:=0)).1 (callsIn_of_wp_marks (F:=FF none) e g trivial (h w _ w ⟨?_,rfl,?_⟩ b) rfl)
 ·simp_all
 intro t v a;rw[<-i]at a;obtain⟨_,k⟩:=Pz vs 0 t v a;grind
theorem Ya(N:Nat)(F:Fr)
  (i:P.funcs[f]? =some fn) (j:fn.body=some c) (l:fn.ntmps=N) (g:Nat.ble vs.length N=true) (k:Jr 0 vs=F)
  (h:∀W,(∀x∈L.map (·.1),x<W.heap.size)->JC P ⟨N,[],none⟩ c F ⟨W,L.map (·.1),M⟩ M L (Bz P fn ⟨W,L.map (·.1),M⟩ post)):SpecL P f vs.toArray M L post:=by
 intro w a;refine(callsIn_wide (n:=0)).1 (callsIn_of_wp_marks (F:=FF none) i j trivial (h w (λx d=>by obtain⟨p,e,rfl⟩:=List.mem_map.1 d;exact Bw (a.locs p e).1) _ w ⟨?_,rfl,?_⟩ a) rfl)
 ·simp_all
 intro t v b;rw[<-k]at b;obtain⟨_,m⟩:=Pz vs 0 t v b;grind
variable{d:Nat}
theorem St.shut{j:Obj}(h:St E M ((d,o)::L) w):St E M L (w.putObj d j):=by
 have i:=h.locs (d,o) (by simp);have f:=List.nodup_cons.1 h.nodup;refine { h with size:=by simpa using h.size,same:=λk l a=>?_,agree:=λb x a=>?_,locs:=λp g=>?_,nodup:=f.2 }
 ·have:k≠d:=λe=>by subst e;exact i.2.1.elim (λh=>by omega) a
  rw[World.putObj_heap_other this];exact h.same k l a
 ·have:b≠d:=λe=>by subst e;rw[i.2.2]at a;cases a
  rw[World.putObj_heap_other this];exact h.agree b x a
 have c:=h.locs p (List.mem_cons_of_mem _ g);have:p.1≠d:=λe=>f.1 (by rw[<-e];exact List.mem_map.2 ⟨p,g,rfl⟩);exact⟨by rw[World.putObj_heap_other this];exact c.1,c.2⟩
variable{D:List Deferred}{F:Fr}{n:Nat}
theorem Bu{L2:Lc}(g:L.Perm ((d,.deferred (some []))::L2))
  (h:JQ ⟨n,D,none⟩ .ret F E M L2 (Bz P fn E post)):JQ ⟨n,d::D,none⟩ .ret F E M L (Bz P fn E post):=by
 intro a w e f;have b:=f.perm g;have i:=(b.locs (d,.deferred (some [])) (by simp)).1;have:=h { a with defers:=D } (w.putObj d (.deferred none)) ⟨e.size,rfl,e.get⟩ b.shut;have c:a.defers=Nj d::D:=e.defers;show LeavesInM _ _ _ _ _ _ a.defers _ _;rw[c];exact⟨by simp,.inl ⟨d,_,rfl,run_takeDeferred i,this⟩⟩
theorem FX{t:Nat}{v:Value}(e:fn.results=#[.tmp t])(d:lk t F=some v)(h:post v M L):JQ ⟨n,[],none⟩ .ret F E M L (Bz P fn E post):=by
 intro a w b c;show LeavesInM _ _ _ _ _ _ a.defers _ _;rw[show a.defers=[]from b.defers];refine⟨v,?_,v,M,L,rfl,h,c⟩;have:=b.get t v d;simp[results,e,Array.getD_eq_getD_getElem?,this]
theorem wSg{t u:Nat}{v x:Value}(f:fn.results=#[.tmp t,.tmp u])(e:lk t F=some v)(c:lk u F=some x)(h:post (.tuple #[v,x]) M L):JQ ⟨n,[],none⟩ .ret F E M L (Bz P fn E post):=by
 intro a w b d;show LeavesInM _ _ _ _ _ _ a.defers _ _;rw[show a.defers=[]from b.defers];refine⟨_,?_,_,M,L,rfl,h,d⟩;have i:=b.get t v e;have g:=b.get u x c;simp[results,f,Array.getD_eq_getD_getElem?,i,g]
end Go.Proofs.YtjheijhahehnmaaGreatDoor
