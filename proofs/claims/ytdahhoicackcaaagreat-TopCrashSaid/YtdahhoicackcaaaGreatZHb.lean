/- THE WALKING LAYER, second part: memory that is never written again and blocks of one's own; regions, code, calls. No statement of the seat is proved here. -/
import Derived.Test.YtdahhoicackcaaaGreatRows
import Derived.WalkKit
import Derived.OrdersHeld
import Derived.Deep.RegionHeld3
import Derived.OrdersIn
import Derived.RangeFuncCalls
import Derived.RangeFuncLeaves
namespace Go.Proofs.YtdahhoicackcaaaGreat
set_option linter.unusedSimpArgs false
set_option linter.unusedVariables false
set_option linter.unusedSectionVars false
open Go.RowKit
set_option maxRecDepth 8000
abbrev Fr:=List (Nat×Value)
def lk(t:Nat):Fr->Option Value
 |[]=>none
 |(s,v)::F=>bif Nat.beq s t then some v else lk t F
def ev(F:Fr):Operand->Option Value
 |.tmp t=>lk t F
 |.const v=>some v
 |.global g=>some (.pointer (some ⟨g,0,none⟩))
 |.func f=>some (.func (.func f) #[] #[])
def evs(F:Fr):List Operand->Option (List Value)
 |[]=>some []
 |x::xs=>match ev F x,evs F xs with
  |some v,some vs=>some (v::vs)
  |_,_=>none
structure Fs where
 n:Nat
 D:List Deferred:=[]
 r:Option Nat:=none
def FF(r:Option Nat):Fence:={ Fence.wide with round:=r }
def K5(d:Nat):Deferred:={ target:=.collected d,args:=#[] }
instance:Coe Nat Deferred:=⟨K5⟩
structure Has(N:Fs)(F:Fr)(a:Act):Prop where
 size:a.tmps.size=N.n
 defers:a.defers=N.D
 get:∀t v,lk t F=some v->a.tmps[t]? =some v
variable{F:Fr}{N:Fs}{a:Act}
theorem Has.ev(h:Has N F a){x:Operand}{v:Value}(b:ev F x=some v):a.eval x=v:=by
 cases x with
 |tmp t=>simp only[Act.eval];have:=h.get t v b;simp[Array.getD_eq_getD_getElem?,this]
 |const u=>simpa [Go.Proofs.YtdahhoicackcaaaGreat.ev,Act.eval]using b
 |global g=>simpa [Go.Proofs.YtdahhoicackcaaaGreat.ev,Act.eval]using b
 |func f=>simpa [Go.Proofs.YtdahhoicackcaaaGreat.ev,Act.eval]using b
theorem Has.evs(h:Has N F a):∀{xs:List Operand}{vs:List Value},evs F xs=some vs->xs.map a.eval=vs
 |[],vs,b=>by simpa [Go.Proofs.YtdahhoicackcaaaGreat.evs]using b
 |x::xs,vs,b=>by
  unfold Go.Proofs.YtdahhoicackcaaaGreat.evs at b
  split at b
  ·rename_i v e d c
   cases b
   simp[h.ev d,h.evs c]
  grind
variable{d:Nat}
theorem Has.put(h:Has N F a)(f:d<N.n)(v:Value):Has N ((d,v)::F) (a.put (some d) v):=by
 refine⟨by simp[Act.put,h.size],h.defers,λt u b=>?_⟩
 unfold lk at b
 simp only[Act.put]
 by_cases c:d=t
 ·subst c
  simp at b
  subst b
  simp[h.size,f]
 have e:Nat.beq d t=false:=by
  cases e:Nat.beq d t
  ·rfl
  simp_all
 rw[e]at b
 simp only[cond_false]at b
 rw[Array.getElem?_setIfInBounds_ne c]
 exact h.get t u b
structure Keep(F F':Fr):Prop where
 sub:∀t v,lk t F'=some v->lk t F=some v
theorem Keep.nil:Keep F []:=⟨λ_ _ h=>by cases h⟩
variable{F':Fr}{t:Nat}
theorem Keep.cons{v:Value}(h:lk t F=some v)(k:Keep F F'):Keep F ((t,v)::F'):=⟨λs u a=>by
 unfold lk at a
 cases b:Nat.beq t s
 ·rw [b]at a;exact k.sub s u a
 rw[b]at a;cases a;rw[<-Nat.eq_of_beq_eq_true b];exact h⟩
theorem Keep.ceq{u v:Value}(h:lk t F=some u)(e:u=v)(k:Keep F F'):Keep F ((t,v)::F'):=Keep.cons (by rw[h,e]) k
theorem Has.keep(h:Has N F a)(k:Keep F F'):Has N F' a:=⟨h.size,h.defers,λt v b=>h.get t v (k.sub t v b)⟩
abbrev LZ:=World->Prop
def Lu(C:LZ):Prop:=∀w w',C w->Below w.heap.size w w'->C w'
def growUpon(P:Program)(w:World)(v:Value):Result Next->Prop
 |.ok (.value u) w'=>u=v/\Below w.heap.size w w'
 |.ok .skip w'=>v=undef/\Below w.heap.size w w'
 |.ok (.enter f args) w'=>Below w.heap.size w w'/\Calls P f args w' (λe w''=>e=.returned v/\Below w.heap.size w w'')
 |_=>False
def QY(P:Program)(ops:Array Oper)(C:LZ)(o:Oper)(v:Value)(a:Act):Prop:=
 (Region.wanted o (yielded ops a.tmps)=true/\∀w,C w->growUpon P w v ((execOp a.eval o).run P w))\/
 (Region.wanted o (yielded ops a.tmps)=false/\v=undef)
section
variable{P:Program}{ops:Array Oper}{Q:Exit->Act->World->Prop}{md:Region.Mode}
theorem growUpon.plain{o:Oper}{a:Operand->Value}{w:World}{v:Value}(h:growUpon P w v ((execOp a o).run P w)):∀c,o.op≠.defer c:=by
 intro c e
 simp only[execOp,e,Sem.run_bind]at h
 generalize (resolve a c o.type).run P w=r at h
 cases r with
 |ok d b=>simp_all [growUpon]
 |halt x b=>simp_all [growUpon]
theorem E3(r:Option Nat)(n:Nat):(FF r).depth.isSome=true->1<=n:=λh=>by simp[FF,Fence.wide]at h
theorem Px{f:FuncId}{args:Array Value}{w:World}{R:Ending->World->Prop}(r:Option Nat)(n:Nat)(h:Calls P f args w R):CallsIn (FF r) n P f args w R:=(callsIn_wide (n:=n)).2 h
theorem growUpon.wp{r:Option Nat}{o:Oper}{a:Act}{w:World}{v:Value}{K:Act->World->Prop}(h:growUpon P w v ((execOp a.eval o).run P w))
  (d:∀c,Below w.heap.size w c->K (a.put o.dst v) c):o.wpIn (FF r) 0 P a w K Q:=by
 refine⟨λ_ _=>trivial,?_⟩
 rw[Oper.semAt_eq _ _ _ h.plain]
 generalize (execOp a.eval o).run P w=r at *
 cases r with
 |ok n c=>
  cases n<;>simp only[growUpon]at h<;>simp only[Oper.uponIn]
  case value u=>obtain⟨rfl,b⟩:=h;exact d _ b
  case skip=>obtain⟨rfl,b⟩:=h;exact d _ b
  case enter f args=>exact⟨E3 _ _,Px _ _ (h.2.mono λe g ⟨i,b⟩=>by subst i;exact d _ b)⟩
 |halt x c=>grind[growUpon]
theorem QY.wpOp{r:Option Nat}{C:LZ}{i:Nat}{o:Oper}{v:Value}{a:Act}(g:ops[i]? =some o)(e:QY P ops C o v a){w:World}(hC:C w){K:Act->World->Prop}
  (d:∀c,Below w.heap.size w c->K (a.put o.dst v) c):Go.wpOpIn (FF r) 0 P ops Q i K a w:=by
 unfold Go.wpOpIn
 simp only[g]
 rcases e with⟨b,f⟩|⟨b,rfl⟩
 ·simp only[b,if_true];exact(f w hC).wp d
 simp only[b,Bool.false_eq_true,if_false];exact⟨λ_ _=>trivial,d _ (Below.refl _ _)⟩
theorem QY.of_same{C:LZ}{o:Oper}{v:Value}{a b:Act}(c:QY P ops C o v a)(e:execOp b.eval o=execOp a.eval o)
  (d:Region.wanted o (yielded ops b.tmps)=Region.wanted o (yielded ops a.tmps)):QY P ops C o v b:=by
 grind[QY]
theorem Xv{r:Option Nat}{j:Nat}{g i:Oper}{v:Value}(J:ops[j]? =some i)(F:g.apart ops i=true)
  (y:∀cs b,g.op≠.select cs b) (D:∀cs b,i.op≠.select cs b) (E:∀c,i.op≠.defer c)
  (H:∀c a w,Q (.panic c) (a.put g.dst v) w->Q (.panic c) a w) {Y:Act->Prop}
  (G:∀a s,Y a->execOp s.eval g=execOp a.eval g->Region.wanted g (yielded ops s.tmps)=Region.wanted g (yielded ops a.tmps)->Y s) {K:Act->World->Prop} {a:Act} {w:World}
  (k:Y a) (h:wpOpIn (FF r) 0 P ops Q j K (a.put g.dst v) w):
  wpOpIn (FF r) 0 P ops Q j (λs B=>Y s/\K (s.put g.dst v) B) a w:=by
 obtain⟨I,o,z⟩:=Oper.apart_spec F
 have keep:∀(a:Act),Y a->∀u,Y (a.put i.dst u):=λa k u=>
  G _ _ k (execOp_put g y a i.dst u z) (wanted_put g a i.dst u z)
 unfold wpOpIn at *
 simp only[J]at *
 rw[wanted_put i a g.dst v I]at h
 split
 ·rename_i C
  simp only[C,if_true]at h
  refine⟨λ_ _=>trivial,?_⟩
  have h:=h.2
  rw[Oper.semAt_eq _ _ _ E]at h⊢
  rw[execOp_put i D a g.dst v I]at h
  generalize (execOp a.eval i).run P w=r at *
  cases r with
  |ok n B=>
   cases n<;>simp only[Oper.uponIn]at h⊢
   case value u=>exact⟨keep a k u,by rw[<-Act.put_comm a v u o];exact h⟩
   case skip=>exact⟨keep a k _,by rw[<-Act.put_comm a v undef o];exact h⟩
   case defer d=>
    refine⟨G _ _ (G _ _ k rfl rfl:Y { a with defers:=d::a.defers }) (execOp_put g y _ i.dst undef z) (wanted_put g _ i.dst undef z),?_⟩
    rw[<-Act.put_comm _ v undef o,<-Act.put_defers]
    exact h
   case enter f args=>
    refine⟨h.1,CallsIn.mono h.2 λe t m=>?_⟩
    cases e with
    |returned u=>exact⟨keep a k u,by rw[<-Act.put_comm a v u o];exact m⟩
    |panicked c=>exact H _ _ _ m
    |outgrown=>exact m
   case row row args=>exact⟨h.1,RowsIn.mono h.2 λu t m=>⟨keep a k u,by rw[<-Act.put_comm a v u o];exact m⟩⟩
   case round l f tmps assign body=>
    refine⟨h.1,RoundIn.mono h.2 λe t m=>?_⟩
    cases e with
    |returned u=>exact⟨keep a k u,by rw[<-Act.put_comm a v u o];exact m⟩
    |panicked c=>exact H _ _ _ m
    |outgrown=>exact m
  |halt x B=>
   cases x<;>simp only[Oper.uponIn]at h⊢
   grind
 rename_i C
 simp only[C]at h
 exact⟨λ_ _=>trivial,keep a k _,by rw[<-Act.put_comm a v undef o];exact h.2⟩
def AC(A:Nat->Bool)(r:Option Nat)(P:Program)(md:Region.Mode)(ops:Array Oper)(Q:Exit->Act->World->Prop)(J I:LZ):Nat->Bool->Array Bool->Act->LZ->Prop
 |0,_,listed,a,C=>∀w,C w->Region.ready md ops listed=[]/\Q .normal a w
 |fuel+1,g,listed,a,C=>∀w,C w->(Region.ready md ops listed=[]->Q .normal a w)/\
  ∀i∈Region.ready md ops listed,wpOpIn (FF r) 0 P ops Q i (λa' w'=>∃C':LZ,Lu C'/\(∀x,C' x->I x)/\((g&&A i)=true->∀x,C' x->J x)/\C' w'/\AC A r P md ops Q J I fuel (g&&A i) (listed.setIfInBounds i true) a' C') a w
theorem AC.any{A:Nat->Bool}{r:Option Nat}{J I:LZ}:∀(fuel:Nat)(g:Bool)(b:Array Bool)(a:Act)(C:LZ)(w:World),C w->AC A r P md ops Q J I fuel g b a C->wpAnyIn (FF r) 0 P md ops Q fuel b a w
 |0,_,_,_,_,w,c,h=>h w c
 |fuel+1,_,_,_,_,w,c,h=>⟨(h w c).1,λi e=>wpOpIn_mono (λk d ⟨l,_,_,_,j,f⟩=>AC.any fuel _ _ k l d j f) ((h w c).2 i e)⟩
theorem AC.mono{A:Nat->Bool}{r:Option Nat}{J k I l:LZ}(f:∀w,k w->J w)(j:∀w,l w->I w):∀(fuel:Nat)(g:Bool)(b:Array Bool)(a:Act)(C:LZ),AC A r P md ops Q k l fuel g b a C->AC A r P md ops Q J I fuel g b a C
 |0,_,_,_,_,h=>h
 |fuel+1,_,_,_,_,h=>λw e=>⟨(h w e).1,λi n=>wpOpIn_mono (λz B ⟨m,y,u,d,t,s⟩=>⟨m,y,λx c=>j x (u x c),λo x c=>f x (d o x c),t,AC.mono f j fuel _ _ z m s⟩) ((h w e).2 i n)⟩
def HS(md:Region.Mode)(ops:Array Oper):Nat->Nat->Nat->Bool
 |0,_,_=>false
 |f+1,j,i=>match ops[j]? with
  |some oj=>oj.after.toList.any λe=>Region.binds md e&&(Nat.beq e.on i||HS md ops f e.on i)
  |none=>false
def Shut(md:Region.Mode)(ops:Array Oper)(listed:Array Bool):Prop:=∀j oj,ops[j]? =some oj->listed.getD j false=true->∀e∈oj.after,Region.binds md e=true->listed.getD e.on false=true
theorem wJv{a:Array Bool}{i:Nat}(h:a.getD i false=true):a.getD i true=true:=by
 grind
theorem Shut.none(n:Nat):Shut md ops (Array.replicate n false):=λj _ _ h=>by
 rcases Nat.lt_or_ge j n with a|a<;>simp[a]at h
theorem Shut.set{a:Array Bool}{i:Nat}(h:Shut md ops a)(n:i∈Region.ready md ops a):Shut md ops (a.setIfInBounds i true):=λj m g f e k l=>by
 refine getD_set_true ?_
 by_cases b:i=j
 ·subst b
  obtain⟨_,o,d,c⟩:=mem_ready.1 n
  rw[g]at d;cases d
  exact c e k l
 rw[getD_set_ne false b]at f
 exact h j m g f e k l
theorem Shut.reach{a:Array Bool}(h:Shut md ops a){i:Nat}:∀(f j:Nat),HS md ops f j i=true->(∀d,ops[j]? =some d->∀e∈d.after,Region.binds md e=true->a.getD e.on false=true)->a.getD i false=true
 |0,_,b,_=>by cases b
 |f+1,j,b,c=>by
  unfold HS at b
  split at b
  ·rename_i d r
   obtain⟨e,s,g⟩:=List.any_eq_true.1 b
   rw[Bool.and_eq_true,Bool.or_eq_true]at g
   have n:=c d r e (by simpa using s) g.1
   rcases g.2 with m|m
   ·rw [<-Nat.eq_of_beq_eq_true m];exact n
   exact h.reach f e.on m λok o t k l=>h e.on ok o n t k l
  grind
theorem AC.first{A:Nat->Bool}{r:Option Nat}{J I:LZ}{i:Nat}{L:Oper}{v:Value}(u:Bool)(hi:ops[i]? =some L)(N:∀(j:Nat)(o:Oper) cs b,ops[j]? =some o->o.op≠.select cs b)(ae:∀(j:Nat)(o:Oper) c,ops[j]? =some o->o.op≠.defer c)
  (hQ:∀c a w,Q (.panic c) (a.put L.dst v) w->Q (.panic c) a w) (hA:A i=true)
  (hB:u=true->∀j,j<ops.size->A j=false->HS md ops ops.size j i=true):
  ∀(l:Nat)(g:Bool)(d:Array Bool)(a:Act)(C:LZ),(u=true->g=true)->((∀j,A j=true)\/Shut md ops d)->
   (∀j K,ops[j]? =some K->j≠i->d.getD j true=false->(∀e∈K.after,Region.binds md e=true->e.on≠i)->L.apart ops K=true)->
   i∈Region.ready md ops d->QY P ops (if u then J else I) L v a->Lu C->(∀w,C w->I w)->(g=true->∀w,C w->J w)->
   AC A r P md ops Q J I l g (d.setIfInBounds i true) (a.put L.dst v) C->AC A r P md ops Q J I (l+1) g d a C:=by
 have z:∀(g:Bool)(C:LZ),(u=true->g=true)->(∀w,C w->I w)->(g=true->∀w,C w->J w)->∀w,C w->(if u then J else I) w:=λg C s n m w hw=>by
  cases hu:u with
  |false=>simpa using n w hw
  |true=>simpa using m (s hu) w hw
 intro l
 induction l with
 |zero=>
  intro g d a C s _ _ O hy E n m H w hC
  refine⟨λh=>(by rw[h]at O;cases O),λj hj=>?_⟩
  by_cases f:j=i
  ·subst f
   rw[hA,Bool.and_true]
   exact hy.wpOp hi (z g C s n m w hC) λ_ hb=>⟨C,E,n,m,E _ _ hC hb,H⟩
  have:=ready_mono hj f
  rw[(H w hC).1]at this
  cases this
 |succ l ih=>
  intro g d a C s X D O hy E n m H w hC
  refine⟨λh=>(by rw[h]at O;cases O),λj hj=>?_⟩
  by_cases f:j=i
  ·subst f
   rw[hA,Bool.and_true]
   exact hy.wpOp hi (z g C s n m w hC) λ_ hb=>⟨C,E,n,m,E _ _ hC hb,H⟩
  have F:=(H w hC).2 j (ready_mono hj f)
  obtain⟨R,K,t,T⟩:=mem_ready.1 hj
  have Z:∀e∈K.after,Region.binds md e=true->e.on≠i:=λe he hb ag=>by
   have F:=T e he hb
   have h0:=(mem_ready.1 O).1
   rw[ag]at F
   rcases Nat.lt_or_ge i d.size with h'|h'
   ·simp [h']at h0 F;rw[h0]at F;cases F
   simp[Array.getElem?_eq_none h']at F
  have h2:=Xv t (D j K t f R Z) (λcs b=>N i L cs b hi) (λcs b=>N j K cs b t) (λc=>ae j K c t) hQ (Y:=QY P ops (if u then J else I) L v) (λ_ _ y e1 e2=>y.of_same e1 e2) hy F
  have G:∀k ok,ops[k]? =some ok->k≠i->(d.setIfInBounds j true).getD k true=false->
    (∀e∈ok.after,Region.binds md e=true->e.on≠i)->L.apart ops ok=true:=λk ok hk af V ad=>by
   refine D k ok hk af ?_ ad
   by_cases aa:j=k
   ·subst aa;exact R
   rw[getD_set_ne true aa]at V;exact V
  refine wpOpIn_mono (λa' w' h3=>?_) h2
  obtain⟨ab,C',S,M,B,ac,ah⟩:=h3
  have W:u=true->(g&&A j)=true:=λhu=>by
   rw[s hu,Bool.true_and]
   cases U:A j with
   |true=>rfl
   |false=>
    have hS:=X.resolve_left λh=>by rw[h j]at U;cases U
    have F:=wJv (hS.reach ops.size j (hB hu j (Array.getElem?_eq_some_iff.1 t).1 U) λo ho=>by rw[t]at ho;cases ho;exact T)
    rw[(mem_ready.1 O).1]at F;cases F
  refine⟨C',S,M,B,ac,ih _ (d.setIfInBounds j true) a' C' W (X.imp id λh=>h.set hj) G (ready_mono O (Ne.symm f)) ab S M B ?_⟩
  rw[Array.setIfInBounds_comm _ _ f]
  exact ah
theorem AC.alone{A:Nat->Bool}{r:Option Nat}{J I:LZ}{i:Nat}{c:Nat}{g:Bool}{b:Array Bool}{a:Act}{C:LZ}(e:Region.ready md ops b=[i])
  (h:∀w,C w->wpOpIn (FF r) 0 P ops Q i (λm l=>∃d:LZ,Lu d/\(∀x,d x->I x)/\((g&&A i)=true->∀x,d x->J x)/\d l/\AC A r P md ops Q J I c (g&&A i) (b.setIfInBounds i true) m d) a w):AC A r P md ops Q J I (c+1) g b a C:=
 λw hC=>⟨λk=>(by rw[e]at k;cases k),λj f=>(by rw[e]at f;rw[List.mem_singleton.1 f];exact h w hC)⟩
theorem AC.done{A:Nat->Bool}{r:Option Nat}{J I:LZ}{g:Bool}{b:Array Bool}{a:Act}{C:LZ}(d:Region.ready md ops b=[])(h:∀w,C w->Q .normal a w):∀c,AC A r P md ops Q J I c g b a C
 |0=>λw hC=>⟨d,h w hC⟩
 |_+1=>λw hC=>⟨λ_=>h w hC,(by rw[d];intro i e;cases e)⟩
end
def upd(d:Option Nat)(v:Value)(F:Fr):Fr:=match d with|some d=>(d,v)::F|none=>F
def GX(N:Fs)(o:Oper):Bool:=match o.dst with|some d=>Nat.blt d N.n|none=>true
variable{o:Oper}
theorem Has.upd(h:Has N F a)(b:GX N o=true)(v:Value):Has N (upd o.dst v F) (a.put o.dst v):=by
 unfold GX at b
 cases c:o.dst with
 |none=>exact h
 |some d=>rw[c]at b;exact h.put (by simpa [Nat.blt_eq]using b) v
structure Ph where
 A:Nat->Bool:=λ_=>true
 U:Nat->Bool:=λ_=>true
def JO(p:Ph)(P:Program)(ops:Array Oper)(N:Fs)(Q:Exit->Act->World->Prop):List (Nat×Bool)->Bool->Fr->LZ->LZ->LZ->Prop
 |[],_,F,_,_,C=>∀a w,Has N F a->C w->Q .normal a w
 |(i,q)::rest,g,F,J,I,C=>∃o,ops[i]? =some o/\GX N o=true/\Lu C/\(∀w,C w->I w)/\(g=true->∀w,C w->J w)/\
  match q with
  |true=>p.A i=true/\(p.U i=true->g=true)/\∃v,(∀a,Has N F a->QY P ops (if p.U i then J else I) o v a)/\JO p P ops N Q rest g (upd o.dst v F) J I C
  |false=>(∀a w,Has N F a->C w->Region.wanted o (yielded ops a.tmps)=true/\
    o.wpIn (FF N.r) 0 P a w (λa' w'=>∃v,a'=a.put o.dst v/\∃(J' I' C':LZ),Lu C'/\(∀x,C' x->I' x)/\(∀x,I' x->I x)/\((g&&p.A i)=true->∀x,C' x->J' x)/\(∀x,J' x->J x)/\C' w'/\JO p P ops N Q rest (g&&p.A i) (upd o.dst v F) J' I' C') Q)\/
    ((∀a,Has N F a->Region.wanted o (yielded ops a.tmps)=false)/\JO p P ops N Q rest (g&&p.A i) (upd o.dst undef F) J I C)
def ES(ops:Array Oper):Bool:=ops.all λo=>match o.op with|.defer _=>false|_=>true
variable{ops:Array Oper}
theorem Ki(h:ES ops=true)(j:Nat)(o:Oper)(c:Call)(a:ops[j]? =some o):o.op≠.defer c:=by
 intro b
 have:=Array.all_eq_true_iff_forall_mem.1 h o (Array.mem_of_getElem? a)
 grind
def K0(p:Ph)(ops:Array Oper):Bool:=(List.range ops.size).all λi=> !p.U i||(List.range ops.size).all λj=>p.A j||HS .any ops ops.size j i
variable{i:Nat}
theorem SR{p:Ph}(h:K0 p ops=true)(a:i<ops.size)(d:p.U i=true)(j:Nat)(c:j<ops.size)(b:p.A j=false):HS .any ops ops.size j i=true:=by
 have e:=List.all_eq_true.1 h i (List.mem_range.2 a)
 grind
theorem U2(a:Array Oper):K0 {} a=true:=by simp[K0]
def DY(ops:Array Oper):List (Nat×Bool)->Array Bool->Bool
 |[],listed=>(Region.ready .any ops listed).isEmpty
 |(i,true)::rest,listed=>(Region.ready .any ops listed).contains i&&Region.free .any ops listed i&&DY ops rest (listed.setIfInBounds i true)
 |(i,false)::rest,listed=>(Region.ready .any ops listed==[i])&&DY ops rest (listed.setIfInBounds i true)
section
variable{P:Program}{ops:Array Oper}{Q:Exit->Act->World->Prop}{N:Fs}
theorem JO.toAC{p:Ph}(hs:(Region.noSelect ops&&ES ops)=true)(k:K0 p ops=true)(H:∀c d v a w,Q (.panic c) (a.put d v) w->Q (.panic c) a w):∀(l:List (Nat×Bool))(g:Bool)(b:Array Bool)(F:Fr)(J I C:LZ)(a:Act),
  Shut .any ops b->DY ops l b=true->JO p P ops N Q l g F J I C->Has N F a->AC p.A N.r P .any ops Q J I l.length g b a C
 |[],g,b,F,J,I,C,a,_,e,h,m=>AC.done (by simpa [DY]using e) (λw hC=>h a w m hC) 0
 |(i,true)::f,g,b,F,J,I,C,a,j,e,h,m=>by
  obtain⟨o,z,G,t,y,u,B,V,v,n,s⟩:=h
  simp only[DY,Bool.and_eq_true]at e
  exact AC.first (p.U i) z (Region.noSelect_spec (Bool.and_eq_true _ _▸hs).1) (Ki (Bool.and_eq_true _ _▸hs).2) (λc a w=>H c _ _ a w) B (λB=>SR k (Array.getElem?_eq_some_iff.1 z).1 B)
   f.length g b a C V (.inr j) (Region.free_spec z e.1.2) (by simpa using e.1.1) (n a m) t y u
   (JO.toAC hs k H f _ _ _ J I C _ (j.set (by simpa using e.1.1)) e.2 s (m.upd G v))
 |(i,false)::f,g,b,F,J,I,C,a,j,e,h,m=>by
  obtain⟨o,z,G,t,y,u,n⟩:=h
  simp only[DY,Bool.and_eq_true,beq_iff_eq]at e
  refine AC.alone e.1 λw hC=>?_
  rcases n with n|⟨M,n⟩
  ·obtain ⟨M,L⟩:=n a w m hC
   unfold wpOpIn
   simp only[z,M,if_true]
   refine Oper.wpIn_mono (λa' w' S=>?_) L
   obtain⟨v,rfl,J',I',R,Z,Y,E,O,D,X,W⟩:=S
   exact⟨R,Z,λx K=>E x (Y x K),λB x K=>D x (O B x K),X,AC.mono D E _ _ _ _ _ (JO.toAC hs k H f _ _ _ J' I' R _ (j.set (by rw[e.1];simp)) e.2 W (m.upd G v))⟩
  unfold wpOpIn
  simp only[z,M a m,Bool.false_eq_true,if_false]
  exact⟨λ_ _=>trivial,C,t,y,λT=>u (by simpa using (Bool.and_eq_true _ _▸T).1),hC,JO.toAC hs k H f _ _ _ J I C _ (j.set (by rw[e.1];simp)) e.2 n (m.upd G _)⟩
end
set_option maxRecDepth 8000
abbrev pB(b:Nat):Value:=.pointer (some ⟨b,0,none⟩)
abbrev cE(l:List Value)(t:TypeId):Obj:=.cells l.toArray t (0,0)
abbrev Mem:=Nat->Option Obj
abbrev Lc:=List (Nat×Obj)
structure Ent where
 W:World
 X:List Nat
 M0:Mem
structure St(E:Ent)(M:Mem)(L:Lc)(w:World):Prop where
 os:w.os=E.W.os
 tape:w.tape=E.W.tape
 output:w.output=E.W.output
 size:E.W.heap.size<=w.heap.size
 same:∀k,k<E.W.heap.size->k∉E.X->w.heap[k]? =E.W.heap[k]?
 fresh:∀k,k<E.W.heap.size->M k=E.M0 k
 agree:∀b o,M b=some o->w.heap[b]? =some o
 locs:∀p∈L,w.heap[p.1]? =some p.2/\(E.W.heap.size<=p.1\/p.1∈E.X)/\M p.1=none
 nodup:(L.map (·.1)).Nodup
structure Js(M:Mem)(L:Lc)(w:World):Prop where
 agree:∀b o,M b=some o->w.heap[b]? =some o
 locs:∀p∈L,w.heap[p.1]? =some p.2
variable{b:Nat}{o:Obj}
theorem BL{w:World}(h:w.heap[b]? =some o):b<w.heap.size:=(Array.getElem?_eq_some_iff.1 h).1
theorem St.closed(E:Ent)(M:Mem)(L:Lc):Lu (St E M L):=λw g h a=>
 {os:=a.os.trans h.os,tape:=a.tape.trans h.tape,output:=a.output.trans h.output,size:=Nat.le_trans h.size a.size
  same:=λk d f=>(a.block k (Nat.lt_of_lt_of_le d h.size)).trans (h.same k d f)
  fresh:=h.fresh
  agree:=λb o e=>by rw[a.block b (BL (h.agree b o e))];exact h.agree b o e
  locs:=λp c=>⟨by rw[a.block p.1 (BL (h.locs p c).1)];exact(h.locs p c).1,(h.locs p c).2⟩
  nodup:=h.nodup }
variable{E:Ent}{L:Lc}{M:Mem}
theorem St.js{w:World}(h:St E M L w):Js M L w:=⟨h.agree,λp a=>(h.locs p a).1⟩
def MLe(M M':Mem):Prop:=∀b o,M b=some o->M' b=some o
theorem MLe.refl(M:Mem):MLe M M:=λ_ _ h=>h
theorem MLe.trans{M' a:Mem}(h:MLe M M')(k:MLe M' a):MLe M a:=λb o x=>k b o (h b o x)
variable{L':Lc}
theorem Js.sub{M':Mem}(c:MLe M M')(d:∀p∈L,p∈L'){w:World}(h:Js M' L' w):Js M L w:=⟨λb o x=>h.agree b o (c b o x),λp a=>h.locs p (d p a)⟩
theorem St.fewer{w:World}(h:St E M L w)(hs:L'.Sublist L):St E M L' w:=
 {h with locs:=λp a=>h.locs p (hs.subset a),nodup:=h.nodup.sublist (hs.map _) }
theorem St.perm{w:World}(h:St E M L w)(hs:L.Perm L'):St E M L' w:=
 {h with locs:=λp a=>h.locs p (hs.mem_iff.2 a),nodup:=(hs.map _).nodup_iff.1 h.nodup }
def Mem.set(M:Mem)(g:Nat)(o:Obj):Mem:=λb=>if b=g then some o else M b
variable{g:Nat}
theorem Mem.le_set(h:M g=none):MLe M (M.set g o):=λb x a=>by
 unfold Mem.set;split
 ·rename_i e;subst e;rw[h]at a;cases a
 exact a
variable{M0:Mem}{W:World}{X:List Nat}
theorem St.freeze{w:World}(h:St ⟨W,X,M0⟩ M ((g,o)::L) w)(l:g∉X):St ⟨W,X,M0⟩ (M.set g o) L w/\MLe M (M.set g o):=by
 have c:=h.locs (g,o) (by simp)
 have m:W.heap.size<=g:=c.2.1.resolve_right l
 refine⟨{ h with fresh:=λk i=>?_,agree:=λb x d=>?_,locs:=λp f=>?_,nodup:=(List.nodup_cons.1 h.nodup).2 },Mem.le_set c.2.2⟩
 ·have j:k<W.heap.size:=i
  have:k≠g:=λe=>by omega
  rw[<-h.fresh k i];simp[Mem.set,this]
 ·unfold Mem.set at d;split at d
  ·grind
  exact h.agree b x d
 have a:=h.locs p (List.mem_cons_of_mem _ f)
 refine⟨a.1,a.2.1,?_⟩
 have:p.1≠g:=λe=>(List.nodup_cons.1 h.nodup).1 (by rw[<-e];exact List.mem_map.2 ⟨p,f,rfl⟩)
 grind[Mem.set]
section
variable(P:Program)(ops:Array Oper)(N:Fs)
def QF(F:Fr)(M:Mem)(L:Lc)(o:Oper)(v:Value):Prop:=∀a,Has N F a->QY P ops (Js M L) o v a
def HF(F:Fr)(E:Ent)(M:Mem)(L:Lc)(o:Oper)(K:Value->Mem->Lc->Prop):Prop:=∀a w,Has N F a->St E M L w->
 Region.wanted o (yielded ops a.tmps)=true/\∀Q,o.wpIn (FF N.r) 0 P a w (λa' w'=>∃v M' L',a'=a.put o.dst v/\St E M' L' w'/\K v M' L') Q
def JL(Q:Exit->Act->World->Prop)(l:List Oper)(F:Fr)(E:Ent)(M:Mem)(L:Lc):Prop:=∀a w,Has N F a->St E M L w->wpListIn (FF N.r) 0 P ops Q l a w
def JD(p:Ph)(Mw:Mem)(Lw:Lc)(Q:Exit->Act->World->Prop)(l:List (Nat×Bool))(F:Fr)(E:Ent)(M:Mem)(L:Lc)(Mi:Mem)(Li:Lc):Prop:=
 MLe Mi M->(∀p∈Li,p∈L)->MLe Mw Mi->(∀p∈Lw,p∈Li)->JO p P ops N Q l true F (Js Mi Li) (Js Mw Lw) (St E M L)
def JE(p:Ph)(Mw:Mem)(Lw:Lc)(Q:Exit->Act->World->Prop)(l:List (Nat×Bool))(F:Fr)(E:Ent)(M:Mem)(L:Lc):Prop:=
 MLe Mw M->(∀p∈Lw,p∈L)->∀J,JO p P ops N Q l false F J (Js Mw Lw) (St E M L)
end
def JC(P:Program)(N:Fs)(c:Code)(F:Fr)(E:Ent)(M:Mem)(L:Lc)(Q:Exit->Act->World->Prop):Prop:=∀a w,Has N F a->St E M L w->c.wpIn (FF N.r) 0 P Q a w
def JQ(N:Fs)(e:Exit)(F:Fr)(E:Ent)(M:Mem)(L:Lc)(Q:Exit->Act->World->Prop):Prop:=∀a w,Has N F a->St E M L w->Q e a w
section
variable{P:Program}{ops:Array Oper}{N:Fs}{Q:Exit->Act->World->Prop}{F F':Fr}{E:Ent}{M:Mem}{L:Lc}
theorem Am(h:JQ N .normal F E M L Q):JL P ops N Q [] F E M L:=h
theorem Kn{o:Oper}{b:List Oper}{v:Value}{d:Nat}(i:o.dst=some d)(s:Nat.blt d N.n=true)(l:QF P ops N F M L o v)(h:JL P ops N Q b ((d,v)::F) E M L):JL P ops N Q (o::b) F E M L:=by
 intro a w g f
 have j:=l a g
 have e:d<N.n:=by simp_all
 unfold wpListIn
 rcases j with⟨c,k⟩|⟨c,rfl⟩
 ·rw [if_pos c]
  exact(k w f.js).wp λr m=>by rw[i];exact h _ _ (g.put e v) (St.closed _ _ _ _ _ f m)
 rw[c]
 simp only[Bool.false_eq_true,if_false]
 rw[i];exact⟨λ_ _=>trivial,h _ _ (g.put e _) f⟩
theorem Fy{o:Oper}{b:List Oper}{K:Value->Mem->Lc->Prop}{d:Nat}(k:o.dst=some d)(t:Nat.blt d N.n=true)(j:HF P ops N F E M L o K)(h:∀v M' L',K v M' L'->JL P ops N Q b ((d,v)::F) E M' L'):JL P ops N Q (o::b) F E M L:=by
 intro a w e f
 obtain⟨r,m⟩:=j a w e f
 have c:d<N.n:=by simp_all
 unfold wpListIn
 rw[if_pos r]
 refine Oper.wpIn_mono (λu s i=>?_) (m Q)
 obtain⟨v,M',L',rfl,g,l⟩:=i
 rw[k]
 exact h v M' L' l _ _ (e.put c v) g
theorem Dz{o:Oper}{b:List Oper}{K:Value->Mem->Lc->Prop}(i:o.dst=none)(g:HF P ops N F E M L o K)(h:∀v M' L',K v M' L'->JL P ops N Q b F E M' L'):JL P ops N Q (o::b) F E M L:=by
 intro a w c d
 obtain⟨l,k⟩:=g a w c d
 unfold wpListIn
 rw[if_pos l]
 refine Oper.wpIn_mono (λn m f=>?_) (k Q)
 obtain⟨v,M',L',rfl,e,j⟩:=f
 rw[i]
 exact h v M' L' j _ _ c e
theorem Re{b:List Oper}{M':Mem}{L':Lc}(c:∀w,St E M L w->St E M' L' w)(h:JL P ops N Q b F E M' L'):JL P ops N Q b F E M L:=λa w e d=>h a w e (c w d)
variable{Mi Mw:Mem}{Li Lw:Lc}{p:Ph}
theorem wBu(h:JQ N .normal F E M L Q):JD P ops N p Mw Lw Q [] F E M L Mi Li:=λ_ _ _ _=>h
theorem Tk{i:Nat}{b:List (Nat×Bool)}{o:Oper}{v:Value}{d:Nat}(m:ops[i]? =some o)(k:o.dst=some d)(t:Nat.blt d N.n=true)
  (l:QF P ops N F Mi Li o v) (h:JD P ops N p Mw Lw Q b ((d,v)::F) E M L Mi Li) (u:p.A i=true:=by rfl) (s:p.U i=true:=by rfl):JD P ops N p Mw Lw Q ((i,true)::b) F E M L Mi Li:=λe f g j=>
 ⟨o,m,by unfold GX;rw[k];exact t,St.closed _ _ _,λ_ c=>(c.js.sub e f).sub g j,λ_ _ c=>c.js.sub e f,u,λ_=>rfl,v,λa r=>by rw[if_pos s];exact l a r,by rw[k];exact h e f g j⟩
theorem Vr{i:Nat}{b:List (Nat×Bool)}{o:Oper}{v:Value}{d:Nat}(m:ops[i]? =some o)(k:o.dst=some d)(t:Nat.blt d N.n=true)
  (l:QF P ops N F Mw Lw o v) (h:JD P ops N p Mw Lw Q b ((d,v)::F) E M L Mi Li) (u:p.A i=true:=by rfl) (s:p.U i=false:=by rfl):JD P ops N p Mw Lw Q ((i,true)::b) F E M L Mi Li:=λe f g j=>
 ⟨o,m,by unfold GX;rw[k];exact t,St.closed _ _ _,λ_ c=>(c.js.sub e f).sub g j,λ_ _ c=>c.js.sub e f,u,λ_=>rfl,v,λa r=>by rw[s];exact l a r,by rw[k];exact h e f g j⟩
theorem Le{i:Nat}{a:List (Nat×Bool)}{o:Oper}{v:Value}{d:Nat}(c:ops[i]? =some o)(e:o.dst=some d)(g:Nat.blt d N.n=true)
  (b:∀M L,QF P ops N F M L o v) (h:JD P ops N p Mw Lw Q a ((d,v)::F) E M L Mi Li) (j:p.A i=true:=by rfl):JD P ops N p Mw Lw Q ((i,true)::a) F E M L Mi Li:=by
 cases f:p.U i
 ·exact Vr c e g (b _ _) h j f
 exact Tk c e g (b _ _) h j f
theorem DA{i:Nat}{e:List (Nat×Bool)}{o:Oper}{K:Value->Mem->Lc->Prop}{d:Nat}(D:ops[i]? =some o)(u:o.dst=some d)(J:Nat.blt d N.n=true)
  (H:HF P ops N F E M L o K)
  (h:∀v M' L',K v M' L'->∃b c,MLe Mi b/\MLe b M'/\(∀p∈Li,p∈c)/\(∀p∈c,p∈L')/\JD P ops N p Mw Lw Q e ((d,v)::F) E M' L' b c) (R:p.A i=true:=by rfl):JD P ops N p Mw Lw Q ((i,false)::e) F E M L Mi Li:=λy z j k=>
 ⟨o,D,by unfold GX;rw[u];exact J,St.closed _ _ _,λ_ g=>(g.js.sub y z).sub j k,λ_ _ g=>g.js.sub y z,.inl λa w I g=>by
  obtain⟨T,S⟩:=H a w I g
  refine⟨T,Oper.wpIn_mono (λV U G=>?_) (S Q)⟩
  obtain⟨v,M',L',rfl,C,O⟩:=G
  obtain⟨b,c,s,r,m,l,B⟩:=h v M' L' O
  refine⟨v,rfl,Js b c,Js Mw Lw,St E M' L',St.closed _ _ _,λ_ f=>(f.js.sub r l).sub (j.trans s) (λp t=>m p (k p t)),λ_ f=>f,λ_ _ f=>f.js.sub r l,λ_ f=>f.sub s m,C,?_⟩
  rw[u,R];exact B r l (j.trans s) (λp t=>m p (k p t))⟩
theorem Df{i:Nat}{d:List (Nat×Bool)}{o:Oper}{K:Value->Mem->Lc->Prop}(B:ops[i]? =some o)(s:o.dst=none)
  (D:HF P ops N F E M L o K)
  (h:∀v M' L',K v M' L'->∃b c,MLe Mi b/\MLe b M'/\(∀p∈Li,p∈c)/\(∀p∈c,p∈L')/\JD P ops N p Mw Lw Q d F E M' L' b c) (I:p.A i=true:=by rfl):JD P ops N p Mw Lw Q ((i,false)::d) F E M L Mi Li:=λt u g j=>
 ⟨o,B,by unfold GX;rw[s],St.closed _ _ _,λ_ f=>(f.js.sub t u).sub g j,λ_ _ f=>f.js.sub t u,.inl λa w G f=>by
  obtain⟨O,J⟩:=D a w G f
  refine⟨O,Oper.wpIn_mono (λS R C=>?_) (J Q)⟩
  obtain⟨v,M',L',rfl,z,H⟩:=C
  obtain⟨b,c,n,m,l,k,y⟩:=h v M' L' H
  refine⟨v,rfl,Js b c,Js Mw Lw,St E M' L',St.closed _ _ _,λ_ e=>(e.js.sub m k).sub (g.trans n) (λp r=>l p (j p r)),λ_ e=>e,λ_ _ e=>e.js.sub m k,λ_ e=>e.sub n l,z,?_⟩
  rw[s,I];exact y m k (g.trans n) (λp r=>l p (j p r))⟩
theorem Ed{i:Nat}{b:List (Nat×Bool)}{o:Oper}{K:Value->Mem->Lc->Prop}(t:ops[i]? =some o)(g:o.dst=none)
  (y:HF P ops N F E M L o K)
  (h:∀v M' L',K v M' L'->MLe Mw M'/\(∀p∈Lw,p∈L')/\JE P ops N p Mw Lw Q b F E M' L') (l:p.A i=false:=by rfl):JD P ops N p Mw Lw Q ((i,false)::b) F E M L Mi Li:=λj k m n=>
 ⟨o,t,by unfold GX;rw[g],St.closed _ _ _,λ_ d=>(d.js.sub j k).sub m n,λ_ _ d=>d.js.sub j k,.inl λa w z d=>by
  obtain⟨D,C⟩:=y a w z d
  refine⟨D,Oper.wpIn_mono (λH G u=>?_) (C Q)⟩
  obtain⟨v,M',L',rfl,s,B⟩:=u
  obtain⟨f,e,r⟩:=h v M' L' B
  refine⟨v,rfl,Js Mi Li,Js Mw Lw,St E M' L',St.closed _ _ _,λ_ c=>c.js.sub f e,λ_ c=>c,λh=>?_,λ_ c=>c,s,?_⟩
  ·rw [l]at h;cases h
  rw[g,l];exact r f e _⟩
theorem jd_eh{i:Nat}{b:List (Nat×Bool)}{o:Oper}{K:Value->Mem->Lc->Prop}{d:Nat}(y:ops[i]? =some o)(j:o.dst=some d)(D:Nat.blt d N.n=true)
  (B:HF P ops N F E M L o K)
  (h:∀v M' L',K v M' L'->MLe Mw M'/\(∀p∈Lw,p∈L')/\JE P ops N p Mw Lw Q b ((d,v)::F) E M' L') (m:p.A i=false:=by rfl):JD P ops N p Mw Lw Q ((i,false)::b) F E M L Mi Li:=λk l r s=>
 ⟨o,y,by unfold GX;rw[j];exact D,St.closed _ _ _,λ_ e=>(e.js.sub k l).sub r s,λ_ _ e=>e.js.sub k l,.inl λa w C e=>by
  obtain⟨I,H⟩:=B a w C e
  refine⟨I,Oper.wpIn_mono (λO J z=>?_) (H Q)⟩
  obtain⟨v,M',L',rfl,u,G⟩:=z
  obtain⟨g,f,t⟩:=h v M' L' G
  refine⟨v,rfl,Js Mi Li,Js Mw Lw,St E M' L',St.closed _ _ _,λ_ c=>c.js.sub g f,λ_ c=>c,λh=>?_,λ_ c=>c,u,?_⟩
  ·rw [m]at h;cases h
  rw[j,m];exact t g f _⟩
theorem Cp{a:List (Nat×Bool)}{M':Mem}{L':Lc}(g:MLe M M')(i:∀p∈L,p∈L')(e:MLe Mi M)(d:∀p∈Li,p∈L)(h:JD P ops N p Mw Lw Q a F E M' L' Mi Li):
  ∃b c,MLe Mi b/\MLe b M'/\(∀p∈Li,p∈c)/\(∀p∈c,p∈L')/\JD P ops N p Mw Lw Q a F E M' L' b c:=
 ⟨Mi,Li,MLe.refl _,e.trans g,λ_ h=>h,λp f=>i p (d p f),h⟩
theorem Ld(h:JQ N .normal F E M L Q):JE P ops N p Mw Lw Q [] F E M L:=λ_ _ _=>h
theorem Hq{i:Nat}{b:List (Nat×Bool)}{o:Oper}{v:Value}{d:Nat}(l:ops[i]? =some o)(f:o.dst=some d)(r:Nat.blt d N.n=true)
  (k:QF P ops N F Mw Lw o v) (h:JE P ops N p Mw Lw Q b ((d,v)::F) E M L) (s:p.A i=true:=by rfl) (g:p.U i=false:=by rfl):JE P ops N p Mw Lw Q ((i,true)::b) F E M L:=λc e J=>
 ⟨o,l,by unfold GX;rw[f];exact r,St.closed _ _ _,λ_ j=>j.js.sub c e,(λh=>by cases h),s,(λh=>by rw[g]at h;cases h),v,λa m=>by rw[g];exact k a m,by rw[f];exact h c e J⟩
theorem G1{i:Nat}{b:List (Nat×Bool)}{o:Oper}{K:Value->Mem->Lc->Prop}(n:ops[i]? =some o)(g:o.dst=none)
  (s:HF P ops N F E M L o K)
  (h:∀v M' L',K v M' L'->MLe Mw M'/\(∀p∈Lw,p∈L')/\JE P ops N p Mw Lw Q b F E M' L'):JE P ops N p Mw Lw Q ((i,false)::b) F E M L:=λj k J=>
 ⟨o,n,by unfold GX;rw[g],St.closed _ _ _,λ_ d=>d.js.sub j k,(λh=>by cases h),.inl λa w t d=>by
  obtain⟨z,y⟩:=s a w t d
  refine⟨z,Oper.wpIn_mono (λC B r=>?_) (y Q)⟩
  obtain⟨v,M',L',rfl,m,u⟩:=r
  obtain⟨f,e,l⟩:=h v M' L' u
  refine⟨v,rfl,J,Js Mw Lw,St E M' L',St.closed _ _ _,λ_ c=>c.js.sub f e,λ_ c=>c,(λh=>by cases h),λ_ c=>c,m,?_⟩
  rw[g];exact l f e J⟩
theorem Ah{b:Nat}{l:List Oper}(h:JL P l.toArray N Q l F E M L):JC P N (.region b l.toArray false) F E M L Q:=λa w d c=>wpIn_region_lit (h a w d c)
theorem Tl{p:Ph}{o:Nat}{l:List Oper}(b:List (Nat×Bool))(m:Mem)(d n:Lc)(s:P.follows .mixedOrders=true)(hs:(Region.noSelect l.toArray&&ES l.toArray)=true)
  (g:DY l.toArray b (Array.replicate l.length false)=true) (f:K0 p l.toArray=true) (c:b.length=l.length)
  (k:∀p∈d,p∈L) (i:MLe m M) (j:∀p∈n,p∈d) (h:JD P l.toArray N p m n (NoPanic Q) b F E M L M d):JC P N (.region o l.toArray true) F E M L Q:=λa w t r=>by
 refine wpIn_mono (Q:=NoPanic Q) (wpIn_region_any s ?_) NoPanic.imp
 have e:St E M L { w with drawn:=w.drawn+1 }:={ r with }
 have:=AC.any _ _ _ a (St E M L) _ e (JO.toAC (Q:=NoPanic Q) hs f (λ_ _ _ _ _ h=>h) b true (Array.replicate l.length false) F (Js M d) (Js m n) (St E M L) a (Shut.none _) g (h (MLe.refl _) k i j) t)
 rw[c]at this
 simpa using this
theorem WZ{f:Nat}{l:List Oper}(a:List (Nat×Bool))(c:Lc)(g:P.follows .mixedOrders=true)(hs:(Region.noSelect l.toArray&&ES l.toArray)=true)
  (d:DY l.toArray a (Array.replicate l.length false)=true) (b:a.length=l.length)
  (e:∀p∈c,p∈L) (h:JD P l.toArray N {} M c (NoPanic Q) a F E M L M c):JC P N (.region f l.toArray true) F E M L Q:=
 Tl a M c c g hs d (U2 _) b e (MLe.refl _) (λ_ h=>h) h
theorem Ao{x y:Code}(h:JC P N x F E M L (Exit.then (λa w=>y.wpIn (FF N.r) 0 P Q a w) Q)):JC P N (.seq x y) F E M L Q:=λa w c b=>wpIn_seq (h a w c b)
theorem D0(h:JQ N .normal F E M L Q):JC P N .skip F E M L Q:=λa w c b=>wpIn_skip (h a w c b)
theorem Pa{l:Nat}(h:JQ N .normal F E M L Q):JC P N (.label l) F E M L Q:=λa w c b=>wpIn_label (h a w c b)
theorem Bs(h:JQ N .ret F E M L Q):JC P N .ret F E M L Q:=λa w c b=>wpIn_ret (h a w c b)
theorem Kr{i:Nat}(h:JQ N (.exit i) F E M L Q):JC P N (.exit i) F E M L Q:=λa w c b=>wpIn_exit (h a w c b)
theorem Ge{b:Nat}{c:Code}(h:JC P N c F E M L (Exit.inBlock b Q)):JC P N (.block b c) F E M L Q:=λa w e d=>wpIn_block (h a w e d)
theorem GI{c:Operand}{x y:Code}(e:ev F c=some (.bool true))(h:JC P N x F E M L Q):JC P N (.cond c x y) F E M L Q:=λa w b d=>wpIn_cond_true (b.ev e) (h a w b d)
theorem FM{c:Operand}{x y:Code}(e:ev F c=some (.bool false))(h:JC P N y F E M L Q):JC P N (.cond c x y) F E M L Q:=λa w b d=>wpIn_cond_false (b.ev e) (h a w b d)
theorem wJi{c:Code}(k:Keep F F')(h:JC P N c F' E M L Q):JC P N c F E M L Q:=λa w d b=>h a w (d.keep k) b
theorem BU{c:Code}{M':Mem}{L':Lc}(hs:∀w,St E M L w->St E M' L' w)(h:JC P N c F E M' L' Q):JC P N c F E M L Q:=λa w d b=>h a w d (hs w b)
theorem AK{e:Exit}{M':Mem}{L':Lc}(hs:∀w,St E M L w->St E M' L' w)(h:JQ N e F E M' L' Q):JQ N e F E M L Q:=λa w c b=>h a w c (hs w b)
theorem jT{y:Code}(h:JC P N y F E M L Q):JQ N .normal F E M L (Exit.then (λa w=>y.wpIn (FF N.r) 0 P Q a w) Q):=h
theorem wLj{K:Act->World->Prop}(h:JQ N .ret F E M L Q):JQ N .ret F E M L (Exit.then K Q):=h
theorem wLi{K:Act->World->Prop}{i:Nat}(h:JQ N (.exit i) F E M L Q):JQ N (.exit i) F E M L (Exit.then K Q):=h
theorem jB{a:Nat}(h:JQ N .normal F E M L Q):JQ N .normal F E M L (Exit.inBlock a Q):=h
theorem jBr{a:Nat}(h:JQ N .ret F E M L Q):JQ N .ret F E M L (Exit.inBlock a Q):=h
theorem jBx{b:Nat}(h:JQ N .normal F E M L Q):JQ N (.exit b) F E M L (Exit.inBlock b Q):=λa w d c=>by simp only[Exit.inBlock,if_true];exact h a w d c
theorem jBo{b i:Nat}(d:Nat.beq i b=false)(h:JQ N (.exit i) F E M L Q):JQ N (.exit i) F E M L (Exit.inBlock b Q):=λa w f c=>by
 have:i≠b:=λe=>by subst e;simp at d
 simp only[Exit.inBlock,this,if_false];exact h a w f c
theorem wJm(h:JQ N .normal F E M L Q):JQ N .normal F E M L (NoPanic Q):=h
end
section
variable{P:Program}{N:Fs}{Q:Exit->Act->World->Prop}
def Ue{α:Type}(N:Fs)(E:Ent)(Fi:α->Fr)(Mi:α->Mem)(Li:α->Lc)(φ:α->Prop)(μ:α->Nat)(x:α)(a:Act)(w:World):Prop:=
 ∃y,φ y/\μ y<μ x/\Has N (Fi y) a/\St E (Mi y) (Li y) w
theorem Te{p:Nat->Prop}(h:∃n,p n):∃n,p n/\∀k,p k->n<=k:=by
 obtain⟨n,b⟩:=h
 induction n using Nat.strongRecOn with
 |_ n a=>
  grind
theorem wJh{α:Type}{E:Ent}{c:Code}(j:α->Fr)(g:α->Mem)(i:α->Lc)(f:α->Prop)(k:α->Nat)
  (h:∀x,f x->JC P N c (j x) E (g x) (i x) (Exit.then (Ue N E j g i f k x) Q)) (x:α) (K:f x):JC P N (.loop c) (j x) E (g x) (i x) Q:=by
 classical
 intro a w R L
 let I:Act->World->Nat->Prop:=λa w n=>∃x,f x/\Has N (j x) a/\St E (g x) (i x) w/\k x=n
 let m:Act->World->Nat:=λa w=>if h:∃n,I a w n then Classical.choose (Te h)else 0
 have M:∀a w n,I a w n->m a w<=n:=λa w n C=>by
  have u:∃n,I a w n:=⟨n,C⟩
  simp only[m,dif_pos u];exact(Classical.choose_spec (Te u)).2 _ C
 refine wpIn_loop (λa w=>∃n,I a w n) m ⟨_,x,K,R,L,rfl⟩ λa w u=>?_
 have d:I a w (m a w):=by grind
 obtain⟨y,J,t,s,H⟩:=d
 refine wpIn_mono (h y J a w t s) λe F B b=>?_
 cases e with
 |normal=>
  obtain⟨z,G,O,r,o⟩:=b
  have D:I F B (k z):=⟨z,G,r,o,rfl⟩
  exact⟨⟨_,D⟩,by have:=M F B _ D;omega⟩
 |exit S=>exact b
 |goto l=>exact b
 |ret=>exact b
 |panic T=>exact b
 |outgrown=>exact b
theorem wBv{α:Type}{E:Ent}{c:Code}{F:Fr}{M:Mem}{L:Lc}(f:α->Fr)(d:α->Mem)(e:α->Lc)(b:α->Prop)(g:α->Nat)(x:α)(hk:Keep F (f x))(i:b x)(hs:∀w,St E M L w->St E (d x) (e x) w)
  (h:∀x,b x->JC P N c (f x) E (d x) (e x) (Exit.then (Ue N E f d e b g x) Q)):JC P N (.loop c) F E M L Q:=λa w k j=>
 wJh f d e b g h x i a w (k.keep hk) (hs w j)
theorem H1{α:Type}{E:Ent}{F:Fr}{M:Mem}{L:Lc}{g:α->Fr}{e:α->Mem}{f:α->Lc}{d:α->Prop}{a:α->Nat}{x:α}(y:α)(hk:Keep F (g y))(b:d y)(c:a y<a x)
  (hs:∀w,St E M L w->St E (e y) (f y) w):JQ N .normal F E M L (Exit.then (Ue N E g e f d a x) Q):=λ_ w i h=>⟨y,b,c,i.keep hk,hs w h⟩
end
def wMb{α:Type}(N:Fs)(E:Ent)(Fi:α->Fr)(Mi:α->Mem)(Li:α->Lc)(φ:α->Prop)(a:Act)(w:World):Prop:=∃y,φ y/\Has N (Fi y) a/\St E (Mi y) (Li y) w
section
variable{P:Program}{N:Fs}{Q:Exit->Act->World->Prop}
theorem Du{α:Type}{E:Ent}{x y:Code}{F:Fr}{M:Mem}{L:Lc}(g:α->Fr)(d:α->Mem)(f:α->Lc)(c:α->Prop)(h:∀z,c z->JC P N y (g z) E (d z) (f z) Q)
  (j:JC P N x F E M L (Exit.then (wMb N E g d f c) Q)):JC P N (.seq x y) F E M L Q:=λa w m k=>wpIn_seq (wpIn_mono (j a w m k) (λe s i b=>by
 cases e with
 |normal=>obtain⟨z,r,o,n⟩:=b;exact h z r s i o n
 |exit t=>exact b
 |goto l=>exact b
 |ret=>exact b
 |panic u=>exact b
 |outgrown=>exact b))
theorem AS{α:Type}{E:Ent}{F:Fr}{M:Mem}{L:Lc}{e:α->Fr}{c:α->Mem}{d:α->Lc}{b:α->Prop}(y:α)(hk:Keep F (e y))(a:b y)(hs:∀w,St E M L w->St E (c y) (d y) w):JQ N .normal F E M L (Exit.then (wMb N E e c d b) Q):=λ_ w g f=>⟨y,a,g.keep hk,hs w f⟩
end
def SpecL(P:Program)(f:FuncId)(args:Array Value)(M:Mem)(L:Lc)(post:Value->Mem->Lc->Prop):Prop:=
 ∀w,St ⟨w,L.map (·.1),M⟩ M L w->Calls P f args w λe w'=>∃v M' L',e=.returned v/\post v M' L'/\St ⟨w,L.map (·.1),M⟩ M' L' w'
variable{P:Program}{args:Array Value}{f:FuncId}{post:Value->Mem->Lc->Prop}
theorem SpecL.mono{d:Value->Mem->Lc->Prop}(h:SpecL P f args M L post)(hp:∀v M' L',post v M' L'->d v M' L'):SpecL P f args M L d:=
 λw e=>(h w e).mono λ_ _ ⟨v,M',L',a,b,c⟩=>⟨v,M',L',a,hp _ _ _ b,c⟩
def Bq(P:Program)(fn:Func)(E:Ent)(post:Value->Mem->Lc->Prop):Exit->Act->World->Prop:=
 bodyPostM (FF none) 0 P fn λe w'=>∃v M' L',e=.returned v/\post v M' L'/\St E M' L' w'
def Hx:Nat->List Value->Fr
 |_,[]=>[]
 |i,v::vs=>(i,v)::Hx (i+1) vs
theorem MN:∀(vs:List Value)(i t:Nat)(v:Value),lk t (Hx i vs)=some v->i<=t/\vs[t-i]? =some v
 |[],_,_,_,h=>by cases h
 |u::a,i,t,v,h=>by
  unfold Hx lk at h
  cases b:Nat.beq i t
  ·rw [b]at h
   obtain⟨d,c⟩:=MN a (i+1) t v h
   grind
  simp_all
variable{c:Code}{fn:Func}{vs:List Value}
theorem HM(N:Nat)(F:Fr)
  (e:P.funcs[f]? =some fn) (g:fn.body=some c) (j:fn.ntmps=N) (d:Nat.ble vs.length N=true) (i:Hx 0 vs=F)
  (h:∀W,JC P ⟨N,[],none⟩ c F ⟨W,L.map (·.1),M⟩ M L (Bq P fn ⟨W,L.map (·.1),M⟩ post)):SpecL P f vs.toArray M L post:=by
 intro w b
 refine(callsIn_wide (n:=0)).1 (callsIn_of_wp_marks (F:=FF none) e g trivial (h w _ w ⟨?_,rfl,?_⟩ b) rfl)
 ·simp_all
 intro t v a
 rw[<-i]at a
 obtain⟨_,k⟩:=MN vs 0 t v a
 grind
theorem UA(N:Nat)(F:Fr)
  (i:P.funcs[f]? =some fn) (j:fn.body=some c) (l:fn.ntmps=N) (g:Nat.ble vs.length N=true) (k:Hx 0 vs=F)
  (h:∀W,(∀x∈L.map (·.1),x<W.heap.size)->JC P ⟨N,[],none⟩ c F ⟨W,L.map (·.1),M⟩ M L (Bq P fn ⟨W,L.map (·.1),M⟩ post)):SpecL P f vs.toArray M L post:=by
 intro w a
 refine(callsIn_wide (n:=0)).1 (callsIn_of_wp_marks (F:=FF none) i j trivial (h w (λx d=>by obtain⟨p,e,rfl⟩:=List.mem_map.1 d;exact BL (a.locs p e).1) _ w ⟨?_,rfl,?_⟩ a) rfl)
 ·simp_all
 intro t v b
 rw[<-k]at b
 obtain⟨_,m⟩:=MN vs 0 t v b
 grind
variable{d:Nat}
theorem St.shut{j:Obj}{w:World}(h:St E M ((d,o)::L) w):St E M L (w.putObj d j):=by
 have i:=h.locs (d,o) (by simp)
 have f:=List.nodup_cons.1 h.nodup
 refine { h with size:=by simpa using h.size,same:=λk l a=>?_,agree:=λb x a=>?_,locs:=λp g=>?_,nodup:=f.2 }
 ·have:k≠d:=λe=>by subst e;exact i.2.1.elim (λh=>by omega) a
  rw[World.putObj_heap_other this];exact h.same k l a
 ·have:b≠d:=λe=>by subst e;rw[i.2.2]at a;cases a
  rw[World.putObj_heap_other this];exact h.agree b x a
 have c:=h.locs p (List.mem_cons_of_mem _ g)
 have:p.1≠d:=λe=>f.1 (by rw[<-e];exact List.mem_map.2 ⟨p,g,rfl⟩)
 exact⟨by rw[World.putObj_heap_other this];exact c.1,c.2⟩
variable{D:List Deferred}{F:Fr}{n:Nat}
theorem Bi{L2:Lc}(hp:L.Perm ((d,.deferred (some []))::L2))
  (h:JQ ⟨n,D,none⟩ .ret F E M L2 (Bq P fn E post)):JQ ⟨n,d::D,none⟩ .ret F E M L (Bq P fn E post):=by
 intro a w e f
 have b:=f.perm hp
 have g:=(b.locs (d,.deferred (some [])) (by simp)).1
 have:=h { a with defers:=D } (w.putObj d (.deferred none)) ⟨e.size,rfl,e.get⟩ b.shut
 have c:a.defers=K5 d::D:=e.defers
 show LeavesInM _ _ _ _ _ _ a.defers _ _
 rw[c]
 exact⟨by simp,.inl ⟨d,_,rfl,run_takeDeferred g,this⟩⟩
variable{t:Nat}
theorem Gd{v:Value}(e:fn.results=#[.tmp t])(d:lk t F=some v)(h:post v M L):JQ ⟨n,[],none⟩ .ret F E M L (Bq P fn E post):=by
 intro a w b c
 show LeavesInM _ _ _ _ _ _ a.defers _ _
 rw[show a.defers=[]from b.defers]
 refine⟨v,?_,v,M,L,rfl,h,c⟩
 have:=b.get t v d
 simp[results,e,Array.getD_eq_getD_getElem?,this]
theorem wFo{u:Nat}{v x:Value}(f:fn.results=#[.tmp t,.tmp u])(e:lk t F=some v)(c:lk u F=some x)(h:post (.tuple #[v,x]) M L):JQ ⟨n,[],none⟩ .ret F E M L (Bq P fn E post):=by
 intro a w b d
 show LeavesInM _ _ _ _ _ _ a.defers _ _
 rw[show a.defers=[]from b.defers]
 refine⟨_,?_,_,M,L,rfl,h,d⟩
 have i:=b.get t v e
 have g:=b.get u x c
 simp[results,f,Array.getD_eq_getD_getElem?,i,g]
end Go.Proofs.YtdahhoicackcaaaGreat
