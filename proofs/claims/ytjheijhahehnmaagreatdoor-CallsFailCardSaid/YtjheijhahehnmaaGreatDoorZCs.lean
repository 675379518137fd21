/- Walks: package calls: Do. No statement of the seat is proved here. -/
import Derived.Test.YtjheijhahehnmaaGreatDoorZCm
import Derived.Test.YtjheijhahehnmaaGreatDoorZHm
import Derived.Shelf.SortM.SortNone
namespace Go.Proofs.YtjheijhahehnmaaGreatDoor
open Go.Proofs.Tryz
open List (getD length_map)
set_option linter.unusedSimpArgs false
set_option linter.unusedVariables false
set_option linter.unusedSectionVars false
set_option maxHeartbeats 40000000
set_option maxRecDepth 8000
open Go.RowKit
structure Ask where
 kind:Int
 path:List By
 other:List By
 a:Int
 b:Int
 c:Int
 data:List By
structure Rep where
 id:Int
 data:List By
 names:List (List By)
 stat:Ino
abbrev AP:Ino:=⟨0,false,0,0⟩
abbrev Bp:Rep:=⟨0,[],[],AP⟩
abbrev AL:Value:=.slice none 0 0
def NaS(M:Mem)(v:Value)(l:List (List By)):Prop:=∃a c,v=.slice a l.length c/\l.length<=c/\SM M a (Lt l)
variable{M M':Mem}{l:List (List By)}
theorem NaS.mono{v:Value}(h:NaS M v l)(b:MLe M M'):NaS M' v l:=by
 obtain⟨a,c,f,e,d⟩:=h;exact⟨a,c,f,e,d.mono b⟩
theorem NaS.nil:NaS M AL []:=⟨none,0,rfl,Nat.le_refl _,SM.nil⟩
theorem BS.nil0:BS M AL []:=⟨none,0,rfl,Nat.le_refl _,SM.nil⟩
abbrev clc(x:V5)(g r1 n:Int)(q:Ask)(dv:Value)(i:Int)(rd rn:Value)(z:Ino):List Value:=[x.b.v,x.w.v,x.n.v,x.l.v,.int .u32 g,.int .i64 r1,.int .u32 n,x.d.v,.int .u8 q.kind,.string (AD q.path),.string (AD q.other),.int .i64 q.a,.int .i64 q.b,.int .i64 q.c,dv,.int .i64 0,.int .i64 i,rd,rn,.int .u32 z.id,.bool z.dir,.int .i64 z.links,.int .i64 z.size]
abbrev BI(b:Nat)(x:V5)(g r1 n:Int)(q:Ask)(dv:Value)(i:Int)(rd rn:Value)(z:Ino):Nat×Obj:=(b,cE (clc x g r1 n q dv i rd rn z) 61)
def MeR(r:Option (Po×Rep))(q:Ask)(dv:Value)(b:Nat)(u:Value)(M':Mem)(L':Lc):Prop:=∃(y:V5)(g r1 n i e:Int)(rd rn:Value)(z:Ino),u=.int .i64 e/\L'=[BI b y g r1 n q dv i rd rn z]/\Rs r e λo=>PW M' y o.1/\g=o.1.gen/\r1=o.1.root/\n=o.1.next/\i=o.2.id/\BS M' rd o.2.data/\NaS M' rn o.2.names/\z=o.2.stat
variable{b:Nat}{dv rd:Value}{g i:Int}{y:V5}{z:Ino}
theorem MeR.no{r:Option (Po×Rep)}{q:Ask}{r1 n e:Int}{a:Value}(h:e≠0)(c:r=none):MeR r q dv b (.int .i64 e) M' [BI b y g r1 n q dv i rd a z]:=⟨y,g,r1,n,i,e,rd,a,z,rfl,rfl,.no h c⟩
theorem PW.me{r:Option (Po×Rep)}{q:Ask}{a:Value}{b:Nat}{p:Po}{i:Int}(h:PW M' y p)(c:r=some (p,{ Bp with id:=i })):MeR r q a b (.int .i64 0) M' [BI b y p.gen p.root p.next q a i AL AL AP]:=⟨y,_,_,_,i,0,_,_,_,rfl,rfl,.yes _ c ⟨h,rfl,rfl,rfl,rfl,BS.nil0,NaS.nil,rfl⟩⟩
theorem Sz{r:Except Int Po}:(Lo r i).toOption=r.toOption.map (·,i):=by cases r<;>rfl
variable{u:Value}
theorem PoP2.r{r:Except Int (Po×Int)}(h:PoP2 .u32 r u M')(hk:∀q i,r=.ok (q,i)->q.dead.length<=1000000/\0<=q.next/\q.next<4294967296):PoI r.toOption u M':=by
 match r,h with
 |.error e,h=>exact⟨PP,0,0,0,0,e,h.2,.no h.1 rfl⟩
 |.ok (q,i),h=>
  obtain⟨y,rfl,a⟩:=h
  have:=hk q i rfl
  exact⟨y,_,_,_,_,0,rfl,.yes (q,i) rfl ⟨⟨a,this.1,this.2⟩,rfl,rfl,rfl,rfl⟩⟩
variable{α:Type}
theorem Qn{r:Except Int α}{a:α}(h:r=.ok a):r.toOption=some a:=by rw[h];rfl
theorem wJc(p:Po)(x:V5)(M:Mem)(h:PW M x p)(c:Fh p []):SpecL prog 55 #[DH p x] M [] λu M' d=>PoI ((wVv p).map (·,p.next)) u M'/\d=[]:=
 (Xv p x M h.pt h.dead h.next).mono λ_ _ _ b=>⟨by
  have:=b.1.r λq i a=>(c.create (r:=q) (Qn (by unfold Lo at a;split at a<;>cases a;assumption))).nx
  rw[Sz]at this;exact this,b.2⟩
theorem wHt(p:Po)(x:V5)(M:Mem)(h:PW M x p)(d:Fh p [])(v:Int)(c:u32 v)(f:Bool):SpecL prog 58 #[DH p x,.int .u32 v,.bool f] M [] λu M' e=>PoI ((Vx p v f).map (·,p.next)) u M'/\e=[]:=
 (wDs p x M h.pt h.dead h.next v f).mono λ_ _ _ b=>⟨by
  have:=b.1.r λq i a=>(d.snap (r:=q) c (Qn (by unfold Lo at a;split at a<;>cases a;assumption))).nx
  rw[Sz]at this;exact this,b.2⟩
theorem wHy(p:Po)(x:V5)(M:Mem)(h:PW M x p)(c:Fh p [])(v:Int)(a:u32 v)(f:Bool):SpecL prog 59 #[DH p x,.int .u32 v,.bool f] M [] λu M' e=>PoR (wVk p v f) u M'/\e=[]:=
 (Xa p x M h.pt h.dead v a f).mono λ_ _ _ b=>⟨b.1.r λq d=>(c.freeze a (Qn d)).nx,b.2⟩
theorem wHu(p:Po)(x:V5)(M:Mem)(h:PW M x p)(b:Fh p [])(v:Int):SpecL prog 61 #[DH p x,.int .u32 v] M [] λu M' d=>PoR (VQ p v) u M'/\d=[]:=
 (wEj p x M h.pt h.dead v).mono λ_ _ _ a=>⟨a.1.r λq c=>(b.delete (Qn c)).nx,a.2⟩
theorem wQt(p:Po)(x:V5)(M:Mem)(h:PW M x p)(b:Fh p []):SpecL prog 78 #[DH p x] M [] λu M' d=>PoR (rpO p) u M'/\d=[]:=
 (wEg p x M h.pt h.dead).mono λ_ _ _ a=>⟨a.1.r λq c=>(b.reap (Qn c)).nx,a.2⟩
theorem RG(n a b:Int)(M:Mem):SpecL prog 77 #[.int .i64 n,.int .i64 a,.int .i64 b] M [] λu _ _=>u=.bool (decide (a<=n/\n<=b)):=by
 refine sB func77 ntmps77 ?_;intro W;refine gj (λc=>?_) λc=>?_
 ·refine gr ?_;exact congrArg _ (decide_eq_decide.2 (by omega))
 refine gr ?_;rw[decide_eq_false (by omega)]
def wDa(q:Ask):Option Int:=if 0<=q.a/\q.a<=4294967295 then some q.a else none
def wCs(q:Ask):Option Int:=if 0<=q.b/\q.b<=1 then wDa q else none
section
variable(x:V5)(g r1 n:Int)(q:Ask)(dv:Value)(i:Int)(rd rn:Value)(z:Ino)(b:Nat)(M:Mem)
def NuA(r:Option Int)(K:Nat×Obj)(u:Value)(L':Lc):Prop:=∃v e,u=.tuple #[.int .u32 v,.int .i64 e]/\L'=[K]/\u32 v/\Rs r e (v=·)
theorem TA:SpecL prog 60 #[pB b] M [BI b x g r1 n q dv i rd rn z] λu M' d=>NuA (wDa q) (BI b x g r1 n q dv i rd rn z) u d:=by
 refine sB func60 ntmps60 ?_;intro W;refine gq (RG q.a 0 4294967295 M) ?_;by_cases c:0<=q.a/\q.a<=4294967295
 ·rw [decide_eq_true c];refine gg ?_;refine lq (ED rfl rfl rfl (by rw[IntKind.wrap_u32];omega)) ?_;refine gh ?_;refine zd [BI b x g r1 n q dv i rd rn z] rfl ?_;exact⟨q.a,0,rfl,rfl,by unfold u32;omega,.yes _ (if_pos c) rfl⟩
 rw[decide_eq_false c];refine gh ?_;refine zd [BI b x g r1 n q dv i rd rn z] rfl ?_;exact⟨0,6,rfl,rfl,HX,.no (by decide) (if_neg c)⟩
theorem Tz:SpecL prog 57 #[pB b] M [BI b x g r1 n q dv i rd rn z] λu M' h=>NuA (wCs q) (BI b x g r1 n q dv i rd rn z) u h:=by
 refine sB func57 ntmps57 ?_;intro W;refine gq (RG q.b 0 1 M) ?_;by_cases a:0<=q.b/\q.b<=1
 ·rw [decide_eq_true a];refine gC (TA x g r1 n q dv i rd rn z b M) ?_;rintro _ j _ f ⟨v,e,rfl,rfl,c,d⟩;refine gh ?_;refine zd [BI b x g r1 n q dv i rd rn z] rfl ?_;exact⟨v,e,rfl,rfl,c,by unfold wCs;rw[if_pos a];exact d⟩
 rw[decide_eq_false a];refine gh ?_;refine zd [BI b x g r1 n q dv i rd rn z] rfl ?_;exact⟨0,2,rfl,rfl,HX,.no (by decide) (if_neg a)⟩
end
def DQ(p:Po):Option (Po×Rep):=(wVv p).bind λq=>(NU q p.next).map λr=>(r,{ Bp with id:=p.next })
theorem wFw(p:Po)(x:V5)(M:Mem)(h:PW M x p)(I:Fh p [])(q:Ask)(f:Value)(b:Nat):SpecL prog 26 #[pB b] M [BI b x p.gen p.root p.next q f 0 AL AL AP] λu M' K=>MeR (DQ p) q f b u M' K:=by
 refine sB func26 ntmps26 ?_;intro W;refine gc (wJc p x M h I) ?_;rintro _ J H ⟨y,g,r1,n,j,e,rfl,z⟩;refine gj (λa=>?_) λa=>?_
 ·obtain ⟨_,o,E,B,rfl,rfl,rfl,rfl⟩:=z.val (λk=>k a);subst a;obtain⟨w,l,rfl⟩:=Option.map_eq_some_iff.1 E;dsimp only at B⊢;refine gc (Y1 w y J B p.next (by have:=h.next;unfold u32;omega)) ?_;rintro _ N G ⟨D,g,r1,n,e,rfl,c⟩;refine gg ?_;refine lq (C7 rfl rfl rfl (by have:=h.next;omega)) ?_;refine gh ?_;refine zd [BI b D g r1 n q f p.next AL AL AP] rfl ?_;have d:DQ p=(NU w p.next).map λr=>(r,{ Bp with id:=p.next }):=by unfold DQ;rw[l];rfl
  by_cases s:e=0
  ·subst s;obtain⟨_,L,i,m,rfl,rfl,rfl⟩:=c.val (λk=>k rfl);exact m.me (by rw[d,i];rfl)
  exact .no s (by rw[d,c.err s];rfl)
 refine gg ?_;refine lq (Bn rfl rfl rfl) ?_;refine gh ?_;refine zd [BI b y g r1 n q f _ AL AL AP] rfl ?_;have C:=z.err a;exact .no a (by unfold DQ;cases F:wVv p with
  |none=>rfl
  |some _=>rw[F]at C;cases C)
variable{j:Int}
theorem PoI.cases{r:Option Po}(h:PoI (r.map (·,j)) u M'):∃(y:V5)(g r1 n i e:Int),u=.tuple #[.agg (Bo y g r1 n).toArray,.int .u32 i,.int .i64 e]/\Rs r e λq=>PW M' y q/\g=q.gen/\r1=q.root/\n=q.next/\i=j:=by
 obtain⟨y,g,r1,n,i,e,rfl,c⟩:=h;refine⟨y,g,r1,n,i,e,rfl,?_⟩;by_cases b:e=0
 ·subst b;obtain⟨_,o,l,f,rfl,rfl,rfl,rfl⟩:=c.val (λk=>k rfl);obtain⟨d,a,rfl⟩:=Option.map_eq_some_iff.1 l;exact .yes d a ⟨f,rfl,rfl,rfl,rfl⟩
 have m:=c.err b;exact .no b (by cases r with
  |none=>rfl
  |some _=>cases m)
def P0(p:Po)(q:Ask):Option (Po×Rep):=(wCs q).bind λv=>(Vx p v (decide (q.b=1))).map λr=>(r,{ Bp with id:=p.next })
theorem wFo(p:Po)(x:V5)(M:Mem)(h:PW M x p)(F:Fh p [])(q:Ask)(c:Value)(b:Nat):SpecL prog 27 #[pB b] M [BI b x p.gen p.root p.next q c 0 AL AL AP] λu M' H=>MeR (P0 p q) q c b u M' H:=by
 refine sB func27 ntmps27 ?_;intro W;refine gC (Tz x p.gen p.root p.next q c 0 AL AL AP b M) ?_;rintro _ C _ w ⟨v,e,rfl,rfl,E,B⟩;refine gj (λa=>?_) λa=>?_
 ·obtain ⟨_,_,D,rfl⟩:=B.val (λk=>k a);have d:P0 p q=(Vx p v (decide (q.b=1))).map λr=>(r,{ Bp with id:=p.next }):=by unfold P0;rw[D];rfl
  refine gg ?_;refine Gt [19] [15,16,19,20,21] [0,1,2,3,4,5,6,7,8,9,10,11,112,13,14,15,16,17,18,119,20,21] C ([BI b x p.gen p.root p.next q c 0 AL AL AP]) [] ?_;refine gh ?_;refine dh rfl (hC (wHt p x C (h.mono w) F v E (decide (q.b=1)))) ?_;rintro _ J _ ⟨s,R,rfl,m,rfl⟩;obtain⟨y,g,r1,n,j,G,rfl,f⟩:=m.cases;refine⟨s,by simp,?_⟩;refine gg ?_;refine lq (Bn rfl rfl rfl) ?_;refine gh ?_;refine zd [BI b y g r1 n q c _ AL AL AP] rfl ?_;by_cases z:G=0
  ·subst z;obtain⟨_,I,l,o,rfl,rfl,rfl,rfl⟩:=f.val (λk=>k rfl);have i:IntKind.wrap .i64 p.next=p.next:=by rw[IntKind.wrap_i64];have:=h.next;omega
   rw[i];exact o.me (by rw[d,l];rfl)
  exact .no z (by rw[d,f.err z];rfl)
 refine gg ?_;refine lq (Bn rfl rfl rfl) ?_;refine gh ?_;refine zd [BI b x p.gen p.root p.next q c _ AL AL AP] rfl ?_;exact .no a (by unfold P0;rw[B.err a];rfl)
def Ht(p:Po)(q:Ask):Option (Po×Rep):=(wCs q).bind λv=>(wVk p v (decide (q.b=1))).map λr=>(r,Bp)
theorem wFv(p:Po)(x:V5)(M:Mem)(h:PW M x p)(C:Fh p [])(q:Ask)(c:Value)(b:Nat):SpecL prog 28 #[pB b] M [BI b x p.gen p.root p.next q c 0 AL AL AP] λu M' E=>MeR (Ht p q) q c b u M' E:=by
 refine sB func28 ntmps28 ?_;intro W;refine gC (Tz x p.gen p.root p.next q c 0 AL AL AP b M) ?_;rintro _ w _ m ⟨v,e,rfl,rfl,B,s⟩;refine gj (λa=>?_) λa=>?_
 ·obtain ⟨_,_,z,rfl⟩:=s.val (λk=>k a);have d:Ht p q=(wVk p v (decide (q.b=1))).map λr=>(r,Bp):=by unfold Ht;rw[z];rfl
  refine gg ?_;refine Gt [18] [15,18,19] [0,1,2,3,4,5,6,7,8,9,10,11,112,13,14,15,16,17,118,19] w ([BI b x p.gen p.root p.next q c 0 AL AL AP]) [] ?_;refine gh ?_;refine dh rfl (hC (wHy p x w (h.mono m) C v B (decide (q.b=1)))) ?_;rintro _ G _ ⟨l,R,rfl,⟨y,g,r1,n,D,rfl,f⟩,rfl⟩;refine⟨l,by simp,?_⟩;refine gh ?_;refine zd [BI b y g r1 n q c 0 AL AL AP] rfl ?_;by_cases o:D=0
  ·subst o;obtain⟨_,F,i,j,rfl,rfl,rfl⟩:=f.val (λk=>k rfl);exact j.me (by rw[d,i];rfl)
  exact .no o (by rw[d,f.err o];rfl)
 refine gh ?_;refine zd [BI b x p.gen p.root p.next q c 0 AL AL AP] rfl ?_;exact .no a (by unfold Ht;rw[s.err a];rfl)
def Fn(p:Po)(q:Ask):Option (Po×Rep):=(wDa q).bind λv=>(VQ p v).map λr=>(r,Bp)
theorem wFq(p:Po)(x:V5)(M:Mem)(h:PW M x p)(z:Fh p [])(q:Ask)(f:Value)(b:Nat):SpecL prog 29 #[pB b] M [BI b x p.gen p.root p.next q f 0 AL AL AP] λu M' D=>MeR (Fn p q) q f b u M' D:=by
 refine sB func29 ntmps29 ?_;intro W;refine gC (TA x p.gen p.root p.next q f 0 AL AL AP b M) ?_;rintro _ C _ l ⟨v,e,rfl,rfl,F,o⟩;refine gj (λa=>?_) λa=>?_
 ·obtain ⟨_,_,s,rfl⟩:=o.val (λk=>k a);have c:Fn p q=(VQ p v).map λr=>(r,Bp):=by unfold Fn;rw[s];rfl
  refine gc (wHu p x C (h.mono l) z v) ?_;rintro _ G w ⟨y,g,r1,n,B,rfl,d⟩;refine gh ?_;refine zd [BI b y g r1 n q f 0 AL AL AP] rfl ?_;by_cases m:B=0
  ·subst m;obtain⟨_,E,i,j,rfl,rfl,rfl⟩:=d.val (λk=>k rfl);exact j.me (by rw[c,i];rfl)
  exact .no m (by rw[c,d.err m];rfl)
 refine gh ?_;refine zd [BI b x p.gen p.root p.next q f 0 AL AL AP] rfl ?_;exact .no a (by unfold Fn;rw[o.err a];rfl)
def Jd(p:Po)(q:Ask):Option (Po×Rep):=(Bm p q.path).bind λc=>(LL p c.1 c.2.1 c.2.2 (decide (q.kind=6))).map λr=>(r.1,{ Bp with id:=r.2 })
variable{d:Bool}{s:List By}
theorem wUn{p:Po}{v:Int}{r:Po×Int}(h:LL p v i s d=some r):0<=r.2/\r.2<4294967296:=by
 unfold LL at h;split at h
 ·obtain ⟨m,b,g⟩:=Option.bind_eq_some_iff.1 h;obtain⟨l,n,f⟩:=Option.map_eq_some_iff.1 g;subst f;unfold Jh at b;obtain⟨y,_,a⟩:=Option.bind_eq_some_iff.1 b;split at a
  ·cases a
  obtain⟨k,_,e⟩:=Option.bind_eq_some_iff.1 a;obtain⟨j,_,c⟩:=Option.map_eq_some_iff.1 e;subst c;dsimp only;omega
 cases h
theorem Ta(p:Po)(x:V5)(M:Mem)(h:PW M x p)(K:Tabs M)(q:Ask)(I:q.path.length<=1000000)(c:Value)(b:Nat):SpecL prog 30 #[pB b] M [BI b x p.gen p.root p.next q c 0 AL AL AP] λu M' O=>MeR (Jd p q) q c b u M' O:=by
 refine sB func30 ntmps30 ?_;intro W;refine gh ?_;refine AV [BI b x p.gen p.root p.next q c 0 AL AL AP] (by kernel_rfl) (by simp) ?_;refine gk [0,1,2,3,4,5,6,7,8] ?_;refine wNk 9 14 [10,11,12,13] [115,16,17] (λM' E=>Ds p x M' (h.mono E) q.path (K.mono E) I) ?_;rintro _ F z ⟨v,i,s,e,rfl,H,J,_,D⟩;refine gz λN=>?_;refine gg ?_;refine gj (λa=>?_) λa=>?_
 ·obtain ⟨_,_,G,rfl⟩:=D.val (λk=>k a);have d:Jd p q=(LL p v i s (decide (q.kind=6))).map λr=>(r.1,{ Bp with id:=r.2 }):=by unfold Jd;rw[G];rfl
  refine gg ?_;refine Gt [20] [16,17,20,21,22] [0,1,2,3,4,5,6,7,8,9,10,11,12,113,14,15,16,17,18,19,120,21,22] F ([BI b x p.gen p.root p.next q c 0 AL AL AP,(N,cE [.int .u32 v,.int .u32 i] 123)]) [] ?_;refine gh ?_;refine dh rfl (hC (YF p x F (h.mono z) v i H J s (decide (q.kind=6)))) ?_;rintro _ P _ ⟨w,R,rfl,⟨y,g,r1,n,j,L,rfl,f⟩,rfl⟩;refine⟨w,by simp,?_⟩;refine gg ?_;refine lq (Bn rfl rfl rfl) ?_;refine gh ?_;refine zd [BI b y g r1 n q c _ AL AL AP] rfl ?_;by_cases B:L=0
  ·subst B;obtain⟨_,C,l,o,rfl,rfl,rfl,rfl⟩:=f.val (λk=>k rfl);have m:IntKind.wrap .i64 C.2=C.2:=by rw[IntKind.wrap_i64];have:=wUn l;omega
   rw[m];exact o.me (by rw[d,l];rfl)
  exact .no B (by rw[d,f.err B];rfl)
 refine gg ?_;refine lq (Bn rfl rfl rfl) ?_;refine gh ?_;refine zd [BI b x p.gen p.root p.next q c _ AL AL AP] rfl ?_;exact .no a (by unfold Jd;rw[D.err a];rfl)
def NP(p:Po)(q:Ask):Option (Po×Rep):=(Eb p q.path).map λc=>(p,{ Bp with stat:=c.2 })
theorem wFn(p:Po)(x:V5)(M:Mem)(h:PW M x p)(m:Tabs M)(q:Ask)(j:q.path.length<=1000000)(d:Value)(b:Nat):SpecL prog 37 #[pB b] M [BI b x p.gen p.root p.next q d 0 AL AL AP] λu M' n=>MeR (NP p q) q d b u M' n:=by
 refine sB func37 ntmps37 ?_;intro W;refine gg ?_;refine Gt [18] [14,18,19] [0,1,2,3,4,5,6,7,8,9,110,11,12,13,14,15,16,17,118,19] M ([BI b x p.gen p.root p.next q d 0 AL AL AP]) [] ?_;refine gh ?_;refine dh rfl (hC (Dg p x M h q.path m j)) ?_;rintro _ w _ ⟨a,R,rfl,⟨v,i,y,e,rfl,o,s,g⟩,rfl⟩;refine⟨a,by simp,?_⟩;refine gh ?_;refine zd [BI b x p.gen p.root p.next q d 0 AL AL y] rfl ?_;by_cases f:e=0
 ·subst f;obtain⟨_,c,l,rfl,rfl⟩:=g.val (λk=>k rfl);exact⟨x,_,_,_,0,0,_,_,_,rfl,rfl,.yes _ (by unfold NP;rw[l];rfl) ⟨h.mono a,rfl,rfl,rfl,rfl,BS.nil0,NaS.nil,rfl⟩⟩
 exact .no f (by unfold NP;rw[g.err f];rfl)
def DB:Nat->Po->Po
 |0,p=>p
 |n+1,p=>match rpO p with
  |none=>p
  |some q=>DB n q
def Qb(p:Po)(q:Ask):Option (Po×Rep):=if (0<=q.a/\q.a<=1000)/\AN (DB q.a.toNat p)=0 then some (DB q.a.toNat p,Bp)else none
structure ReI where
 k:Nat
 q:Po
 y:V5
 M:Mem
theorem wFr(p:Po)(x:V5)(M:Mem)(h:PW M x p)(R:Fh p [])(q:Ask)(w:Value)(b:Nat):SpecL prog 38 #[pB b] M [BI b x p.gen p.root p.next q w 0 AL AL AP] λu M' T=>MeR (Qb p q) q w b u M' T:=by
 refine sB func38 ntmps38 ?_;intro W;refine gq (RG q.a 0 1000 M) ?_;by_cases H:0<=q.a/\q.a<=1000;rotate_left
 ·rw [decide_eq_false H];refine gh ?_;refine zd [BI b x p.gen p.root p.next q w 0 AL AL AP] rfl ?_;exact .no (by decide) (if_neg λk=>H k.1)
 rw[decide_eq_true H];obtain⟨n,O⟩:∃n:Nat,q.a=n:=⟨q.a.toNat,by omega⟩;have d:Qb p q=if AN (DB n p)=0 then some (DB n p,Bp)else none:=by
  unfold Qb;rw[O,Int.toNat_natCast];by_cases D:AN (DB n p)=0
  ·rw [if_pos ⟨by omega,D⟩,if_pos D]
  rw[if_neg λk=>D k.2,if_neg D]
 refine gg ?_;refine CC (α:=ReI) (λz=>[(0,pB b),(16,.int .i64 q.a),(17,.int .i64 z.k)]) (λz=>z.M) (λz=>[BI b z.y z.q.gen z.q.root z.q.next q w 0 AL AL AP]) (λz=>z.k<=n/\DB (n-z.k) z.q=DB n p/\PW z.M z.y z.q/\Fh z.q []) (λz=>n-z.k) ⟨0,p,x,M⟩ ⟨Nat.zero_le _,rfl,h,R⟩ ?_;rintro⟨k,o,y,K⟩ ⟨Q,c,i,l⟩;try dsimp only at Q c i l⊢
 refine gj (λG=>?_) λG=>?_
 ·refine gc (wQt o y K i l) ?_;rintro _ L C ⟨N,g,r1,U,e,rfl,J⟩;obtain⟨m,P⟩:∃m,n-k=m+1:=⟨n-k-1,by omega⟩;rw[P,DB]at c;refine gA λV=>?_;refine gj (λs=>?_) λs=>?_
  ·rw [J.err s]at c;dsimp only at c;refine gh ?_;refine wXe rfl ?_;refine gc (FS o _ L (i.mono C).pt.pt i.dead) ?_;rintro _ S j rfl;refine gh ?_;refine zd [BI b y o.gen o.root o.next q w 0 AL AL AP] rfl ?_;by_cases f:AN o=0
   ·rw [f];exact((i.mono C).mono j).me (by rw[d,<-c,if_pos f])
   exact .no f (by rw[d,<-c,if_neg f])
  obtain⟨_,I,B,E,rfl,rfl,rfl⟩:=J.val s;rw[B]at c;refine gh ?_;refine BD ⟨k+1,I,N,L⟩ ⟨by show k+1<=n;omega,by show DB (n-(k+1)) I=_;rw[show n-(k+1)=m by omega];exact c,E,l.reap B⟩
 have F:n-k=0:=by omega
 rw[F,DB]at c;refine gc (FS o _ K i.pt.pt i.dead) ?_;rintro _ S j rfl;refine gh ?_;refine zd [BI b y o.gen o.root o.next q w 0 AL AL AP] rfl ?_;by_cases f:AN o=0
 ·rw [f];exact(i.mono j).me (by rw[d,<-c,if_pos f])
 exact .no f (by rw[d,<-c,if_neg f])
variable{M:Mem}{b:Nat}{dv:Value}{f:Option Po}{g:Int}{y:V5}
theorem Rs.me{r:Option (Po×Rep)}{q:Ask}{r1 n e:Int}(h:Rs f e λo=>PW M y o/\g=o.gen/\r1=o.root/\n=o.next)(c:r=f.map (·,Bp)):MeR r q dv b (.int .i64 e) M [BI b y g r1 n q dv 0 AL AL AP]:=by
 by_cases a:e=0
 ·subst a;obtain⟨_,o,i,d,rfl,rfl,rfl⟩:=h.val (λk=>k rfl);exact d.me (by rw[c,i];rfl)
 exact .no a (by rw[c,h.err a];rfl)
theorem wRt{p:Po}{v i:Int}:ML p v i []=none:=by
 unfold ML;cases DT p v i with
 |none=>rfl
 |some l=>show (if wSf []=0 then some l else none)=none;exact if_neg (by decide)
theorem Tp{p:Po}{v i:Int}:Gv p v i []=none:=by unfold Gv LN;rw[wRt];rfl
def EL(p:Po)(q:Ask):Option (Po×Rep):=(Eb p q.path).bind λc=>if c.2.dir then none else (Bm p q.path).bind λo=>(Sd p o.1 o.2.1 o.2.2).map (·,Bp)
theorem wFm(p:Po)(x:V5)(M:Mem)(h:PW M x p)(K:Tabs M)(q:Ask)(I:q.path.length<=1000000)(d:Value)(b:Nat):SpecL prog 33 #[pB b] M [BI b x p.gen p.root p.next q d 0 AL AL AP] λu M' U=>MeR (EL p q) q d b u M' U:=by
 refine sB func33 ntmps33 ?_;intro W;refine gh ?_;refine AV [BI b x p.gen p.root p.next q d 0 AL AL AP] (by kernel_rfl) (by simp) ?_;refine gk [0,1,2,3,4,5,6,7,8] ?_;refine wXc 9 14 15 [10,11,12,13] [116,117,18] (λM' m=>Dg p x M' (h.mono m) q.path (K.mono m) I) ?_;rintro _ M1 f ⟨v,i,y,e,rfl,Z,hi,H⟩;refine gy λb3 b4=>?_;refine gg ?_;refine gj (λa=>?_) λa=>?_
 ·refine gh ?_;refine zd [BI b x p.gen p.root p.next q d 0 AL AL AP] rfl ?_;exact .no a (by unfold EL;rw[H.err a];rfl)
 obtain⟨_,c,J,rfl,rfl⟩:=H.val a;obtain⟨Y,O,X,V⟩:=y;cases O with
 |true=>
  refine gh ?_
  refine zd [BI b x p.gen p.root p.next q d 0 AL AL AP] rfl ?_
  exact .no (by decide) (by unfold EL;rw[J];rfl)
 |false=>
 have L:EL p q=(Bm p q.path).bind λo=>(Sd p o.1 o.2.1 o.2.2).map (·,Bp):=by unfold EL;rw[J];rfl
 refine gh ?_;refine AV [BI b x p.gen p.root p.next q d 0 AL AL AP] (by kernel_rfl) (by simp) ?_;refine gk [0,1,2,3,4,5,6,7,8] ?_;refine wNk 9 14 [10,11,12,13] [115,16,17] (λM' m=>Ds p x M' (h.mono (f.trans m)) q.path (K.mono (f.trans m)) I) ?_;rintro _ N D ⟨F,G,s,S,rfl,w,B,z,l⟩;refine gz λT=>?_;refine gg ?_;refine Gt [13] [10,13,14] [0,1,2,3,4,5,6,107,8,9,10,11,12,113,14] N [BI b x p.gen p.root p.next q d 0 AL AL AP,(T,cE [.int .u32 F,.int .u32 G] 123)] [] ?_;refine gh ?_;refine dh rfl (hC (wEy p x N (h.mono (f.trans D)) F G w B s)) ?_;rintro _ M3 _ ⟨C,R,rfl,⟨P,g,r1,n,e3,rfl,j⟩,rfl⟩;refine⟨C,by simp,?_⟩;refine gh ?_;refine zd [BI b P g r1 n q d 0 AL AL AP] rfl ?_;by_cases E:S=0
 ·obtain ⟨_,_,Q,rfl⟩:=l.val (λk=>k E);exact j.me (by rw[L,Q];rfl)
 obtain rfl:=z E;exact j.me (by rw[L,l.err E];unfold Sd;rw[Tp];rfl)
def F2(p:Po)(q:Ask):Option (Po×Rep):=(Eb p q.path).bind λc=>if c.2.dir then (Bm p q.path).bind λo=>(VM p o.1 o.2.1 o.2.2).map (·,Bp)else none
theorem wFk(p:Po)(x:V5)(M:Mem)(h:PW M x p)(I:Tabs M)(q:Ask)(G:q.path.length<=1000000)(d:Value)(b:Nat):SpecL prog 35 #[pB b] M [BI b x p.gen p.root p.next q d 0 AL AL AP] λu M' S=>MeR (F2 p q) q d b u M' S:=by
 refine sB func35 ntmps35 ?_;intro W;refine gh ?_;refine AV [BI b x p.gen p.root p.next q d 0 AL AL AP] (by kernel_rfl) (by simp) ?_;refine gk [0,1,2,3,4,5,6,7,8] ?_;refine wXc 9 14 15 [10,11,12,13] [116,117,18] (λM' l=>Dg p x M' (h.mono l) q.path (I.mono l) G) ?_;rintro _ M1 f ⟨v,i,y,e,rfl,X,Y,F⟩;refine gy λb3 b4=>?_;refine gg ?_;refine gj (λa=>?_) λa=>?_
 ·refine gh ?_;refine zd [BI b x p.gen p.root p.next q d 0 AL AL AP] rfl ?_;exact .no a (by unfold F2;rw[F.err a];rfl)
 obtain⟨_,c,H,rfl,rfl⟩:=F.val a;obtain⟨V,L,U,T⟩:=y;cases L with
 |false=>
  refine gh ?_
  refine zd [BI b x p.gen p.root p.next q d 0 AL AL AP] rfl ?_
  exact .no (by decide) (by unfold F2;rw[H];rfl)
 |true=>
 have J:F2 p q=(Bm p q.path).bind λo=>(VM p o.1 o.2.1 o.2.2).map (·,Bp):=by unfold F2;rw[H];rfl
 refine gh ?_;refine AV [BI b x p.gen p.root p.next q d 0 AL AL AP] (by kernel_rfl) (by simp) ?_;refine gk [0,1,2,3,4,5,6,7,8] ?_;refine wNk 9 14 [10,11,12,13] [115,16,17] (λM' l=>Ds p x M' (h.mono (f.trans l)) q.path (I.mono (f.trans l)) G) ?_;rintro _ K C ⟨D,E,s,e2,rfl,m,z,O,k⟩;refine gz λQ=>?_;refine gg ?_;refine gj (λj=>?_) λj=>?_
 ·refine gh ?_;refine zd [BI b x p.gen p.root p.next q d 0 AL AL AP] rfl ?_;exact .no (by decide) (by rw[J,k.err j];rfl)
 obtain⟨_,_,P,rfl⟩:=k.val j;refine gh ?_;refine Gt [13] [10,13,14] [0,1,2,3,4,5,6,107,8,9,10,11,12,113,14] K [BI b x p.gen p.root p.next q d 0 AL AL AP,(Q,cE [.int .u32 D,.int .u32 E] 123)] [] ?_;refine gh ?_;refine dh rfl (hC (wFb p x K (h.mono (f.trans C)) D E m z s)) ?_;rintro _ M3 _ ⟨B,R,rfl,⟨N,g,r1,n,Z,rfl,w⟩,rfl⟩;refine⟨B,by simp,?_⟩;refine gh ?_;refine zd [BI b N g r1 n q d 0 AL AL AP] rfl ?_;exact w.me (by rw[J,P];rfl)
def NY(p:Po)(q:Ask):Option (Po×Rep):=(Eb p q.path).bind λc=>if c.2.dir then none else (Bm p q.other).bind λo=>if o.1=c.1 then (NX p c.1 c.2.id o.1 o.2.1 o.2.2).map (·,Bp)else none
theorem wFt(p:Po)(x:V5)(M:Mem)(h:PW M x p)(O:Tabs M)(q:Ask)(V:q.path.length<=1000000)(E:q.other.length<=1000000)(f:Value)(b:Nat):SpecL prog 32 #[pB b] M [BI b x p.gen p.root p.next q f 0 AL AL AP] λu M' L'=>MeR (NY p q) q f b u M' L':=by
 refine sB func32 ntmps32 ?_;intro W;refine gh ?_;refine AV [BI b x p.gen p.root p.next q f 0 AL AL AP] (by kernel_rfl) (by simp) ?_;refine gk [0,1,2,3,4,5,6,7,8] ?_;refine wXc 9 14 15 [10,11,12,13] [116,117,18] (λM' m=>Dg p x M' (h.mono m) q.path (O.mono m) V) ?_;rintro _ M1 j ⟨v,i,y,e,rfl,T,hi,K⟩;refine gy λZ b4=>?_;refine gg ?_;by_cases d:e=0;rotate_left
 ·refine gj (λh=>absurd h d) λ_=>?_;refine gj (λw=>?_) λw=>absurd d w;refine gh ?_;refine zd [BI b x p.gen p.root p.next q f 0 AL AL AP] rfl ?_;exact .no d (by unfold NY;rw[K.err d];rfl)
 subst d;obtain⟨_,c,N,rfl,rfl⟩:=K.val (λk=>k rfl);obtain⟨z,Q,y3,y4⟩:=y;cases Q with
 |true=>
  refine gh ?_
  refine zd [BI b x p.gen p.root p.next q f 0 AL AL AP] rfl ?_
  exact .no (by decide) (by unfold NY;rw[N];rfl)
 |false=>
 have I:NY p q=(Bm p q.other).bind λo=>if o.1=v then (NX p v z o.1 o.2.1 o.2.2).map (·,Bp)else none:=by unfold NY;rw[N];rfl
 refine gh ?_;refine AV [BI b x p.gen p.root p.next q f 0 AL AL AP] (by kernel_rfl) (by simp) ?_;refine gk [0,1,2,3,4,5,6,7,8] ?_;refine wNk 9 14 [10,11,12,13] [115,16,17] (λM' m=>Ds p x M' (h.mono (j.trans m)) q.other (O.mono (j.trans m)) E) ?_;rintro _ P H ⟨B,J,s,X,rfl,C,F,U,l⟩;refine gz λY=>?_;refine gg ?_;by_cases d:X=0;rotate_left
 ·refine gj (λh=>absurd h d) λ_=>?_;refine gj (λh=>absurd h d) λ_=>?_;refine gh ?_;refine zd [BI b x p.gen p.root p.next q f 0 AL AL AP] rfl ?_;exact .no d (by rw[I,l.err d];rfl)
 subst d;obtain⟨_,_,L,rfl⟩:=l.val (λk=>k rfl);refine gj (λ_=>?_) λh=>absurd rfl h;refine gj (λa=>?_) λa=>?_
 ·refine gh ?_;refine zd [BI b x p.gen p.root p.next q f 0 AL AL AP] rfl ?_;exact .no (by decide) (by rw[I,L];exact if_neg a)
 have a:B=v:=Classical.not_not.1 a;refine gh ?_;refine Gt [14] [11,14,15] [0,1,2,3,4,5,6,7,108,9,10,11,12,13,114,15] P [BI b x p.gen p.root p.next q f 0 AL AL AP,(Z,cE [.int .u32 v,.int .u32 z] 123),(Y,cE [.int .u32 B,.int .u32 J] 123)] [] ?_;refine gh ?_;refine dh rfl (hC (YG p x P (h.mono (j.trans H)) v z B J T C F s)) ?_;rintro _ M3 _ ⟨G,R,rfl,⟨S,g,r1,n,e3,rfl,D⟩,rfl⟩;refine⟨G,by simp,?_⟩;refine gh ?_;refine zd [BI b S g r1 n q f 0 AL AL AP] rfl ?_;exact D.me (by rw[I,L];exact if_pos a)
def Fm(p:Po)(q:Ask):Option (Po×Rep):=(Eb p q.path).bind λ_=>(Bm p q.other).bind λo=>(Bm p q.path).bind λc=>if c.1=o.1 then (VO p c.1 c.2.1 c.2.2 o.1 o.2.1 o.2.2).map (·,Bp)else none
theorem wLb{p:Po}{q:Ask}(h:Bm p q.path=none):Fm p q=none:=by
 unfold Fm;cases Eb p q.path with
 |none=>rfl
 |some _=>cases Bm p q.other with
  |none=>rfl
  |some _=>rw[Option.bind_some,Option.bind_some,h];rfl
theorem wFp(p:Po)(x:V5)(M:Mem)(h:PW M x p)(H:Tabs M)(q:Ask)(P:q.path.length<=1000000)(O:q.other.length<=1000000)(j:Value)(b:Nat):SpecL prog 34 #[pB b] M [BI b x p.gen p.root p.next q j 0 AL AL AP] λu M' L'=>MeR (Fm p q) q j b u M' L':=by
 refine sB func34 ntmps34 ?_;intro W;refine gc (GJ q.path M H P) ?_;rintro _ M0 a ⟨v0,l0,a0,c0,e0,rfl,ab,af,ad,aa,ae,G⟩;refine gj (λV=>?_) λV=>?_
 ·refine gh ?_;refine zd [BI b x p.gen p.root p.next q j 0 AL AL AP] rfl ?_;exact .no (by decide) (wLb (by
   unfold Bm;by_cases w:e0=0
   ·obtain ⟨_,_,hp,rfl⟩:=G.val (λk=>k w);rw[hp,Option.bind_some,if_pos (List.length_eq_zero_iff.1 (show l0.length=0 by omega))]
   rw[G.err w];rfl))
 refine gh ?_;refine AV [BI b x p.gen p.root p.next q j 0 AL AL AP] (by kernel_rfl) (by simp) ?_;refine gk [0,1,2,3,4,5,6,7,8] ?_;refine wXc 9 14 15 [10,11,12,13] [116,117,18] (λM' z=>Dg p x M' (h.mono (a.trans z)) q.path (H.mono (a.trans z)) P) ?_;rintro _ M1 d ⟨v,i,y,e,rfl,hv,hi,hr⟩;refine gy λb6 b7=>?_;refine gg ?_;refine gj (λs=>?_) λs=>?_
 ·refine gh ?_;refine zd [BI b x p.gen p.root p.next q j 0 AL AL AP] rfl ?_;exact .no s (by unfold Fm;rw[hr.err s];rfl)
 obtain⟨_,c,hc,rfl,rfl⟩:=hr.val s;have D:Fm p q=(Bm p q.other).bind λo=>(Bm p q.path).bind λc=>if c.1=o.1 then (VO p c.1 c.2.1 c.2.2 o.1 o.2.1 o.2.2).map (·,Bp)else none:=by unfold Fm;rw[hc];rfl
 refine gh ?_;refine AV [BI b x p.gen p.root p.next q j 0 AL AL AP] (by kernel_rfl) (by simp) ?_;refine gk [0,1,2,3,4,5,6,7,8] ?_;refine wNk 9 14 [10,11,12,13] [115,16,17] (λM' z=>Ds p x M' (h.mono ((a.trans d).trans z)) q.other (H.mono ((a.trans d).trans z)) O) ?_;rintro _ M2 C ⟨J,Z,s2,e2,rfl,L,S,ac,F⟩;refine gz λb9=>?_;refine gg ?_;refine gj (λm=>?_) λm=>?_
 ·refine gh ?_;refine zd [BI b x p.gen p.root p.next q j 0 AL AL AP] rfl ?_;exact .no m (by rw[D,F.err m];rfl)
 obtain⟨_,_,ho,rfl⟩:=F.val m;rw[ho,Option.bind_some]at D;refine gh ?_;refine AV [BI b x p.gen p.root p.next q j 0 AL AL AP] (by kernel_rfl) (by simp) ?_;refine gk [0,1,2,3,4,5,6,7,8] ?_;refine wNk 9 14 [10,11,12,13] [115,16,17] (λM' z=>Ds p x M' (h.mono (((a.trans d).trans C).trans z)) q.path (H.mono (((a.trans d).trans C).trans z)) P) ?_;rintro _ M3 U ⟨I,Y,s3,e3,rfl,K,Q,N,l⟩;refine gz λX=>?_;refine gg ?_;refine gj (λf=>?_) λf=>?_
 ·refine gh ?_;refine zd [BI b x p.gen p.root p.next q j 0 AL AL AP] rfl ?_;exact .no (by decide) (by
   by_cases w:e3=0
   ·obtain ⟨_,_,B,rfl⟩:=l.val (λk=>k w);rw[D,B];exact if_neg f
   rw[D,l.err w];rfl)
 have f:I=J:=Classical.not_not.1 f;refine gh ?_;refine Gt [15] [12,15,16] [0,1,2,3,4,5,6,7,8,109,10,11,12,13,14,115,16] M3 [BI b x p.gen p.root p.next q j 0 AL AL AP,(X,cE [.int .u32 I,.int .u32 Y] 123),(b9,cE [.int .u32 J,.int .u32 Z] 123)] [] ?_;refine gh ?_;refine dh rfl (hC (wFc p x M3 (h.mono (((a.trans d).trans C).trans U)) I Y K Q s3 J Z L S s2)) ?_;rintro _ M4 _ ⟨T,R,rfl,⟨y5,g,r1,n,e4,rfl,E⟩,rfl⟩;refine⟨T,by simp,?_⟩;refine gh ?_;refine zd [BI b y5 g r1 n q j 0 AL AL AP] rfl ?_;by_cases w:e3=0
 ·obtain ⟨_,_,B,rfl⟩:=l.val (λk=>k w);exact E.me (by rw[D,B];exact if_pos f)
 obtain rfl:=N w;exact E.me (by rw[D,l.err w];unfold VO;rw[Tp];rfl)
abbrev JG(q:Ask)(dv:Value):List Value:=[.int .u8 q.kind,.string (AD q.path),.string (AD q.other),.int .i64 q.a,.int .i64 q.b,.int .i64 q.c,dv]
def TZ(q:Ask):Bool:=if q.kind=7 then decide (Eo q.a/\(q.data.length:Int)<=4096-q.a)else if q.kind=8 then decide (Eo q.a/\Eo q.b)else if q.kind=9 then decide (Eo q.a)else if q.kind=10 then decide (Eo q.a/\Eo q.b/\q.a<=q.b)
 else decide (Eo q.a/\Eo q.b/\Eo q.c/\q.a+q.c<=4096/\q.b+q.c<=4096/\ND .i64 (ND .i64 q.a q.b) q.c%128=0)
variable{a:Int}
theorem UP{b:Int}(d:Eo a)(c:Eo b):∃n:Nat,ND .i64 a b=n/\n<8192:=by
 obtain⟨x,rfl⟩:∃x:Nat,a=x:=⟨a.toNat,by unfold Eo at d;omega⟩;obtain⟨y,rfl⟩:∃x:Nat,b=x:=⟨b.toNat,by unfold Eo at c;omega⟩;unfold Eo at d c;exact⟨x ||| y,PH x y ⟨by omega,by omega⟩,Nat.or_lt_two_pow (n:=13) (by omega) (by omega)⟩
theorem wWh{b c:Int}(g:Eo a)(f:Eo b)(d:Eo c):0<=ND .i64 (ND .i64 a b) c:=by
 obtain⟨n,e,h⟩:=UP g f;obtain⟨z,rfl⟩:∃x:Nat,c=x:=⟨c.toNat,by unfold Eo at d;omega⟩;unfold Eo at d;rw[e,PH n z ⟨by omega,by omega⟩];omega
theorem wQu(q:Ask)(B:Value)(M:Mem)(E:BS M B q.data)(H:q.data.length<=1000000):SpecL prog 64 #[.agg (JG q B).toArray] M [] λu _ _=>u=.bool (TZ q):=by
 obtain⟨da,F,rfl,D,C⟩:=E;have l:∀n:Int,(0<=n/\n<=4096)=Eo n:=λ_=>rfl;refine sB func64 ntmps64 ?_;intro W;refine ga λG=>?_;refine gg ?_;refine D7 [0,1,3,4,6,7,2,5,8,9,10,11] [(G,cE (JG q (.slice da q.data.length F)) 39)] ?_;refine gg ?_;refine dq rfl (qC (RG q.a 0 4096 _)) ?_;refine gg ?_;refine dq rfl (qC (RG q.b 0 4096 _)) ?_;refine gg ?_;refine dq rfl (qC (RG q.c 0 4096 _)) ?_;simp only[l];unfold TZ;refine gj (λz=>?_) λz=>?_
 ·rw [if_pos z];by_cases d:Eo q.a
  ·rw [decide_eq_true d];unfold Eo at d;refine gg ?_;refine gr ?_;exact congrArg _ (decide_eq_decide.2 (by unfold Eo;omega))
  rw[decide_eq_false d];refine gr ?_;rw[decide_eq_false λk=>d k.1]
 rw[if_neg z];refine gj (λy=>?_) λy=>?_
 ·rw [if_pos y];by_cases d:Eo q.a
  ·rw [decide_eq_true d];refine gr ?_;exact congrArg _ (decide_eq_decide.2 ⟨λk=>⟨d,k⟩,λk=>k.2⟩)
  rw[decide_eq_false d];refine gr ?_;rw[decide_eq_false λk=>d k.1]
 rw[if_neg y];refine gj (λw=>?_) λw=>?_
 ·rw [if_pos w];refine gr ?_;rfl
 rw[if_neg w];refine gj (λh=>?_) λh=>?_
 ·rw [if_pos h];by_cases d:Eo q.a
  ·rw [decide_eq_true d];by_cases e:Eo q.b
   ·rw [decide_eq_true e];refine gr ?_;exact congrArg _ (decide_eq_decide.2 ⟨λk=>⟨d,e,k⟩,λk=>k.2.2⟩)
   rw[decide_eq_false e];refine gr ?_;rw[decide_eq_false λk=>e k.2.1]
  rw[decide_eq_false d];refine gr ?_;rw[decide_eq_false λk=>d k.1]
 rw[if_neg h];by_cases d:Eo q.a;rotate_left
 ·rw [decide_eq_false d];refine gr ?_;rw[decide_eq_false λk=>d k.1]
 by_cases e:Eo q.b;rotate_left
 ·rw [decide_eq_true d,decide_eq_false e];refine gr ?_;rw[decide_eq_false λk=>e k.2.1]
 by_cases i:Eo q.c;rotate_left
 ·rw [decide_eq_true d,decide_eq_true e,decide_eq_false i];refine gr ?_;rw[decide_eq_false λk=>i k.2.2.1]
 rw[decide_eq_true d,decide_eq_true e,decide_eq_true i];have j:=wWh d e i;have s:=id d;have o:=id e;have m:=id i;unfold Eo at s o m;refine gj (λg=>?_) λg=>?_
 ·refine gj (λf=>?_) λf=>?_
  ·refine gg ?_;refine lq (EW rfl rfl rfl rfl rfl) ?_;refine gg ?_;refine lq (EW rfl rfl rfl rfl rfl) ?_;refine gg ?_;refine lq (wYq (b:=128) rfl rfl rfl rfl j (by omega)) ?_;refine gr ?_;exact congrArg _ (decide_eq_decide.2 ⟨λk=>⟨d,e,i,g,f,k⟩,λk=>k.2.2.2.2.2⟩)
  refine gr ?_;rw[decide_eq_false λk=>f k.2.2.2.2.1]
 refine gr ?_;rw[decide_eq_false λk=>g k.2.2.2.1]
def GW(p:Po)(q:Ask):Option (Po×Rep):=if TZ q=true then (Eb p q.path).bind λc=>
  if q.kind=7 then (Gk p c.1 c.2.id q.a q.data).map (·,Bp)
  else if q.kind=8 then (K5 p c.1 c.2.id q.a q.b).map λd=>(p,{ Bp with data:=d })
  else if q.kind=9 then (Rb p c.1 c.2.id q.a).map (·,Bp)
  else if q.kind=10 then (Xc p c.1 c.2.id q.a q.b).map (·,Bp)
  else if c.2.dir then none else (Eb p q.other).bind λo=>(W7 p c.1 c.2.id q.a o.1 o.2.id q.b q.c).map (·,Bp)
 else none
theorem GL(p:Po)(x:V5)(M:Mem)(h:PW M x p)(hT:Tabs M)(q:Ask)(hq:q.path.length<=1000000)(Q:q.other.length<=1000000)(f:Value)(F:BS M f q.data)(S:q.data.length<=1000000)(b:Nat):SpecL prog 31 #[pB b] M [BI b x p.gen p.root p.next q f 0 AL AL AP] λu M' L'=>MeR (GW p q) q f b u M' L':=by
 refine sB func31 ntmps31 ?_;intro W;refine gq (wQu q f M F S) ?_;unfold GW;cases aa:TZ q with
 |false=>
  refine gh ?_
  refine zd [BI b x p.gen p.root p.next q f 0 AL AL AP] rfl ?_
  exact .no (by decide) (if_neg (by simp))
 |true=>
 rw[if_pos rfl];refine gh ?_;refine AV [BI b x p.gen p.root p.next q f 0 AL AL AP] (by kernel_rfl) (by simp) ?_;refine gk [0,1,2,3,4,5,6,7,8] ?_;refine wXc 9 14 15 [10,11,12,13] [116,117,18] (λM' hM=>Dg p x M' (h.mono hM) q.path (hT.mono hM) hq) ?_;rintro _ o m ⟨v,i,y,e,rfl,P,hi,hr⟩;refine gy λI b4=>?_;refine gg ?_;refine gj (λw=>?_) λw=>?_
 ·refine gh ?_;refine zd [BI b x p.gen p.root p.next q f 0 AL AL AP] rfl ?_;exact .no w (by rw[hr.err w];rfl)
 obtain⟨_,c,hc,rfl,rfl⟩:=hr.val w;rw[hc,Option.bind_some];dsimp only;have E:=F.mono m;refine gj (λY=>?_) λY=>?_
 ·rw [if_pos Y];refine gh ?_;refine Gt [22] [19,22,23] [0,1,2,3,4,5,6,7,8,9,10,11,12,13,14,15,116,17,18,19,20,21,122,23] o [BI b x p.gen p.root p.next q f 0 AL AL AP,(I,cE [.int .u32 v,.int .u32 y.id] 123)] [] ?_;refine gh ?_;refine dh rfl (hC (Uo p x o (h.mono m) v y.id P q.a q.data f E)) ?_;rintro _ J _ ⟨l,R,rfl,⟨B,g,r1,n,H,rfl,j⟩,rfl⟩;refine⟨l,by simp,?_⟩;refine gh ?_;refine zd [BI b B g r1 n q f 0 AL AL AP] rfl ?_;exact j.me rfl
 rw[if_neg Y];refine gj (λX=>?_) λX=>?_
 ·rw [if_pos X];refine gh ?_;refine Gt [23] [19,23,24] [0,1,2,3,4,5,6,7,8,9,10,11,12,13,14,15,116,17,18,19,20,21,22,123,24] o [BI b x p.gen p.root p.next q f 0 AL AL AP,(I,cE [.int .u32 v,.int .u32 y.id] 123)] [] ?_;refine gh ?_;refine dh rfl (hC (Zr p x o (h.mono m) v y.id q.a q.b)) ?_;rintro _ J _ ⟨l,R,rfl,⟨N,K,L,H,rfl,j⟩,rfl⟩;refine⟨l,by simp,?_⟩;refine gh ?_;refine zd [BI b x p.gen p.root p.next q f 0 (.slice N K L) AL AP] rfl ?_;by_cases Z:H=0
  ·subst Z;obtain⟨_,d,hd,U⟩:=j.val (λk=>k rfl);exact⟨x,_,_,_,0,0,_,_,_,rfl,rfl,.yes _ (by rw[hd];rfl) ⟨h.mono (m.trans l),rfl,rfl,rfl,rfl,U,NaS.nil,rfl⟩⟩
  exact .no Z (by rw[j.err Z];rfl)
 rw[if_neg X];refine gj (λV=>?_) λV=>?_
 ·rw [if_pos V];refine gh ?_;refine Gt [17] [14,17,18] [0,1,2,3,4,5,6,7,8,9,10,111,12,13,14,15,16,117,18] o [BI b x p.gen p.root p.next q f 0 AL AL AP,(I,cE [.int .u32 v,.int .u32 y.id] 123)] [] ?_;refine gh ?_;refine dh rfl (hC (W5 p x o (h.mono m) v y.id P q.a)) ?_;rintro _ J _ ⟨l,R,rfl,⟨B,g,r1,n,H,rfl,j⟩,rfl⟩;refine⟨l,by simp,?_⟩;refine gh ?_;refine zd [BI b B g r1 n q f 0 AL AL AP] rfl ?_;exact j.me rfl
 rw[if_neg V];refine gj (λC=>?_) λC=>?_
 ·rw [if_pos C];refine gh ?_;refine Gt [22] [19,22,23] [0,1,2,3,4,5,6,7,8,9,10,11,12,13,14,15,116,17,18,19,20,21,122,23] o [BI b x p.gen p.root p.next q f 0 AL AL AP,(I,cE [.int .u32 v,.int .u32 y.id] 123)] [] ?_;refine gh ?_;refine dh rfl (hC (Zt p x o (h.mono m) v y.id P q.a q.b)) ?_;rintro _ J _ ⟨l,R,rfl,⟨B,g,r1,n,H,rfl,j⟩,rfl⟩;refine⟨l,by simp,?_⟩;refine gh ?_;refine zd [BI b B g r1 n q f 0 AL AL AP] rfl ?_;exact j.me rfl
 rw[if_neg C];obtain⟨y1,yd,y3,y4⟩:=y;cases yd with
 |true=>
  refine gh ?_
  refine zd [BI b x p.gen p.root p.next q f 0 AL AL AP] rfl ?_
  exact .no (by decide) (if_pos rfl)
 |false=>
 rw[if_neg (by simp)];refine gh ?_;refine ga λb6=>?_;refine gh ?_;refine Gt [14] [12,13,14,15] [0,1,2,3,4,5,6,7,8,109,10,11,12,13,114,15] o [BI b x p.gen p.root p.next q f 0 AL AL AP] [BI b x p.gen p.root p.next q f 0 AL AL AP] ?_;refine gh ?_;refine dh rfl (hC (Dg p x o (h.mono m) q.other (hT.mono m) Q)) ?_;rintro _ M2 _ ⟨G,R,rfl,⟨v2,i2,z,e2,rfl,O,ab,D⟩,rfl⟩;refine⟨G,by simp,?_⟩;refine gg ?_;refine gj (λs=>?_) λs=>?_
 ·obtain ⟨_,c2,T,rfl,rfl⟩:=D.val (λk=>k s);rw[T,Option.bind_some];refine gh ?_;refine Gt [28] [25,28,29] [0,1,2,3,4,5,6,7,8,9,10,11,12,13,14,15,16,17,18,19,20,21,122,23,24,25,26,27,128,29] M2 [BI b x p.gen p.root p.next q f 0 AL AL AP,(I,cE [.int .u32 v,.int .u32 y1] 123),(b6,cE [.int .u32 v2,.int .u32 z.id] 123)] [] ?_;refine gh ?_;refine dh rfl (hC (Zo p x M2 (h.mono (m.trans G)) v y1 v2 z.id O q.a q.b q.c)) ?_;rintro _ J _ ⟨l,R,rfl,⟨B,g,r1,n,H,rfl,j⟩,rfl⟩;refine⟨l,by simp,?_⟩;refine gh ?_;refine zd [BI b B g r1 n q f 0 AL AL AP] rfl ?_;exact j.me rfl
 refine gh ?_;refine zd [BI b x p.gen p.root p.next q f 0 AL AL AP] rfl ?_;exact .no s (by rw[D.err s];rfl)
section
open Go.Shelf Go.Sort
def Lx(l:List (List By)):List (List By):=l.mergeSort λx y=>decide (x<=y)
theorem H0(l:List (List By)):(Lx l).length=l.length:=List.length_mergeSort ..
theorem ZO(l:List (List By))(v:Value)(R:Lc)(M:Mem)(F:Own v R 9 1 l.length (Lt l))(S:l.length<=1000000):SpecL prog 76 #[v] M R λu M' Q=>u=.tuple #[]/\M'=M/\Own v Q 9 1 l.length (Lt (Lx l)):=by
 intro w i;rcases F.2 with⟨rfl,P,rfl⟩|⟨g,c,a,rfl,rfl,O,N,L,K⟩
 ·have G:l=[]:=List.length_eq_zero_iff.1 P;subst G;have h:=AnyM.slices_Sort_string_none wWs none 0 w;change Calls prog 76 _ _ _ at h;refine h.mono ?_;rintro e D ⟨rfl,rfl⟩;exact⟨_,M,[],rfl,⟨rfl,rfl,by simp[Lx],.inl ⟨rfl,rfl,rfl⟩⟩,i⟩
 have d:w.heap[g]? =some (.cells a 9 (0,0)):=(i.locs (g,.cells a 9 (0,0)) (by simp)).1;have z:∀j,j<l.length->a[j]? =some (.string (AD (l.getD j []))):=λj b=>by
  have C:(a.toList.take (l.length*1))[j]? =(Lt l)[j]? :=by rw[K]
  rw[List.getElem?_take,if_pos (by omega)]at C;rw[<-Array.getElem?_toList,C];simp[Lt,b,getD]
 have I:Holds encStr w g 0 l.toArray:=λj b=>by
  have b:j<l.length:=by simpa using b
  refine⟨?_,?_⟩
  ·simp only[World.cell?,d,Nat.zero_add];have:=z j b;simpa [b,getD,AD]using this
  simp[World.frozen?,d]
 have h:=AnyM.slices_Sort_string wWs g 0 c l w I (Bw d) (by omega);change Calls prog 76 _ _ _ at h;refine h.mono ?_;rintro e D ⟨rfl,n,E,rfl⟩;have m:(putRow encStr (Sort.ahead w n) g 0 (Lx l).toArray).heap[g]? =some (.cells (putCells encStr 0 (Lx l).toArray a) 9 (0,0)):=by
  simp[putRow,mapBlock,Sort.ahead,Array.getElem?_modify,d,onCells]
 have f:St _ M ([]++(g,.cells (putCells encStr 0 (Lx l).toArray a) 9 (0,0))::[]) (putRow encStr (Sort.ahead w n) g 0 (Lx l).toArray):=
  St.setObj (A:=[]) (B:=[]) (o:=.cells a 9 (0,0)) i rfl rfl rfl (by simp[Sort.ahead]) m (λk H=>by simp[putRow,mapBlock,Sort.ahead,Array.getElem?_modify,Ne.symm H])
 have y:Below (putRow encStr (Sort.ahead w n) g 0 (Lx l).toArray).heap.size (putRow encStr (Sort.ahead w n) g 0 (Lx l).toArray) (grow (putRow encStr (Sort.ahead w n) g 0 (Lx l).toArray) E):=⟨rfl,rfl,rfl,by simp[grow],λj b=>by simp[grow,Array.getElem?_append_left b]⟩;refine⟨_,M,_,rfl,⟨rfl,rfl,by simp[Lt,H0],.inr ⟨g,c,putCells encStr 0 (Lx l).toArray a,rfl,rfl,O,N,by simp[putCells,L],?_⟩⟩,St.closed _ _ _ _ _ f y⟩;refine List.ext_getElem? λj=>?_;rw[List.getElem?_take];by_cases b:j<l.length
 ·rw [if_pos (by omega),Array.getElem?_toList];have J:=z j b;have s:j<(Lx l).length:=by rw[H0];exact b
  simp[putCells,J,s,Lt,AD]
 rw[if_neg (by omega)];refine(List.getElem?_eq_none ?_).symm;rw[length_map,H0];omega
def Kt(p:Po)(q:Ask):Option (Po×Rep):=(Eb p q.path).bind λc=>if c.2.dir then (DT p c.1 c.2.id).map λl=>(p,{ Bp with names:=Lx (l.1.map (·.1)) })else none
structure LiI where
 k:Nat
 v:Value
 R:Lc
theorem wFs(p:Po)(x:V5)(M:Mem)(h:PW M x p)(hT:Tabs M)(q:Ask)(hq:q.path.length<=1000000)(g:Value)(b:Nat):SpecL prog 36 #[pB b] M [BI b x p.gen p.root p.next q g 0 AL AL AP] λu M' L'=>MeR (Kt p q) q g b u M' L':=by
 refine sB func36 ntmps36 ?_;intro W;refine gh ?_;refine AV [BI b x p.gen p.root p.next q g 0 AL AL AP] (by kernel_rfl) (by simp) ?_;refine gk [0,1,2,3,4,5,6,7,8] ?_;refine wXc 9 14 15 [10,11,12,13] [116,117,18] (λM' Z=>Dg p x M' (h.mono Z) q.path (hT.mono Z) hq) ?_;rintro _ M1 G ⟨v,i,y,e,rfl,X,hi,Y⟩;refine gy λb3 b4=>?_;refine gg ?_;refine gj (λf=>?_) λf=>?_
 ·refine gh ?_;refine zd [BI b x p.gen p.root p.next q g 0 AL AL AP] rfl ?_;exact .no f (by unfold Kt;rw[Y.err f];rfl)
 obtain⟨_,c,N,rfl,rfl⟩:=Y.val f;obtain⟨H,yd,y3,y4⟩:=y;cases yd with
 |false=>
  refine gh ?_
  refine zd [BI b x p.gen p.root p.next q g 0 AL AL AP] rfl ?_
  exact .no (by decide) (by unfold Kt;rw[N];rfl)
 |true=>
 have hA:Kt p q=(DT p v H).map λl=>(p,{ Bp with names:=Lx (l.1.map (·.1)) }):=by unfold Kt;rw[N];rfl
 refine gh ?_;refine D7 [0,1,2,3,4,5,6,7,108,9,10,11,12,13] [BI b x p.gen p.root p.next q g 0 AL AL AP,(b3,cE [.int .u32 v,.int .u32 H] 123)] ?_;refine gh ?_;refine dh rfl (hC (Hx p x M1 (h.mono G) v H hi)) ?_;rintro _ T _ ⟨F,R,rfl,⟨l,sl,w,e,rfl,⟨w2,J⟩,o⟩,rfl⟩;refine⟨F,by simp,?_⟩;obtain⟨a,c,a2,c2,rfl,rfl,N,ad,L,ac,hl,ab,aa⟩:=J;refine gg ?_;refine CC (α:=LiI) (λz=>[(0,pB b),(5,.int .i64 e),(43,.slice a l.length c),(44,.int .i64 l.length),(45,.int .i64 z.k)]) (λ_=>T) (λz=>BI b x p.gen p.root p.next q g 0 AL z.v AP::(z.R++[])) (λz=>z.k<=l.length/\Own z.v z.R 9 1 z.k (Lt ((l.take z.k).map (·.1)))) (λz=>l.length-z.k) ⟨0,AL,[]⟩ ⟨Nat.zero_le _,Own.nil _ _⟩ ?_;rintro⟨k,ov,R⟩ ⟨hk,s⟩;try dsimp only at hk s⊢
 obtain⟨V,U,rfl⟩:=s.form;refine gj (λP=>?_) λP=>?_
 ·have B:k<l.length:=by omega
  obtain⟨sb,so,e0,hx⟩:=L.open (by intro e;have:=congrArg List.length e;rw[Aj H6 2 Gb,List.length_nil]at this;omega);cases e0;have D:=Bs H6 2 Gb hx (List.getElem?_eq_getElem B);have j:(l.take (k+1)).map (·.1)=(l.take k).map (·.1)++[l[k].1]:=by rw[List.take_succ_eq_append_getElem B,List.map_append];rfl
  generalize l[k]=nk at D j;obtain⟨n,I⟩:=nk;dsimp only at j;refine gg ?_;refine lq (A1 (cs:=H6 (n,I)) rfl rfl rfl rfl rfl (λi v X=>(D i v X).cj _)) ?_;refine gA λb8=>?_;refine gh ?_;refine Gt [13] [13] [0,1,2,3,4,5,6,7,108,109,10,11,12,113] T [BI b x p.gen p.root p.next q g 0 AL (.slice V k U) AP,(b8,cE (H6 (n,I)) 143)] [] ?_;refine gh ?_;refine dh rfl (Ab (cs:=[_]) rfl rfl rfl (by rfl) (by rfl) (by rfl)) ?_;rintro _ _ _ ⟨S,rfl,rfl,rfl⟩;refine⟨MLe.refl _,by simp,?_⟩;refine dh rfl (AY (R:=R) (m:=1) (news:=[.string (AD n)]) rfl rfl rfl rfl s rfl (λi v h=>CJ.loc (by simpa using h)) rfl rfl (by simp[Value.oneCell']) (by omega) (by decide)) ?_;rintro v3 _ _ ⟨rfl,S2,rfl,d,_⟩;refine⟨MLe.refl _,by simp,?_⟩;obtain⟨ob,od,rfl⟩:=d.form;refine gh ?_;refine BD ⟨k+1,_,S2⟩ ⟨by show k+1<=l.length;omega,by dsimp only;rw[j];unfold Lt at d ⊢;rw[List.map_append];exact d⟩ (hs:=by
   intro w J;refine St.sel (C:=[(S,cE [.string (AD n)] 9),(b8,cE (H6 (n,I)) 143)]) J ?_;dsimp only[BI,clc];exact BE)
 obtain rfl:k=l.length:=by omega
 rw[List.take_length]at s;refine gC (ZO (l.map (·.1)) _ R T (by rw[length_map];exact s) (by rw[length_map];omega)) ?_;rintro _ M3 R3 ae ⟨rfl,rfl,d⟩;refine gh ?_;refine LT d (by simp) ?_;intro M4 a4 c4 O e4 E K;rw[length_map]at e4 E;cases e4;refine zd [BI b x p.gen p.root p.next q g 0 AL (.slice V l.length U) AP] rfl ?_;by_cases Q:e=0
 ·subst Q;obtain⟨_,_,hn,rfl⟩:=o.val (λk=>k rfl);exact⟨x,_,_,_,0,0,_,_,_,rfl,rfl,.yes _ (by rw[hA,hn];rfl) ⟨(h.mono (G.trans F)).mono O,rfl,rfl,rfl,rfl,BS.nil0,⟨_,_,by dsimp only;rw[H0,length_map],by dsimp only;rw[H0,length_map];exact E,K⟩,rfl⟩⟩
 exact .no Q (by rw[hA,o.err Q];rfl)
end
def kindsL:List Nat:=[0,0,0,0,0,1,1,1,1,1,1,2,2,1,2,1,1,1,0]
def Kinds(M:Mem):Prop:=∃c e fz,M 0=some (.cells c e fz)/\∀i,i<19->c[i]? =some (.int .i64 ((kindsL.getD i 0:Nat):Int))
variable{M M':Mem}
theorem Kinds.mono(h:Kinds M)(a:MLe M M'):Kinds M':=by
 obtain⟨c,e,fz,d,b⟩:=h;exact⟨c,e,fz,a _ _ d,b⟩
theorem wNh(i:Nat):kindsL.getD i 0<=2:=by
 by_cases h:i<19
 ·have:∀j:_root_.Fin 19,kindsL.getD j.val 0<=2:=by decide
  exact this ⟨i,h⟩
 rw[List.getD_eq_getElem?_getD,List.getElem?_eq_none (by unfold kindsL;simp only[List.length_cons,List.length_nil];omega)];simp
def HQ(q:Ask):Bool:=decide (1<=q.kind/\q.kind<19)&&([q.path,q.other].take (kindsL.getD q.kind.toNat 0)).all λs=>(DY s).isSome
structure AkI where
 k:Nat
 M:Mem
theorem VW(q:Ask)(hk:0<=q.kind/\q.kind<256)(hq:q.path.length<=1000000)(O:q.other.length<=1000000)(L:Value)(M:Mem)(P:Tabs M)(Q:Kinds M):SpecL prog 16 #[.agg (JG q L).toArray] M [] λu M' V=>(∃e:Int,u=.int .i64 e/\(e=0↔HQ q=true)/\(¬(1<=q.kind/\q.kind<19)->e=2))/\V=[]:=by
 refine sB func16 ntmps16 ?_;intro W;refine ga λS=>?_;refine gg ?_;by_cases K:q.kind<1
 ·rw [decide_eq_true K];refine gr ?_;exact⟨⟨2,rfl,by unfold HQ;simp;omega,λ_=>rfl⟩,rfl⟩
 rw[decide_eq_false K];refine gg ?_;refine lq (ED rfl rfl rfl (by rw[IntKind.wrap_i64];omega)) ?_;refine gj (λR=>?_) λR=>?_
 ·refine gr ?_;exact⟨⟨2,rfl,by unfold HQ;simp;omega,λ_=>rfl⟩,rfl⟩
 have J:∀e:Int,¬(1<=q.kind/\q.kind<19)->e=2:=λe k=>absurd ⟨by omega,by omega⟩ k;obtain⟨Z,Y,X,G,E⟩:=Q;have y:=E q.kind.toNat (by omega);have D:=wNh q.kind.toNat;have g:HQ q=([q.path,q.other].take (kindsL.getD q.kind.toNat 0)).all λs=>(DY s).isSome:=by unfold HQ;rw[decide_eq_true ⟨by omega,by omega⟩];rfl
 generalize kindsL.getD q.kind.toNat 0=n at y D g;refine gg ?_;refine D7 [0,1,2,3,5,6,7,8,11,104,9,10] [(S,cE (JG q L) 39)] ?_;refine gh ?_;refine dq rfl (F7 rfl rfl rfl rfl (by omega)) ?_;refine dq rfl (Au rfl rfl rfl rfl (CM.cj ⟨_,_,_,G,by rw[Nat.mul_one,Nat.zero_add];exact y⟩ _)) ?_;refine gh ?_;refine dh rfl (Ab (cs:=[_,_]) rfl rfl rfl (by rfl) (by rfl) (by rfl)) ?_;rintro _ _ _ ⟨i,rfl,rfl,rfl⟩;refine⟨MLe.refl _,by simp,?_⟩;refine dq rfl (Bh (CL rfl rfl rfl (.no _) (.of (v:=n) rfl (by omega) rfl) (.no _) (by omega) (by simp)) (v':=.slice (some ⟨i,0,none⟩) n 2) (by rw[AU];rfl)) ?_;refine gg ?_;refine CC (α:=AkI) (λz=>[(26,.slice (some ⟨i,0,none⟩) n 2),(27,.int .i64 n),(28,.int .i64 z.k)]) (λz=>z.M) (λz=>[(i,cE [.string (AD q.path),.string (AD q.other)] 9)]) (λz=>z.k<=n/\(([q.path,q.other].take z.k).all λs=>(DY s).isSome)=true/\MLe M z.M) (λz=>n-z.k) ⟨0,M⟩ ⟨Nat.zero_le _,rfl,MLe.refl _⟩ ?_;rintro⟨k,T⟩ ⟨F,b,h⟩;try dsimp only at F b h⊢
 refine gj (λI=>?_) λI=>?_
 ·have f:k<[q.path,q.other].length:=by simp;omega
  have j:([q.path,q.other].take (k+1)).all (λs=>(DY s).isSome)=(DY [q.path,q.other][k]).isSome:=by rw[List.take_succ_eq_append_getElem f,List.all_append,b];simp
  have w:([q.path,q.other][k]).length<=1000000:=by
   have:∀s∈[q.path,q.other],s.length<=1000000:=by simp;omega
   exact this _ (List.getElem_mem f)
  have B:[Value.string (AD q.path),.string (AD q.other)][k]? =some (.string (AD [q.path,q.other][k])):=by
   rcases (show k=0\/k=1 by simp at f;omega)with rfl|rfl<;>rfl
  have o:(DY [q.path,q.other][k]).isSome=false->HQ q=false:=λC=>by
   rw[g,List.all_eq_false];exact⟨[q.path,q.other][k],by rw[List.mem_take_iff_getElem];exact⟨k,by simp;omega,rfl⟩,by simp[C]⟩
  generalize [q.path,q.other][k]=s at j w B o;refine gg ?_;refine lq (Au rfl rfl rfl rfl (v:=.string (AD s)) ⟨[.string (AD q.path),.string (AD q.other)].toArray,9,(0,0),.inr (by simp),by rw[Nat.zero_add,Int.toNat_natCast,Nat.mul_one,List.getElem?_toArray];exact B⟩) ?_;refine gc (GJ s T (P.mono h) w) ?_;rintro _ U H ⟨v,l,a,c,e,rfl,hv,hc,hl,N,he,m⟩;refine gj (λd=>?_) λd=>?_
  ·refine gr ?_;exact⟨⟨e,rfl,by rw[o (by rw[m.err d];rfl)];simp[d],J e⟩,rfl⟩
  obtain⟨_,_,C,rfl⟩:=m.val d;refine gh ?_;refine BD ⟨k+1,U⟩ ⟨by show k+1<=n;omega,by rw[j,C];rfl,h.trans H⟩
 obtain rfl:k=n:=by omega
 refine gr ?_;exact⟨⟨0,rfl,by rw[g,b];simp,J 0⟩,rfl⟩
def Us(p:Po)(q:Ask):Nat->Option (Po×Rep)
 |1=>DQ p
 |2=>P0 p q
 |3=>Ht p q
 |4=>Fn p q
 |5=>Jd p q
 |6=>Jd p q
 |12=>NY p q
 |13=>EL p q
 |14=>Fm p q
 |15=>F2 p q
 |16=>Kt p q
 |17=>NP p q
 |18=>Qb p q
 |_=>GW p q
def Jt(p:Po)(q:Ask):Option (Po×Rep):=if HQ q=true then Us p q q.kind.toNat else none
def Qy(b:Nat)(f:Nat):Value:=.func (.func f) #[pB b] #[]
def Wr(b:Nat):List Value:=[.nilFunc]++[26,27,28,29,30,30,31,31,31,31,31,32,33,34,35,36,37,38].map (Qy b)
theorem ZT(b:Nat)(M:Mem):SpecL prog 17 #[pB b] M [] λu _ a=>u=.agg (Wr b).toArray/\a=[]:=by
 refine sB func17 ntmps17 ?_;intro W;refine ga λc=>?_;refine gh ?_;refine lq (wAo (vs:=[(1,Qy b 26),(2,Qy b 27),(3,Qy b 28),(4,Qy b 29),(5,Qy b 30),(6,Qy b 30),(7,Qy b 31),(8,Qy b 31),(9,Qy b 31),(10,Qy b 31),(11,Qy b 31),(12,Qy b 32),(13,Qy b 33),(14,Qy b 34),(15,Qy b 35),(16,Qy b 36),(17,Qy b 37),(18,Qy b 38)]) (cs:=Wr b) rfl rfl rfl (by kernel_rfl)) ?_;refine gr ?_;exact⟨rfl,rfl⟩
theorem wJb(p:Po)(x:V5)(M:Mem)(h:PW M x p)(j:Fh p [])(e:Tabs M)(q:Ask)(hk:1<=q.kind/\q.kind<19)(d:q.path.length<=1000000)(c:q.other.length<=1000000)(a:Value)(g:BS M a q.data)(i:q.data.length<=1000000)(b:Nat):
  ∃f,(Wr b)[q.kind.toNat]? =some (Qy b f)/\Dn prog f=true/\SpecL prog f #[pB b] M [BI b x p.gen p.root p.next q a 0 AL AL AP] λu M' l=>MeR (Us p q q.kind.toNat) q a b u M' l:=by
 have k:∀n:Nat,1<=n->n<19->∃f,(Wr b)[n]? =some (Qy b f)/\Dn prog f=true/\SpecL prog f #[pB b] M [BI b x p.gen p.root p.next q a 0 AL AL AP] λu M' l=>MeR (Us p q n) q a b u M' l:=λn o m=>by
  match n,o,m with
  |1,_,_=>exact⟨_,rfl,by kernel_rfl,wFw p x M h j q a b⟩
  |2,_,_=>exact⟨_,rfl,by kernel_rfl,wFo p x M h j q a b⟩
  |3,_,_=>exact⟨_,rfl,by kernel_rfl,wFv p x M h j q a b⟩
  |4,_,_=>exact⟨_,rfl,by kernel_rfl,wFq p x M h j q a b⟩
  |5,_,_=>exact⟨_,rfl,by kernel_rfl,Ta p x M h e q d a b⟩
  |6,_,_=>exact⟨_,rfl,by kernel_rfl,Ta p x M h e q d a b⟩
  |7,_,_=>exact⟨_,rfl,by kernel_rfl,GL p x M h e q d c a g i b⟩
  |8,_,_=>exact⟨_,rfl,by kernel_rfl,GL p x M h e q d c a g i b⟩
  |9,_,_=>exact⟨_,rfl,by kernel_rfl,GL p x M h e q d c a g i b⟩
  |10,_,_=>exact⟨_,rfl,by kernel_rfl,GL p x M h e q d c a g i b⟩
  |11,_,_=>exact⟨_,rfl,by kernel_rfl,GL p x M h e q d c a g i b⟩
  |12,_,_=>exact⟨_,rfl,by kernel_rfl,wFt p x M h e q d c a b⟩
  |13,_,_=>exact⟨_,rfl,by kernel_rfl,wFm p x M h e q d a b⟩
  |14,_,_=>exact⟨_,rfl,by kernel_rfl,wFp p x M h e q d c a b⟩
  |15,_,_=>exact⟨_,rfl,by kernel_rfl,wFk p x M h e q d a b⟩
  |16,_,_=>exact⟨_,rfl,by kernel_rfl,wFs p x M h e q d a b⟩
  |17,_,_=>exact⟨_,rfl,by kernel_rfl,wFn p x M h e q d a b⟩
  |18,_,_=>exact⟨_,rfl,by kernel_rfl,wFr p x M h j q a b⟩
  |n+19,_,m=>omega
 exact k _ (by omega) (by omega)
abbrev wEe(e i:Int)(rd rn:Value)(z:Ino):List Value:=[.int .i64 e,.int .i64 i,rd,rn,.int .u32 z.id,.bool z.dir,.int .i64 z.links,.int .i64 z.size]
def DoX(X:Int->Prop)(p:Po)(q:Ask)(u:Value)(M':Mem):Prop:=∃(y:V5)(o:Po)(r:Rep)(e:Int)(rd rn:Value),u=.tuple #[DH o y,.agg (wEe e r.id rd rn r.stat).toArray]/\PW M' y o/\BS M' rd r.data/\NaS M' rn r.names/\((e=0/\Jt p q=some (o,r))\/(e≠0/\Jt p q=none/\o=p/\r=Bp/\X e))
def DoR(p:Po)(q:Ask)(u:Value)(M':Mem):Prop:=∃(y:V5)(o:Po)(r:Rep)(e:Int)(rd rn:Value),u=.tuple #[DH o y,.agg (wEe e r.id rd rn r.stat).toArray]/\PW M' y o/\BS M' rd r.data/\NaS M' rn r.names/\((e=0/\Jt p q=some (o,r))\/(e≠0/\Jt p q=none/\o=p/\r=Bp))
variable{X:Int->Prop}{u:Value}
theorem DoX.r{p:Po}{q:Ask}(h:DoX X p q u M'):DoR p q u M':=by
 obtain⟨y,o,r,e,rd,rn,f,d,c,b,a⟩:=h;exact⟨y,o,r,e,rd,rn,f,d,c,b,a.imp id λk=>⟨k.1,k.2.1,k.2.2.1,k.2.2.2.1⟩⟩
theorem DoR.x{p:Po}{q:Ask}(h:DoR p q u M'):DoX (λ_=>True) p q u M':=by
 obtain⟨y,o,r,e,rd,rn,f,d,c,b,a⟩:=h;exact⟨y,o,r,e,rd,rn,f,d,c,b,a.imp id λk=>⟨k.1,k.2.1,k.2.2.1,k.2.2.2,trivial⟩⟩
theorem Le(p:Po)(x:V5)(M:Mem)(h:PW M x p)(c:Fh p []):SpecL prog 18 #[DH p x] M [] λu M' d=>(∃y,u=DH p y/\PW M' y p)/\d=[]:=
 (Zm p _ M h.pt.pt c.st h.dead).mono λ_ _ _ a=>⟨by
  obtain⟨y,rfl,b⟩:=a.1.five
  exact⟨y,rfl,b,h.dead,h.next⟩,a.2⟩
end Go.Proofs.YtjheijhahehnmaaGreatDoor
