/- Lemmas. -/
import Derived.Test.YtjheijhahehnmaaGreatDoorXCm
import Derived.Shelf.SortM.SortNone
namespace Go.Proofs.YtjheijhahehnmaaGreatDoor
open Go.Proofs.Tryz
open List (getD length_map)
set_option linter.unusedSimpArgs false
set_option linter.unusedVariables false
set_option linter.unusedSectionVars false
set_option maxHeartbeats 40000000
set_option maxRecDepth 8000
open Go.RowKit
structure Ask where
 kind:Int
 path:List By
 other:List By
 a:Int
 b:Int
 c:Int
 data:List By
structure Rep where
 id:Int
 data:List By
 names:List (List By)
 stat:Ino
abbrev AQ:Ino:=⟨0,false,0,0⟩
abbrev Cf:Rep:=⟨0,[],[],AQ⟩
abbrev AP:Value:=sN
def NaS(M:Mem)(v:Value)(l:List (List By)):Prop:=∃a c,v=.slice a l.length c/\l.length<=c/\SM M a (KU l)
variable{M M':Mem}{l:List (List By)}
theorem NaS.mono{v:Value}(h:NaS M v l)(b:MLe M M'):NaS M' v l:=by
 obtain⟨a,c,f,e,d⟩:=h;exact⟨a,c,f,e,d.mono b⟩
theorem NaS.nil:NaS M AP []:=⟨none,0,rfl,lR,SM.nil⟩
theorem BS.nil0:BS M AP []:=⟨none,0,rfl,lR,SM.nil⟩
abbrev clc(x:V5)(g r1 n:Int)(q:Ask)(dv:Value)(i:Int)(rd rn:Value)(z:Ino):List Value:=[x.b.v,x.w.v,x.n.v,x.l.v,iU g,iL r1,iU n,x.d.v,iB q.kind,.string (AK q.path),.string (AK q.other),iL q.a,iL q.b,iL q.c,dv,iL 0,iL i,rd,rn,iU z.id,.bool z.dir,iL z.links,iL z.size]
abbrev BV(b:Nat)(x:V5)(g r1 n:Int)(q:Ask)(dv:Value)(i:Int)(rd rn:Value)(z:Ino):Nat×Obj:=(b,cE (clc x g r1 n q dv i rd rn z) 61)
def MeR(r:Option (Po×Rep))(q:Ask)(dv:Value)(b:Nat)(u:Value)(M':Mem)(L':Lc):Prop:=∃(y:V5)(g r1 n i e:Int)(rd rn:Value)(z:Ino),u=iL e/\L'=[BV b y g r1 n q dv i rd rn z]/\Rs r e λo=>PW M' y o.1/\g=o.1.gen/\r1=o.1.root/\n=o.1.next/\i=o.2.id/\BS M' rd o.2.data/\NaS M' rn o.2.names/\z=o.2.stat
variable{b:Nat}{dv rd:Value}{g i:Int}{y:V5}{z:Ino}
theorem MeR.no{r:Option (Po×Rep)}{q:Ask}{r1 n e:Int}{a:Value}(h:e≠0)(c:r=none):MeR r q dv b (iL e) M' [BV b y g r1 n q dv i rd a z]:=⟨y,g,r1,n,i,e,rd,a,z,rfl,rfl,.no h c⟩
theorem PW.me{r:Option (Po×Rep)}{q:Ask}{a:Value}{b:Nat}{p:Po}{i:Int}(h:PW M' y p)(c:r=some (p,{ Cf with id:=i })):MeR r q a b (iL 0) M' [BV b y p.gen p.root p.next q a i AP AP AQ]:=⟨y,_,_,_,i,0,_,_,_,rfl,rfl,.yes _ c ⟨h,rfl,rfl,rfl,rfl,BS.nil0,NaS.nil,rfl⟩⟩
theorem RH{r:Except Int Po}:(KO r i).toOption=r.toOption.map (·,i):=by cases r<;>rfl
variable{u:Value}
theorem PoP2.r{r:Except Int (Po×Int)}(h:PoP2 .u32 r u M')(hk:∀q i,r=.ok (q,i)->q.dead.length<=1000000/\0<=q.next/\q.next<4294967296):PoI r.toOption u M':=by
 match r,h with
 |.error e,h=>exact⟨Pv,0,0,0,0,e,h.2,.no h.1 rfl⟩
 |.ok (q,i),h=>
  obtain⟨y,rfl,a⟩:=h
  have:=hk q i rfl
  exact⟨y,_,_,_,_,0,rfl,.yes (q,i) rfl ⟨⟨a,this.1,this.2⟩,rfl,rfl,rfl,rfl⟩⟩
variable{α:Type}
theorem PX{r:Except Int α}{a:α}(h:r=.ok a):r.toOption=some a:=by rw[h];rfl
theorem wFo(p:Po)(x:V5)(M:Mem)(h:PW M x p)(c:Fh p []):Sg 55 #[DM p x] M [] λu M' d=>PoI ((wTc p).map (·,p.next)) u M'/\d=[]:=
 (Wp p x M h.pt h.dead h.next).mono λ_ _ _ b=>⟨by
  have:=b.1.r λq i a=>(c.create (r:=q) (PX (by unfold KO at a;split at a<;>cases a;assumption))).nx
  rw[RH]at this;exact this,b.2⟩
theorem wFf(p:Po)(x:V5)(M:Mem)(h:PW M x p)(d:Fh p [])(v:Int)(c:u32 v)(f:Bool):Sg 58 #[DM p x,iU v,.bool f] M [] λu M' e=>PoI ((wQg p v f).map (·,p.next)) u M'/\e=[]:=
 (wBe p x M h.pt h.dead h.next v f).mono λ_ _ _ b=>⟨by
  have:=b.1.r λq i a=>(d.snap (r:=q) c (PX (by unfold KO at a;split at a<;>cases a;assumption))).nx
  rw[RH]at this;exact this,b.2⟩
theorem wFk(p:Po)(x:V5)(M:Mem)(h:PW M x p)(c:Fh p [])(v:Int)(a:u32 v)(f:Bool):Sg 59 #[DM p x,iU v,.bool f] M [] λu M' e=>PoR (wSu p v f) u M'/\e=[]:=
 (V2 p x M h.pt h.dead v a f).mono λ_ _ _ b=>⟨b.1.r λq d=>(c.freeze a (PX d)).nx,b.2⟩
theorem wFg(p:Po)(x:V5)(M:Mem)(h:PW M x p)(b:Fh p [])(v:Int):Sg 61 #[DM p x,iU v] M [] λu M' d=>PoR (wQu p v) u M'/\d=[]:=
 (wBv p x M h.pt h.dead v).mono λ_ _ _ a=>⟨a.1.r λq c=>(b.delete (PX c)).nx,a.2⟩
theorem wMy(p:Po)(x:V5)(M:Mem)(h:PW M x p)(b:Fh p []):Sg 78 #[DM p x] M [] λu M' d=>PoR (rpO p) u M'/\d=[]:=
 (wBs p x M h.pt h.dead).mono λ_ _ _ a=>⟨a.1.r λq c=>(b.reap (PX c)).nx,a.2⟩
theorem SX(n a b:Int)(M:Mem):Sg 77 #[iL n,iL a,iL b] M [] λu _ _=>u=.bool (decide (a<=n/\n<=b)):=by
 refine sB func77 ntmps77 ?_;intro W;refine gj (λc=>?_) λc=>?_
 ·refine gr ?_;exact cA _ (decide_eq_decide.2 (by omega))
 refine gr ?_;rw[dF (by omega)]
def wGg(q:Ask):Option Int:=if 0<=q.a/\q.a<=4294967295 then some q.a else none
def wAe(q:Ask):Option Int:=if 0<=q.b/\q.b<=1 then wGg q else none
section
variable(x:V5)(g r1 n:Int)(q:Ask)(dv:Value)(i:Int)(rd rn:Value)(z:Ino)(b:Nat)(M:Mem)
def NuA(r:Option Int)(K:Nat×Obj)(u:Value)(L':Lc):Prop:=∃v e,u=.tuple #[iU v,iL e]/\L'=[K]/\u32 v/\Rs r e (v=·)
theorem SR:Sg 60 #[pB b] M [BV b x g r1 n q dv i rd rn z] λu M' d=>NuA (wGg q) (BV b x g r1 n q dv i rd rn z) u d:=by
 refine sB func60 ntmps60 ?_;intro W;refine gq (SX q.a 0 4294967295 M) ?_;by_cases c:0<=q.a/\q.a<=4294967295
 ·rw [dT c];refine gg ?_;refine lq (Eo rfl rfl rfl (by rw[IntKind.wrap_u32];omega)) ?_;refine gh ?_;refine zd [BV b x g r1 n q dv i rd rn z] rfl ?_;exact⟨q.a,0,rfl,rfl,by unfold u32;omega,.yes _ (iP c) rfl⟩
 rw[dF c];refine gh ?_;refine zd [BV b x g r1 n q dv i rd rn z] rfl ?_;exact⟨0,6,rfl,rfl,Hz,.no (by decide) (iN c)⟩
theorem SQ:Sg 57 #[pB b] M [BV b x g r1 n q dv i rd rn z] λu M' h=>NuA (wAe q) (BV b x g r1 n q dv i rd rn z) u h:=by
 refine sB func57 ntmps57 ?_;intro W;refine gq (SX q.b 0 1 M) ?_;by_cases a:0<=q.b/\q.b<=1
 ·rw [dT a];refine gC (SR x g r1 n q dv i rd rn z b M) ?_;rintro _ j _ f ⟨v,e,rfl,rfl,c,d⟩;refine gh ?_;refine zd [BV b x g r1 n q dv i rd rn z] rfl ?_;exact⟨v,e,rfl,rfl,c,by unfold wAe;rw[iP a];exact d⟩
 rw[dF a];refine gh ?_;refine zd [BV b x g r1 n q dv i rd rn z] rfl ?_;exact⟨0,2,rfl,rfl,Hz,.no (by decide) (iN a)⟩
end
def Ey(p:Po):Option (Po×Rep):=(wTc p).bind λq=>(Nu q p.next).map λr=>(r,{ Cf with id:=p.next })
theorem wDj(p:Po)(x:V5)(M:Mem)(h:PW M x p)(I:Fh p [])(q:Ask)(f:Value)(b:Nat):Sg 26 #[pB b] M [BV b x p.gen p.root p.next q f 0 AP AP AQ] λu M' K=>MeR (Ey p) q f b u M' K:=by
 refine sB func26 ntmps26 ?_;intro W;refine gc (wFo p x M h I) ?_;rintro _ J H ⟨y,g,r1,n,j,e,rfl,z⟩;refine gj (λa=>?_) λa=>?_
 ·obtain ⟨_,o,E,B,rfl,rfl,rfl,rfl⟩:=z.val (λk=>k a);subst a;obtain⟨w,l,rfl⟩:=oM E;dsimp only at B⊢;refine gc (XY w y J B p.next (by have:=h.next;unfold u32;omega)) ?_;rintro _ N G ⟨D,g,r1,n,e,rfl,c⟩;refine gg ?_;refine lq (CZ rfl rfl rfl (by have:=h.next;omega)) ?_;refine gh ?_;refine zd [BV b D g r1 n q f p.next AP AP AQ] rfl ?_;have d:Ey p=(Nu w p.next).map λr=>(r,{ Cf with id:=p.next }):=by unfold Ey;rw[l];rfl
  by_cases s:e=0
  ·subst s;obtain⟨_,L,i,m,rfl,rfl,rfl⟩:=c.val (λk=>k rfl);exact m.me (by rw[d,i];rfl)
  exact .no s (by rw[d,c.err s];rfl)
 refine gg ?_;refine lq (Bm rfl rfl rfl) ?_;refine gh ?_;refine zd [BV b y g r1 n q f _ AP AP AQ] rfl ?_;have C:=z.err a;exact .no a (by unfold Ey;cases F:wTc p with
  |none=>rfl
  |some _=>rw[F]at C;cases C)
variable{j:Int}
theorem PoI.cases{r:Option Po}(h:PoI (r.map (·,j)) u M'):∃(y:V5)(g r1 n i e:Int),u=.tuple #[.agg (Bk y g r1 n).toArray,iU i,iL e]/\Rs r e λq=>PW M' y q/\g=q.gen/\r1=q.root/\n=q.next/\i=j:=by
 obtain⟨y,g,r1,n,i,e,rfl,c⟩:=h;refine⟨y,g,r1,n,i,e,rfl,?_⟩;by_cases b:e=0
 ·subst b;obtain⟨_,o,l,f,rfl,rfl,rfl,rfl⟩:=c.val (λk=>k rfl);obtain⟨d,a,rfl⟩:=oM l;exact .yes d a ⟨f,rfl,rfl,rfl,rfl⟩
 have m:=c.err b;exact .no b (by cases r with
  |none=>rfl
  |some _=>cases m)
def PD(p:Po)(q:Ask):Option (Po×Rep):=(wAe q).bind λv=>(wQg p v (decide (q.b=1))).map λr=>(r,{ Cf with id:=p.next })
theorem wDb(p:Po)(x:V5)(M:Mem)(h:PW M x p)(F:Fh p [])(q:Ask)(c:Value)(b:Nat):Sg 27 #[pB b] M [BV b x p.gen p.root p.next q c 0 AP AP AQ] λu M' H=>MeR (PD p q) q c b u M' H:=by
 refine sB func27 ntmps27 ?_;intro W;refine gC (SQ x p.gen p.root p.next q c 0 AP AP AQ b M) ?_;rintro _ C _ w ⟨v,e,rfl,rfl,E,B⟩;refine gj (λa=>?_) λa=>?_
 ·obtain ⟨_,_,D,rfl⟩:=B.val (λk=>k a);have d:PD p q=(wQg p v (decide (q.b=1))).map λr=>(r,{ Cf with id:=p.next }):=by unfold PD;rw[D];rfl
  refine gg ?_;refine Ga [19] [15,16,19,20,21] [0,1,2,3,4,5,6,7,8,9,10,11,112,13,14,15,16,17,18,119,20,21] C ([BV b x p.gen p.root p.next q c 0 AP AP AQ]) [] ?_;refine gh ?_;refine dh rfl (hC (wFf p x C (h.mono w) F v E (decide (q.b=1)))) ?_;rintro _ J _ ⟨s,R,rfl,m,rfl⟩;obtain⟨y,g,r1,n,j,G,rfl,f⟩:=m.cases;refine⟨s,by simp,?_⟩;refine gg ?_;refine lq (Bm rfl rfl rfl) ?_;refine gh ?_;refine zd [BV b y g r1 n q c _ AP AP AQ] rfl ?_;by_cases z:G=0
  ·subst z;obtain⟨_,I,l,o,rfl,rfl,rfl,rfl⟩:=f.val (λk=>k rfl);have i:IntKind.wrap .i64 p.next=p.next:=by rw[IntKind.wrap_i64];have:=h.next;omega
   rw[i];exact o.me (by rw[d,l];rfl)
  exact .no z (by rw[d,f.err z];rfl)
 refine gg ?_;refine lq (Bm rfl rfl rfl) ?_;refine gh ?_;refine zd [BV b x p.gen p.root p.next q c _ AP AP AQ] rfl ?_;exact .no a (by unfold PD;rw[B.err a];rfl)
def G6(p:Po)(q:Ask):Option (Po×Rep):=(wAe q).bind λv=>(wSu p v (decide (q.b=1))).map λr=>(r,Cf)
theorem wDi(p:Po)(x:V5)(M:Mem)(h:PW M x p)(C:Fh p [])(q:Ask)(c:Value)(b:Nat):Sg 28 #[pB b] M [BV b x p.gen p.root p.next q c 0 AP AP AQ] λu M' E=>MeR (G6 p q) q c b u M' E:=by
 refine sB func28 ntmps28 ?_;intro W;refine gC (SQ x p.gen p.root p.next q c 0 AP AP AQ b M) ?_;rintro _ w _ m ⟨v,e,rfl,rfl,B,s⟩;refine gj (λa=>?_) λa=>?_
 ·obtain ⟨_,_,z,rfl⟩:=s.val (λk=>k a);have d:G6 p q=(wSu p v (decide (q.b=1))).map λr=>(r,Cf):=by unfold G6;rw[z];rfl
  refine gg ?_;refine Ga [18] [15,18,19] [0,1,2,3,4,5,6,7,8,9,10,11,112,13,14,15,16,17,118,19] w ([BV b x p.gen p.root p.next q c 0 AP AP AQ]) [] ?_;refine gh ?_;refine dh rfl (hC (wFk p x w (h.mono m) C v B (decide (q.b=1)))) ?_;rintro _ G _ ⟨l,R,rfl,⟨y,g,r1,n,D,rfl,f⟩,rfl⟩;refine⟨l,by simp,?_⟩;refine gh ?_;refine zd [BV b y g r1 n q c 0 AP AP AQ] rfl ?_;by_cases o:D=0
  ·subst o;obtain⟨_,F,i,j,rfl,rfl,rfl⟩:=f.val (λk=>k rfl);exact j.me (by rw[d,i];rfl)
  exact .no o (by rw[d,f.err o];rfl)
 refine gh ?_;refine zd [BV b x p.gen p.root p.next q c 0 AP AP AQ] rfl ?_;exact .no a (by unfold G6;rw[s.err a];rfl)
def GS(p:Po)(q:Ask):Option (Po×Rep):=(wGg q).bind λv=>(wQu p v).map λr=>(r,Cf)
theorem wDd(p:Po)(x:V5)(M:Mem)(h:PW M x p)(z:Fh p [])(q:Ask)(f:Value)(b:Nat):Sg 29 #[pB b] M [BV b x p.gen p.root p.next q f 0 AP AP AQ] λu M' D=>MeR (GS p q) q f b u M' D:=by
 refine sB func29 ntmps29 ?_;intro W;refine gC (SR x p.gen p.root p.next q f 0 AP AP AQ b M) ?_;rintro _ C _ l ⟨v,e,rfl,rfl,F,o⟩;refine gj (λa=>?_) λa=>?_
 ·obtain ⟨_,_,s,rfl⟩:=o.val (λk=>k a);have c:GS p q=(wQu p v).map λr=>(r,Cf):=by unfold GS;rw[s];rfl
  refine gc (wFg p x C (h.mono l) z v) ?_;rintro _ G w ⟨y,g,r1,n,B,rfl,d⟩;refine gh ?_;refine zd [BV b y g r1 n q f 0 AP AP AQ] rfl ?_;by_cases m:B=0
  ·subst m;obtain⟨_,E,i,j,rfl,rfl,rfl⟩:=d.val (λk=>k rfl);exact j.me (by rw[c,i];rfl)
  exact .no m (by rw[c,d.err m];rfl)
 refine gh ?_;refine zd [BV b x p.gen p.root p.next q f 0 AP AP AQ] rfl ?_;exact .no a (by unfold GS;rw[o.err a];rfl)
def Nx(p:Po)(q:Ask):Option (Po×Rep):=(Bp p q.path).bind λc=>(Lm p c.1 c.2.1 c.2.2 (decide (q.kind=6))).map λr=>(r.1,{ Cf with id:=r.2 })
variable{d:Bool}{s:List By}
theorem wRu{p:Po}{v:Int}{r:Po×Int}(h:Lm p v i s d=some r):0<=r.2/\r.2<4294967296:=by
 unfold Lm at h;split at h
 ·obtain ⟨m,b,g⟩:=oB h;obtain⟨l,n,f⟩:=oM g;subst f;unfold HU at b;obtain⟨y,_,a⟩:=oB b;split at a
  ·cases a
  obtain⟨k,_,e⟩:=oB a;obtain⟨j,_,c⟩:=oM e;subst c;dsimp only;omega
 cases h
theorem Sm(p:Po)(x:V5)(M:Mem)(h:PW M x p)(K:Tabs M)(q:Ask)(I:q.path.length<=1000000)(c:Value)(b:Nat):Sg 30 #[pB b] M [BV b x p.gen p.root p.next q c 0 AP AP AQ] λu M' O=>MeR (Nx p q) q c b u M' O:=by
 refine sB func30 ntmps30 ?_;intro W;refine gh ?_;refine AX [BV b x p.gen p.root p.next q c 0 AP AP AQ] (by kernel_rfl) (by simp) ?_;refine gk [0,1,2,3,4,5,6,7,8] ?_;refine wSf 9 14 [10,11,12,13] [115,16,17] (λM' E=>Dk p x M' (h.mono E) q.path (K.mono E) I) ?_;rintro _ F z ⟨v,i,s,e,rfl,H,J,_,D⟩;refine gz λN=>?_;refine gg ?_;refine gj (λa=>?_) λa=>?_
 ·obtain ⟨_,_,G,rfl⟩:=D.val (λk=>k a);have d:Nx p q=(Lm p v i s (decide (q.kind=6))).map λr=>(r.1,{ Cf with id:=r.2 }):=by unfold Nx;rw[G];rfl
  refine gg ?_;refine Ga [20] [16,17,20,21,22] [0,1,2,3,4,5,6,7,8,9,10,11,12,113,14,15,16,17,18,19,120,21,22] F ([BV b x p.gen p.root p.next q c 0 AP AP AQ,(N,cE [iU v,iU i] 123)]) [] ?_;refine gh ?_;refine dh rfl (hC (XE p x F (h.mono z) v i H J s (decide (q.kind=6)))) ?_;rintro _ P _ ⟨w,R,rfl,⟨y,g,r1,n,j,L,rfl,f⟩,rfl⟩;refine⟨w,by simp,?_⟩;refine gg ?_;refine lq (Bm rfl rfl rfl) ?_;refine gh ?_;refine zd [BV b y g r1 n q c _ AP AP AQ] rfl ?_;by_cases B:L=0
  ·subst B;obtain⟨_,C,l,o,rfl,rfl,rfl,rfl⟩:=f.val (λk=>k rfl);have m:IntKind.wrap .i64 C.2=C.2:=by rw[IntKind.wrap_i64];have:=wRu l;omega
   rw[m];exact o.me (by rw[d,l];rfl)
  exact .no B (by rw[d,f.err B];rfl)
 refine gg ?_;refine lq (Bm rfl rfl rfl) ?_;refine gh ?_;refine zd [BV b x p.gen p.root p.next q c _ AP AP AQ] rfl ?_;exact .no a (by unfold Nx;rw[D.err a];rfl)
def RR(p:Po)(q:Ask):Option (Po×Rep):=(EB p q.path).map λc=>(p,{ Cf with stat:=c.2 })
theorem wDa(p:Po)(x:V5)(M:Mem)(h:PW M x p)(m:Tabs M)(q:Ask)(j:q.path.length<=1000000)(d:Value)(b:Nat):Sg 37 #[pB b] M [BV b x p.gen p.root p.next q d 0 AP AP AQ] λu M' n=>MeR (RR p q) q d b u M' n:=by
 refine sB func37 ntmps37 ?_;intro W;refine gg ?_;refine Ga [18] [14,18,19] [0,1,2,3,4,5,6,7,8,9,110,11,12,13,14,15,16,17,118,19] M ([BV b x p.gen p.root p.next q d 0 AP AP AQ]) [] ?_;refine gh ?_;refine dh rfl (hC (C6 p x M h q.path m j)) ?_;rintro _ w _ ⟨a,R,rfl,⟨v,i,y,e,rfl,o,s,g⟩,rfl⟩;refine⟨a,by simp,?_⟩;refine gh ?_;refine zd [BV b x p.gen p.root p.next q d 0 AP AP y] rfl ?_;by_cases f:e=0
 ·subst f;obtain⟨_,c,l,rfl,rfl⟩:=g.val (λk=>k rfl);exact⟨x,_,_,_,0,0,_,_,_,rfl,rfl,.yes _ (by unfold RR;rw[l];rfl) ⟨h.mono a,rfl,rfl,rfl,rfl,BS.nil0,NaS.nil,rfl⟩⟩
 exact .no f (by unfold RR;rw[g.err f];rfl)
def Gl:Nat->Po->Po
 |0,p=>p
 |n+1,p=>match rpO p with
  |none=>p
  |some q=>Gl n q
def RZ(p:Po)(q:Ask):Option (Po×Rep):=if (0<=q.a/\q.a<=1000)/\AO (Gl q.a.toNat p)=0 then some (Gl q.a.toNat p,Cf)else none
structure ReI where
 k:Nat
 q:Po
 y:V5
 M:Mem
theorem wDe(p:Po)(x:V5)(M:Mem)(h:PW M x p)(R:Fh p [])(q:Ask)(w:Value)(b:Nat):Sg 38 #[pB b] M [BV b x p.gen p.root p.next q w 0 AP AP AQ] λu M' T=>MeR (RZ p q) q w b u M' T:=by
 refine sB func38 ntmps38 ?_;intro W;refine gq (SX q.a 0 1000 M) ?_;by_cases H:0<=q.a/\q.a<=1000;rotate_left
 ·rw [dF H];refine gh ?_;refine zd [BV b x p.gen p.root p.next q w 0 AP AP AQ] rfl ?_;exact .no (by decide) (iN λk=>H k.1)
 rw[dT H];obtain⟨n,O⟩:∃n:Nat,q.a=n:=⟨q.a.toNat,by omega⟩;have d:RZ p q=if AO (Gl n p)=0 then some (Gl n p,Cf)else none:=by
  unfold RZ;rw[O,tN];by_cases D:AO (Gl n p)=0
  ·rw [iP ⟨by omega,D⟩,iP D]
  rw[iN λk=>D k.2,iN D]
 refine gg ?_;refine Cy (α:=ReI) (λz=>[(0,pB b),(16,iL q.a),(17,iL z.k)]) (λz=>z.M) (λz=>[BV b z.y z.q.gen z.q.root z.q.next q w 0 AP AP AQ]) (λz=>z.k<=n/\Gl (n-z.k) z.q=Gl n p/\PW z.M z.y z.q/\Fh z.q []) (λz=>n-z.k) ⟨0,p,x,M⟩ ⟨zL,rfl,h,R⟩ ?_;rintro⟨k,o,y,K⟩ ⟨Q,c,i,l⟩;try dsimp only at Q c i l⊢
 refine gj (λG=>?_) λG=>?_
 ·refine gc (wMy o y K i l) ?_;rintro _ L C ⟨N,g,r1,U,e,rfl,J⟩;obtain⟨m,P⟩:∃m,n-k=m+1:=⟨n-k-1,by omega⟩;rw[P,Gl]at c;refine gA λV=>?_;refine gj (λs=>?_) λs=>?_
  ·rw [J.err s]at c;dsimp only at c;refine gh ?_;refine wUk rfl ?_;refine gc (FA o _ L (i.mono C).pt.pt i.dead) ?_;rintro _ S j rfl;refine gh ?_;refine zd [BV b y o.gen o.root o.next q w 0 AP AP AQ] rfl ?_;by_cases f:AO o=0
   ·rw [f];exact((i.mono C).mono j).me (by rw[d,<-c,iP f])
   exact .no f (by rw[d,<-c,iN f])
  obtain⟨_,I,B,E,rfl,rfl,rfl⟩:=J.val s;rw[B]at c;refine gh ?_;refine BB ⟨k+1,I,N,L⟩ ⟨by show k+1<=n;omega,by show Gl (n-(k+1)) I=_;rw[show n-(k+1)=m by omega];exact c,E,l.reap B⟩
 have F:n-k=0:=by omega
 rw[F,Gl]at c;refine gc (FA o _ K i.pt.pt i.dead) ?_;rintro _ S j rfl;refine gh ?_;refine zd [BV b y o.gen o.root o.next q w 0 AP AP AQ] rfl ?_;by_cases f:AO o=0
 ·rw [f];exact(i.mono j).me (by rw[d,<-c,iP f])
 exact .no f (by rw[d,<-c,iN f])
variable{M:Mem}{b:Nat}{dv:Value}{f:Option Po}{g:Int}{y:V5}
theorem Rs.me{r:Option (Po×Rep)}{q:Ask}{r1 n e:Int}(h:Rs f e λo=>PW M y o/\g=o.gen/\r1=o.root/\n=o.next)(c:r=f.map (·,Cf)):MeR r q dv b (iL e) M [BV b y g r1 n q dv 0 AP AP AQ]:=by
 by_cases a:e=0
 ·subst a;obtain⟨_,o,i,d,rfl,rfl,rfl⟩:=h.val (λk=>k rfl);exact d.me (by rw[c,i];rfl)
 exact .no a (by rw[c,h.err a];rfl)
theorem wNx{p:Po}{v i:Int}:LW p v i []=none:=by
 unfold LW;cases DG p v i with
 |none=>rfl
 |some l=>show (if wPi []=0 then some l else none)=none;exact iN (by decide)
theorem SE{p:Po}{v i:Int}:Gc p v i []=none:=by unfold Gc Lo;rw[wNx];rfl
def FJ(p:Po)(q:Ask):Option (Po×Rep):=(EB p q.path).bind λc=>if c.2.dir then none else (Bp p q.path).bind λo=>(Tc p o.1 o.2.1 o.2.2).map (·,Cf)
theorem wCy(p:Po)(x:V5)(M:Mem)(h:PW M x p)(K:Tabs M)(q:Ask)(I:q.path.length<=1000000)(d:Value)(b:Nat):Sg 33 #[pB b] M [BV b x p.gen p.root p.next q d 0 AP AP AQ] λu M' U=>MeR (FJ p q) q d b u M' U:=by
 refine sB func33 ntmps33 ?_;intro W;refine gh ?_;refine AX [BV b x p.gen p.root p.next q d 0 AP AP AQ] (by kernel_rfl) (by simp) ?_;refine gk [0,1,2,3,4,5,6,7,8] ?_;refine wUh 9 14 15 [10,11,12,13] [116,117,18] (λM' m=>C6 p x M' (h.mono m) q.path (K.mono m) I) ?_;rintro _ M1 f ⟨v,i,y,e,rfl,Z,hi,H⟩;refine gy λb3 b4=>?_;refine gg ?_;refine gj (λa=>?_) λa=>?_
 ·refine gh ?_;refine zd [BV b x p.gen p.root p.next q d 0 AP AP AQ] rfl ?_;exact .no a (by unfold FJ;rw[H.err a];rfl)
 obtain⟨_,c,J,rfl,rfl⟩:=H.val a;obtain⟨Y,O,X,V⟩:=y;cases O with
 |true=>
  refine gh ?_
  refine zd [BV b x p.gen p.root p.next q d 0 AP AP AQ] rfl ?_
  exact .no (by decide) (by unfold FJ;rw[J];rfl)
 |false=>
 have L:FJ p q=(Bp p q.path).bind λo=>(Tc p o.1 o.2.1 o.2.2).map (·,Cf):=by unfold FJ;rw[J];rfl
 refine gh ?_;refine AX [BV b x p.gen p.root p.next q d 0 AP AP AQ] (by kernel_rfl) (by simp) ?_;refine gk [0,1,2,3,4,5,6,7,8] ?_;refine wSf 9 14 [10,11,12,13] [115,16,17] (λM' m=>Dk p x M' (h.mono (f.trans m)) q.path (K.mono (f.trans m)) I) ?_;rintro _ N D ⟨F,G,s,S,rfl,w,B,z,l⟩;refine gz λT=>?_;refine gg ?_;refine Ga [13] [10,13,14] [0,1,2,3,4,5,6,107,8,9,10,11,12,113,14] N [BV b x p.gen p.root p.next q d 0 AP AP AQ,(T,cE [iU F,iU G] 123)] [] ?_;refine gh ?_;refine dh rfl (hC (wCm p x N (h.mono (f.trans D)) F G w B s)) ?_;rintro _ M3 _ ⟨C,R,rfl,⟨P,g,r1,n,e3,rfl,j⟩,rfl⟩;refine⟨C,by simp,?_⟩;refine gh ?_;refine zd [BV b P g r1 n q d 0 AP AP AQ] rfl ?_;by_cases E:S=0
 ·obtain ⟨_,_,Q,rfl⟩:=l.val (λk=>k E);exact j.me (by rw[L,Q];rfl)
 obtain rfl:=z E;exact j.me (by rw[L,l.err E];unfold Tc;rw[SE];rfl)
def FI(p:Po)(q:Ask):Option (Po×Rep):=(EB p q.path).bind λc=>if c.2.dir then (Bp p q.path).bind λo=>(UN p o.1 o.2.1 o.2.2).map (·,Cf)else none
theorem wCx(p:Po)(x:V5)(M:Mem)(h:PW M x p)(I:Tabs M)(q:Ask)(G:q.path.length<=1000000)(d:Value)(b:Nat):Sg 35 #[pB b] M [BV b x p.gen p.root p.next q d 0 AP AP AQ] λu M' S=>MeR (FI p q) q d b u M' S:=by
 refine sB func35 ntmps35 ?_;intro W;refine gh ?_;refine AX [BV b x p.gen p.root p.next q d 0 AP AP AQ] (by kernel_rfl) (by simp) ?_;refine gk [0,1,2,3,4,5,6,7,8] ?_;refine wUh 9 14 15 [10,11,12,13] [116,117,18] (λM' l=>C6 p x M' (h.mono l) q.path (I.mono l) G) ?_;rintro _ M1 f ⟨v,i,y,e,rfl,X,Y,F⟩;refine gy λb3 b4=>?_;refine gg ?_;refine gj (λa=>?_) λa=>?_
 ·refine gh ?_;refine zd [BV b x p.gen p.root p.next q d 0 AP AP AQ] rfl ?_;exact .no a (by unfold FI;rw[F.err a];rfl)
 obtain⟨_,c,H,rfl,rfl⟩:=F.val a;obtain⟨V,L,U,T⟩:=y;cases L with
 |false=>
  refine gh ?_
  refine zd [BV b x p.gen p.root p.next q d 0 AP AP AQ] rfl ?_
  exact .no (by decide) (by unfold FI;rw[H];rfl)
 |true=>
 have J:FI p q=(Bp p q.path).bind λo=>(UN p o.1 o.2.1 o.2.2).map (·,Cf):=by unfold FI;rw[H];rfl
 refine gh ?_;refine AX [BV b x p.gen p.root p.next q d 0 AP AP AQ] (by kernel_rfl) (by simp) ?_;refine gk [0,1,2,3,4,5,6,7,8] ?_;refine wSf 9 14 [10,11,12,13] [115,16,17] (λM' l=>Dk p x M' (h.mono (f.trans l)) q.path (I.mono (f.trans l)) G) ?_;rintro _ K C ⟨D,E,s,e2,rfl,m,z,O,k⟩;refine gz λQ=>?_;refine gg ?_;refine gj (λj=>?_) λj=>?_
 ·refine gh ?_;refine zd [BV b x p.gen p.root p.next q d 0 AP AP AQ] rfl ?_;exact .no (by decide) (by rw[J,k.err j];rfl)
 obtain⟨_,_,P,rfl⟩:=k.val j;refine gh ?_;refine Ga [13] [10,13,14] [0,1,2,3,4,5,6,107,8,9,10,11,12,113,14] K [BV b x p.gen p.root p.next q d 0 AP AP AQ,(Q,cE [iU D,iU E] 123)] [] ?_;refine gh ?_;refine dh rfl (hC (wCo p x K (h.mono (f.trans C)) D E m z s)) ?_;rintro _ M3 _ ⟨B,R,rfl,⟨N,g,r1,n,Z,rfl,w⟩,rfl⟩;refine⟨B,by simp,?_⟩;refine gh ?_;refine zd [BV b N g r1 n q d 0 AP AP AQ] rfl ?_;exact w.me (by rw[J,P];rfl)
def NA(p:Po)(q:Ask):Option (Po×Rep):=(EB p q.path).bind λc=>if c.2.dir then none else (Bp p q.other).bind λo=>if o.1=c.1 then (Nz p c.1 c.2.id o.1 o.2.1 o.2.2).map (·,Cf)else none
theorem wDg(p:Po)(x:V5)(M:Mem)(h:PW M x p)(O:Tabs M)(q:Ask)(V:q.path.length<=1000000)(E:q.other.length<=1000000)(f:Value)(b:Nat):Sg 32 #[pB b] M [BV b x p.gen p.root p.next q f 0 AP AP AQ] λu M' L'=>MeR (NA p q) q f b u M' L':=by
 refine sB func32 ntmps32 ?_;intro W;refine gh ?_;refine AX [BV b x p.gen p.root p.next q f 0 AP AP AQ] (by kernel_rfl) (by simp) ?_;refine gk [0,1,2,3,4,5,6,7,8] ?_;refine wUh 9 14 15 [10,11,12,13] [116,117,18] (λM' m=>C6 p x M' (h.mono m) q.path (O.mono m) V) ?_;rintro _ M1 j ⟨v,i,y,e,rfl,T,hi,K⟩;refine gy λZ b4=>?_;refine gg ?_;by_cases d:e=0;rotate_left
 ·refine gj (λh=>aD h d) λ_=>?_;refine gj (λw=>?_) λw=>aD d w;refine gh ?_;refine zd [BV b x p.gen p.root p.next q f 0 AP AP AQ] rfl ?_;exact .no d (by unfold NA;rw[K.err d];rfl)
 subst d;obtain⟨_,c,N,rfl,rfl⟩:=K.val (λk=>k rfl);obtain⟨z,Q,y3,y4⟩:=y;cases Q with
 |true=>
  refine gh ?_
  refine zd [BV b x p.gen p.root p.next q f 0 AP AP AQ] rfl ?_
  exact .no (by decide) (by unfold NA;rw[N];rfl)
 |false=>
 have I:NA p q=(Bp p q.other).bind λo=>if o.1=v then (Nz p v z o.1 o.2.1 o.2.2).map (·,Cf)else none:=by unfold NA;rw[N];rfl
 refine gh ?_;refine AX [BV b x p.gen p.root p.next q f 0 AP AP AQ] (by kernel_rfl) (by simp) ?_;refine gk [0,1,2,3,4,5,6,7,8] ?_;refine wSf 9 14 [10,11,12,13] [115,16,17] (λM' m=>Dk p x M' (h.mono (j.trans m)) q.other (O.mono (j.trans m)) E) ?_;rintro _ P H ⟨B,J,s,X,rfl,C,F,U,l⟩;refine gz λY=>?_;refine gg ?_;by_cases d:X=0;rotate_left
 ·refine gj (λh=>aD h d) λ_=>?_;refine gj (λh=>aD h d) λ_=>?_;refine gh ?_;refine zd [BV b x p.gen p.root p.next q f 0 AP AP AQ] rfl ?_;exact .no d (by rw[I,l.err d];rfl)
 subst d;obtain⟨_,_,L,rfl⟩:=l.val (λk=>k rfl);refine gj (λ_=>?_) λh=>aD rfl h;refine gj (λa=>?_) λa=>?_
 ·refine gh ?_;refine zd [BV b x p.gen p.root p.next q f 0 AP AP AQ] rfl ?_;exact .no (by decide) (by rw[I,L];exact iN a)
 have a:B=v:=nN a;refine gh ?_;refine Ga [14] [11,14,15] [0,1,2,3,4,5,6,7,108,9,10,11,12,13,114,15] P [BV b x p.gen p.root p.next q f 0 AP AP AQ,(Z,cE [iU v,iU z] 123),(Y,cE [iU B,iU J] 123)] [] ?_;refine gh ?_;refine dh rfl (hC (XF p x P (h.mono (j.trans H)) v z B J T C F s)) ?_;rintro _ M3 _ ⟨G,R,rfl,⟨S,g,r1,n,e3,rfl,D⟩,rfl⟩;refine⟨G,by simp,?_⟩;refine gh ?_;refine zd [BV b S g r1 n q f 0 AP AP AQ] rfl ?_;exact D.me (by rw[I,L];exact iP a)
def EZ(p:Po)(q:Ask):Option (Po×Rep):=(EB p q.path).bind λ_=>(Bp p q.other).bind λo=>(Bp p q.path).bind λc=>if c.1=o.1 then (UP p c.1 c.2.1 c.2.2 o.1 o.2.1 o.2.2).map (·,Cf)else none
theorem wHj{p:Po}{q:Ask}(h:Bp p q.path=none):EZ p q=none:=by
 unfold EZ;cases EB p q.path with
 |none=>rfl
 |some _=>cases Bp p q.other with
  |none=>rfl
  |some _=>rw[bS,bS,h];rfl
theorem wDc(p:Po)(x:V5)(M:Mem)(h:PW M x p)(H:Tabs M)(q:Ask)(P:q.path.length<=1000000)(O:q.other.length<=1000000)(j:Value)(b:Nat):Sg 34 #[pB b] M [BV b x p.gen p.root p.next q j 0 AP AP AQ] λu M' L'=>MeR (EZ p q) q j b u M' L':=by
 refine sB func34 ntmps34 ?_;intro W;refine gc (Jv q.path M H P) ?_;rintro _ M0 a ⟨v0,l0,a0,c0,e0,rfl,ab,af,ad,aa,ae,G⟩;refine gj (λV=>?_) λV=>?_
 ·refine gh ?_;refine zd [BV b x p.gen p.root p.next q j 0 AP AP AQ] rfl ?_;exact .no (by decide) (wHj (by
   unfold Bp;by_cases w:e0=0
   ·obtain ⟨_,_,hp,rfl⟩:=G.val (λk=>k w);rw[hp,bS,iP (List.length_eq_zero_iff.1 (show l0.length=0 by omega))]
   rw[G.err w];rfl))
 refine gh ?_;refine AX [BV b x p.gen p.root p.next q j 0 AP AP AQ] (by kernel_rfl) (by simp) ?_;refine gk [0,1,2,3,4,5,6,7,8] ?_;refine wUh 9 14 15 [10,11,12,13] [116,117,18] (λM' z=>C6 p x M' (h.mono (a.trans z)) q.path (H.mono (a.trans z)) P) ?_;rintro _ M1 d ⟨v,i,y,e,rfl,hv,hi,hr⟩;refine gy λb6 b7=>?_;refine gg ?_;refine gj (λs=>?_) λs=>?_
 ·refine gh ?_;refine zd [BV b x p.gen p.root p.next q j 0 AP AP AQ] rfl ?_;exact .no s (by unfold EZ;rw[hr.err s];rfl)
 obtain⟨_,c,hc,rfl,rfl⟩:=hr.val s;have D:EZ p q=(Bp p q.other).bind λo=>(Bp p q.path).bind λc=>if c.1=o.1 then (UP p c.1 c.2.1 c.2.2 o.1 o.2.1 o.2.2).map (·,Cf)else none:=by unfold EZ;rw[hc];rfl
 refine gh ?_;refine AX [BV b x p.gen p.root p.next q j 0 AP AP AQ] (by kernel_rfl) (by simp) ?_;refine gk [0,1,2,3,4,5,6,7,8] ?_;refine wSf 9 14 [10,11,12,13] [115,16,17] (λM' z=>Dk p x M' (h.mono ((a.trans d).trans z)) q.other (H.mono ((a.trans d).trans z)) O) ?_;rintro _ M2 C ⟨J,Z,s2,e2,rfl,L,S,ac,F⟩;refine gz λb9=>?_;refine gg ?_;refine gj (λm=>?_) λm=>?_
 ·refine gh ?_;refine zd [BV b x p.gen p.root p.next q j 0 AP AP AQ] rfl ?_;exact .no m (by rw[D,F.err m];rfl)
 obtain⟨_,_,ho,rfl⟩:=F.val m;rw[ho,bS]at D;refine gh ?_;refine AX [BV b x p.gen p.root p.next q j 0 AP AP AQ] (by kernel_rfl) (by simp) ?_;refine gk [0,1,2,3,4,5,6,7,8] ?_;refine wSf 9 14 [10,11,12,13] [115,16,17] (λM' z=>Dk p x M' (h.mono (((a.trans d).trans C).trans z)) q.path (H.mono (((a.trans d).trans C).trans z)) P) ?_;rintro _ M3 U ⟨I,Y,s3,e3,rfl,K,Q,N,l⟩;refine gz λX=>?_;refine gg ?_;refine gj (λf=>?_) λf=>?_
 ·refine gh ?_;refine zd [BV b x p.gen p.root p.next q j 0 AP AP AQ] rfl ?_;exact .no (by decide) (by
   by_cases w:e3=0
   ·obtain ⟨_,_,B,rfl⟩:=l.val (λk=>k w);rw[D,B];exact iN f
   rw[D,l.err w];rfl)
 have f:I=J:=nN f;refine gh ?_;refine Ga [15] [12,15,16] [0,1,2,3,4,5,6,7,8,109,10,11,12,13,14,115,16] M3 [BV b x p.gen p.root p.next q j 0 AP AP AQ,(X,cE [iU I,iU Y] 123),(b9,cE [iU J,iU Z] 123)] [] ?_;refine gh ?_;refine dh rfl (hC (wCp p x M3 (h.mono (((a.trans d).trans C).trans U)) I Y K Q s3 J Z L S s2)) ?_;rintro _ M4 _ ⟨T,R,rfl,⟨y5,g,r1,n,e4,rfl,E⟩,rfl⟩;refine⟨T,by simp,?_⟩;refine gh ?_;refine zd [BV b y5 g r1 n q j 0 AP AP AQ] rfl ?_;by_cases w:e3=0
 ·obtain ⟨_,_,B,rfl⟩:=l.val (λk=>k w);exact E.me (by rw[D,B];exact iP f)
 obtain rfl:=N w;exact E.me (by rw[D,l.err w];unfold UP;rw[SE];rfl)
abbrev Rf(q:Ask)(dv:Value):List Value:=[iB q.kind,.string (AK q.path),.string (AK q.other),iL q.a,iL q.b,iL q.c,dv]
def Tj(q:Ask):Bool:=if q.kind=7 then decide (Ea q.a/\(q.data.length:Int)<=4096-q.a)else if q.kind=8 then decide (Ea q.a/\Ea q.b)else if q.kind=9 then decide (Ea q.a)else if q.kind=10 then decide (Ea q.a/\Ea q.b/\q.a<=q.b)
 else decide (Ea q.a/\Ea q.b/\Ea q.c/\q.a+q.c<=4096/\q.b+q.c<=4096/\Nf .i64 (Nf .i64 q.a q.b) q.c%128=0)
variable{a:Int}
theorem wXt{b:Int}(d:Ea a)(c:Ea b):∃n:Nat,Nf .i64 a b=n/\n<8192:=by
 obtain⟨x,rfl⟩:∃x:Nat,a=x:=⟨a.toNat,by unfold Ea at d;omega⟩;obtain⟨y,rfl⟩:∃x:Nat,b=x:=⟨b.toNat,by unfold Ea at c;omega⟩;unfold Ea at d c;exact⟨x ||| y,Pm x y ⟨by omega,by omega⟩,Nat.or_lt_two_pow (n:=13) (by omega) (by omega)⟩
theorem wTo{b c:Int}(g:Ea a)(f:Ea b)(d:Ea c):0<=Nf .i64 (Nf .i64 a b) c:=by
 obtain⟨n,e,h⟩:=wXt g f;obtain⟨z,rfl⟩:∃x:Nat,c=x:=⟨c.toNat,by unfold Ea at d;omega⟩;unfold Ea at d;rw[e,Pm n z ⟨by omega,by omega⟩];omega
theorem wNa(q:Ask)(B:Value)(M:Mem)(E:BS M B q.data)(H:q.data.length<=1000000):Sg 64 #[.agg (Rf q B).toArray] M [] λu _ _=>u=.bool (Tj q):=by
 obtain⟨da,F,rfl,D,C⟩:=E;have l:∀n:Int,(0<=n/\n<=4096)=Ea n:=λ_=>rfl;refine sB func64 ntmps64 ?_;intro W;refine ga λG=>?_;refine gg ?_;refine DW [0,1,3,4,6,7,2,5,8,9,10,11] [(G,cE (Rf q (.slice da q.data.length F)) 39)] ?_;refine gg ?_;refine dq rfl (qC (SX q.a 0 4096 _)) ?_;refine gg ?_;refine dq rfl (qC (SX q.b 0 4096 _)) ?_;refine gg ?_;refine dq rfl (qC (SX q.c 0 4096 _)) ?_;simp only[l];unfold Tj;refine gj (λz=>?_) λz=>?_
 ·rw [iP z];by_cases d:Ea q.a
  ·rw [dT d];unfold Ea at d;refine gg ?_;refine gr ?_;exact cA _ (decide_eq_decide.2 (by unfold Ea;omega))
  rw[dF d];refine gr ?_;rw[dF λk=>d k.1]
 rw[iN z];refine gj (λy=>?_) λy=>?_
 ·rw [iP y];by_cases d:Ea q.a
  ·rw [dT d];refine gr ?_;exact cA _ (decide_eq_decide.2 ⟨λk=>⟨d,k⟩,λk=>k.2⟩)
  rw[dF d];refine gr ?_;rw[dF λk=>d k.1]
 rw[iN y];refine gj (λw=>?_) λw=>?_
 ·rw [iP w];refine gr ?_;rfl
 rw[iN w];refine gj (λh=>?_) λh=>?_
 ·rw [iP h];by_cases d:Ea q.a
  ·rw [dT d];by_cases e:Ea q.b
   ·rw [dT e];refine gr ?_;exact cA _ (decide_eq_decide.2 ⟨λk=>⟨d,e,k⟩,λk=>k.2.2⟩)
   rw[dF e];refine gr ?_;rw[dF λk=>e k.2.1]
  rw[dF d];refine gr ?_;rw[dF λk=>d k.1]
 rw[iN h];by_cases d:Ea q.a;rotate_left
 ·rw [dF d];refine gr ?_;rw[dF λk=>d k.1]
 by_cases e:Ea q.b;rotate_left
 ·rw [dT d,dF e];refine gr ?_;rw[dF λk=>e k.2.1]
 by_cases i:Ea q.c;rotate_left
 ·rw [dT d,dT e,dF i];refine gr ?_;rw[dF λk=>i k.2.2.1]
 rw[dT d,dT e,dT i];have j:=wTo d e i;have s:=id d;have o:=id e;have m:=id i;unfold Ea at s o m;refine gj (λg=>?_) λg=>?_
 ·refine gj (λf=>?_) λf=>?_
  ·refine gg ?_;refine lq (EH rfl rfl rfl rfl rfl) ?_;refine gg ?_;refine lq (EH rfl rfl rfl rfl rfl) ?_;refine gg ?_;refine lq (wVt (b:=128) rfl rfl rfl rfl j (by omega)) ?_;refine gr ?_;exact cA _ (decide_eq_decide.2 ⟨λk=>⟨d,e,i,g,f,k⟩,λk=>k.2.2.2.2.2⟩)
  refine gr ?_;rw[dF λk=>f k.2.2.2.2.1]
 refine gr ?_;rw[dF λk=>g k.2.2.2.1]
def LL(p:Po)(q:Ask):Option (Po×Rep):=if Tj q=true then (EB p q.path).bind λc=>
  if q.kind=7 then (FY p c.1 c.2.id q.a q.data).map (·,Cf)
  else if q.kind=8 then (MU p c.1 c.2.id q.a q.b).map λd=>(p,{ Cf with data:=d })
  else if q.kind=9 then (QH p c.1 c.2.id q.a).map (·,Cf)
  else if q.kind=10 then (V3 p c.1 c.2.id q.a q.b).map (·,Cf)
  else if c.2.dir then none else (EB p q.other).bind λo=>(V1 p c.1 c.2.id q.a o.1 o.2.id q.b q.c).map (·,Cf)
 else none
theorem Gr(p:Po)(x:V5)(M:Mem)(h:PW M x p)(hT:Tabs M)(q:Ask)(hq:q.path.length<=1000000)(Q:q.other.length<=1000000)(f:Value)(F:BS M f q.data)(S:q.data.length<=1000000)(b:Nat):Sg 31 #[pB b] M [BV b x p.gen p.root p.next q f 0 AP AP AQ] λu M' L'=>MeR (LL p q) q f b u M' L':=by
 refine sB func31 ntmps31 ?_;intro W;refine gq (wNa q f M F S) ?_;unfold LL;cases aa:Tj q with
 |false=>
  refine gh ?_
  refine zd [BV b x p.gen p.root p.next q f 0 AP AP AQ] rfl ?_
  exact .no (by decide) (iN (by simp))
 |true=>
 rw[iP rfl];refine gh ?_;refine AX [BV b x p.gen p.root p.next q f 0 AP AP AQ] (by kernel_rfl) (by simp) ?_;refine gk [0,1,2,3,4,5,6,7,8] ?_;refine wUh 9 14 15 [10,11,12,13] [116,117,18] (λM' hM=>C6 p x M' (h.mono hM) q.path (hT.mono hM) hq) ?_;rintro _ o m ⟨v,i,y,e,rfl,P,hi,hr⟩;refine gy λI b4=>?_;refine gg ?_;refine gj (λw=>?_) λw=>?_
 ·refine gh ?_;refine zd [BV b x p.gen p.root p.next q f 0 AP AP AQ] rfl ?_;exact .no w (by rw[hr.err w];rfl)
 obtain⟨_,c,hc,rfl,rfl⟩:=hr.val w;rw[hc,bS];dsimp only;have E:=F.mono m;refine gj (λY=>?_) λY=>?_
 ·rw [iP Y];refine gh ?_;refine Ga [22] [19,22,23] [0,1,2,3,4,5,6,7,8,9,10,11,12,13,14,15,116,17,18,19,20,21,122,23] o [BV b x p.gen p.root p.next q f 0 AP AP AQ,(I,cE [iU v,iU y.id] 123)] [] ?_;refine gh ?_;refine dh rfl (hC (TF p x o (h.mono m) v y.id P q.a q.data f E)) ?_;rintro _ J _ ⟨l,R,rfl,⟨B,g,r1,n,H,rfl,j⟩,rfl⟩;refine⟨l,by simp,?_⟩;refine gh ?_;refine zd [BV b B g r1 n q f 0 AP AP AQ] rfl ?_;exact j.me rfl
 rw[iN Y];refine gj (λX=>?_) λX=>?_
 ·rw [iP X];refine gh ?_;refine Ga [23] [19,23,24] [0,1,2,3,4,5,6,7,8,9,10,11,12,13,14,15,116,17,18,19,20,21,22,123,24] o [BV b x p.gen p.root p.next q f 0 AP AP AQ,(I,cE [iU v,iU y.id] 123)] [] ?_;refine gh ?_;refine dh rfl (hC (Yo p x o (h.mono m) v y.id q.a q.b)) ?_;rintro _ J _ ⟨l,R,rfl,⟨N,K,L,H,rfl,j⟩,rfl⟩;refine⟨l,by simp,?_⟩;refine gh ?_;refine zd [BV b x p.gen p.root p.next q f 0 (.slice N K L) AP AQ] rfl ?_;by_cases Z:H=0
  ·subst Z;obtain⟨_,d,hd,U⟩:=j.val (λk=>k rfl);exact⟨x,_,_,_,0,0,_,_,_,rfl,rfl,.yes _ (by rw[hd];rfl) ⟨h.mono (m.trans l),rfl,rfl,rfl,rfl,U,NaS.nil,rfl⟩⟩
  exact .no Z (by rw[j.err Z];rfl)
 rw[iN X];refine gj (λV=>?_) λV=>?_
 ·rw [iP V];refine gh ?_;refine Ga [17] [14,17,18] [0,1,2,3,4,5,6,7,8,9,10,111,12,13,14,15,16,117,18] o [BV b x p.gen p.root p.next q f 0 AP AP AQ,(I,cE [iU v,iU y.id] 123)] [] ?_;refine gh ?_;refine dh rfl (hC (VZ p x o (h.mono m) v y.id P q.a)) ?_;rintro _ J _ ⟨l,R,rfl,⟨B,g,r1,n,H,rfl,j⟩,rfl⟩;refine⟨l,by simp,?_⟩;refine gh ?_;refine zd [BV b B g r1 n q f 0 AP AP AQ] rfl ?_;exact j.me rfl
 rw[iN V];refine gj (λC=>?_) λC=>?_
 ·rw [iP C];refine gh ?_;refine Ga [22] [19,22,23] [0,1,2,3,4,5,6,7,8,9,10,11,12,13,14,15,116,17,18,19,20,21,122,23] o [BV b x p.gen p.root p.next q f 0 AP AP AQ,(I,cE [iU v,iU y.id] 123)] [] ?_;refine gh ?_;refine dh rfl (hC (Yq p x o (h.mono m) v y.id P q.a q.b)) ?_;rintro _ J _ ⟨l,R,rfl,⟨B,g,r1,n,H,rfl,j⟩,rfl⟩;refine⟨l,by simp,?_⟩;refine gh ?_;refine zd [BV b B g r1 n q f 0 AP AP AQ] rfl ?_;exact j.me rfl
 rw[iN C];obtain⟨y1,yd,y3,y4⟩:=y;cases yd with
 |true=>
  refine gh ?_
  refine zd [BV b x p.gen p.root p.next q f 0 AP AP AQ] rfl ?_
  exact .no (by decide) (iP rfl)
 |false=>
 rw[iN (by simp)];refine gh ?_;refine ga λb6=>?_;refine gh ?_;refine Ga [14] [12,13,14,15] [0,1,2,3,4,5,6,7,8,109,10,11,12,13,114,15] o [BV b x p.gen p.root p.next q f 0 AP AP AQ] [BV b x p.gen p.root p.next q f 0 AP AP AQ] ?_;refine gh ?_;refine dh rfl (hC (C6 p x o (h.mono m) q.other (hT.mono m) Q)) ?_;rintro _ M2 _ ⟨G,R,rfl,⟨v2,i2,z,e2,rfl,O,ab,D⟩,rfl⟩;refine⟨G,by simp,?_⟩;refine gg ?_;refine gj (λs=>?_) λs=>?_
 ·obtain ⟨_,c2,T,rfl,rfl⟩:=D.val (λk=>k s);rw[T,bS];refine gh ?_;refine Ga [28] [25,28,29] [0,1,2,3,4,5,6,7,8,9,10,11,12,13,14,15,16,17,18,19,20,21,122,23,24,25,26,27,128,29] M2 [BV b x p.gen p.root p.next q f 0 AP AP AQ,(I,cE [iU v,iU y1] 123),(b6,cE [iU v2,iU z.id] 123)] [] ?_;refine gh ?_;refine dh rfl (hC (Yl p x M2 (h.mono (m.trans G)) v y1 v2 z.id O q.a q.b q.c)) ?_;rintro _ J _ ⟨l,R,rfl,⟨B,g,r1,n,H,rfl,j⟩,rfl⟩;refine⟨l,by simp,?_⟩;refine gh ?_;refine zd [BV b B g r1 n q f 0 AP AP AQ] rfl ?_;exact j.me rfl
 refine gh ?_;refine zd [BV b x p.gen p.root p.next q f 0 AP AP AQ] rfl ?_;exact .no s (by rw[D.err s];rfl)
section
open Go.Shelf Go.Sort
def KW(l:List (List By)):List (List By):=l.mergeSort λx y=>decide (x<=y)
theorem HD(l:List (List By)):(KW l).length=l.length:=List.length_mergeSort ..
theorem YM(l:List (List By))(v:Value)(R:Lc)(M:Mem)(F:Own v R 9 1 l.length (KU l))(S:l.length<=1000000):Sg 76 #[v] M R λu M' Q=>u=.tuple #[]/\M'=M/\Own v Q 9 1 l.length (KU (KW l)):=by
 intro w i;rcases F.2 with⟨rfl,P,rfl⟩|⟨g,c,a,rfl,rfl,O,N,L,K⟩
 ·have G:l=[]:=List.length_eq_zero_iff.1 P;subst G;have h:=AnyM.slices_Sort_string_none wTx none 0 w;change Calls prog 76 _ _ _ at h;refine h.mono ?_;rintro e D ⟨rfl,rfl⟩;exact⟨_,M,[],rfl,⟨rfl,rfl,by simp[KW],.inl ⟨rfl,rfl,rfl⟩⟩,i⟩
 have d:w.heap[g]? =some (.cells a 9 (0,0)):=(i.locs (g,.cells a 9 (0,0)) (by simp)).1;have z:∀j,j<l.length->a[j]? =some (.string (AK (l.getD j []))):=λj b=>by
  have C:(a.toList.take (l.length*1))[j]? =(KU l)[j]? :=by rw[K]
  rw[List.getElem?_take,iP (by omega)]at C;rw[<-Array.getElem?_toList,C];simp[KU,b,getD]
 have I:Holds encStr w g 0 l.toArray:=λj b=>by
  have b:j<l.length:=by simpa using b
  refine⟨?_,?_⟩
  ·simp only[World.cell?,d,Nat.zero_add];have:=z j b;simpa [b,getD,AK]using this
  simp[World.frozen?,d]
 have h:=AnyM.slices_Sort_string wTx g 0 c l w I (Bq d) (by omega);change Calls prog 76 _ _ _ at h;refine h.mono ?_;rintro e D ⟨rfl,n,E,rfl⟩;have m:(putRow encStr (Sort.ahead w n) g 0 (KW l).toArray).heap[g]? =some (.cells (putCells encStr 0 (KW l).toArray a) 9 (0,0)):=by
  simp[putRow,mapBlock,Sort.ahead,Array.getElem?_modify,d,onCells]
 have f:St _ M ([]++(g,.cells (putCells encStr 0 (KW l).toArray a) 9 (0,0))::[]) (putRow encStr (Sort.ahead w n) g 0 (KW l).toArray):=
  St.setObj (A:=[]) (B:=[]) (o:=.cells a 9 (0,0)) i rfl rfl rfl (by simp[Sort.ahead]) m (λk H=>by simp[putRow,mapBlock,Sort.ahead,Array.getElem?_modify,Ne.symm H])
 have y:Below (putRow encStr (Sort.ahead w n) g 0 (KW l).toArray).heap.size (putRow encStr (Sort.ahead w n) g 0 (KW l).toArray) (grow (putRow encStr (Sort.ahead w n) g 0 (KW l).toArray) E):=⟨rfl,rfl,rfl,by simp[grow],λj b=>by simp[grow,Array.getElem?_append_left b]⟩;refine⟨_,M,_,rfl,⟨rfl,rfl,by simp[KU,HD],.inr ⟨g,c,putCells encStr 0 (KW l).toArray a,rfl,rfl,O,N,by simp[putCells,L],?_⟩⟩,St.closed _ _ _ _ _ f y⟩;refine List.ext_getElem? λj=>?_;rw[List.getElem?_take];by_cases b:j<l.length
 ·rw [iP (by omega),Array.getElem?_toList];have J:=z j b;have s:j<(KW l).length:=by rw[HD];exact b
  simp[putCells,J,s,KU,AK]
 rw[iN (by omega)];refine(List.getElem?_eq_none ?_).symm;rw[length_map,HD];omega
def Ny(p:Po)(q:Ask):Option (Po×Rep):=(EB p q.path).bind λc=>if c.2.dir then (DG p c.1 c.2.id).map λl=>(p,{ Cf with names:=KW (l.1.map (·.1)) })else none
structure LiI where
 k:Nat
 v:Value
 R:Lc
theorem wDf(p:Po)(x:V5)(M:Mem)(h:PW M x p)(hT:Tabs M)(q:Ask)(hq:q.path.length<=1000000)(g:Value)(b:Nat):Sg 36 #[pB b] M [BV b x p.gen p.root p.next q g 0 AP AP AQ] λu M' L'=>MeR (Ny p q) q g b u M' L':=by
 refine sB func36 ntmps36 ?_;intro W;refine gh ?_;refine AX [BV b x p.gen p.root p.next q g 0 AP AP AQ] (by kernel_rfl) (by simp) ?_;refine gk [0,1,2,3,4,5,6,7,8] ?_;refine wUh 9 14 15 [10,11,12,13] [116,117,18] (λM' Z=>C6 p x M' (h.mono Z) q.path (hT.mono Z) hq) ?_;rintro _ M1 G ⟨v,i,y,e,rfl,X,hi,Y⟩;refine gy λb3 b4=>?_;refine gg ?_;refine gj (λf=>?_) λf=>?_
 ·refine gh ?_;refine zd [BV b x p.gen p.root p.next q g 0 AP AP AQ] rfl ?_;exact .no f (by unfold Ny;rw[Y.err f];rfl)
 obtain⟨_,c,N,rfl,rfl⟩:=Y.val f;obtain⟨H,yd,y3,y4⟩:=y;cases yd with
 |false=>
  refine gh ?_
  refine zd [BV b x p.gen p.root p.next q g 0 AP AP AQ] rfl ?_
  exact .no (by decide) (by unfold Ny;rw[N];rfl)
 |true=>
 have hA:Ny p q=(DG p v H).map λl=>(p,{ Cf with names:=KW (l.1.map (·.1)) }):=by unfold Ny;rw[N];rfl
 refine gh ?_;refine DW [0,1,2,3,4,5,6,7,108,9,10,11,12,13] [BV b x p.gen p.root p.next q g 0 AP AP AQ,(b3,cE [iU v,iU H] 123)] ?_;refine gh ?_;refine dh rfl (hC (Hd p x M1 (h.mono G) v H hi)) ?_;rintro _ T _ ⟨F,R,rfl,⟨l,sl,w,e,rfl,⟨w2,J⟩,o⟩,rfl⟩;refine⟨F,by simp,?_⟩;obtain⟨a,c,a2,c2,rfl,rfl,N,ad,L,ac,hl,ab,aa⟩:=J;refine gg ?_;refine Cy (α:=LiI) (λz=>[(0,pB b),(5,iL e),(43,.slice a l.length c),(44,iL l.length),(45,iL z.k)]) (λ_=>T) (λz=>BV b x p.gen p.root p.next q g 0 AP z.v AQ::(z.R++[])) (λz=>z.k<=l.length/\Own z.v z.R 9 1 z.k (KU ((l.take z.k).map (·.1)))) (λz=>l.length-z.k) ⟨0,AP,[]⟩ ⟨zL,Own.nil _ _⟩ ?_;rintro⟨k,ov,R⟩ ⟨hk,s⟩;try dsimp only at hk s⊢
 obtain⟨V,U,rfl⟩:=s.form;refine gj (λP=>?_) λP=>?_
 ·have B:k<l.length:=by omega
  obtain⟨sb,so,e0,hx⟩:=L.open (by intro e;have:=cA List.length e;rw[Af HJ 2 FQ,List.length_nil]at this;omega);cases e0;have D:=Bx HJ 2 FQ hx (List.getElem?_eq_getElem B);have j:(l.take (k+1)).map (·.1)=(l.take k).map (·.1)++[l[k].1]:=by rw[List.take_succ_eq_append_getElem B,List.map_append];rfl
  generalize l[k]=nk at D j;obtain⟨n,I⟩:=nk;dsimp only at j;refine gg ?_;refine lq (A0 (cs:=HJ (n,I)) rfl rfl rfl rfl rfl (λi v X=>(D i v X).cj _)) ?_;refine gA λb8=>?_;refine gh ?_;refine Ga [13] [13] [0,1,2,3,4,5,6,7,108,109,10,11,12,113] T [BV b x p.gen p.root p.next q g 0 AP (.slice V k U) AQ,(b8,cE (HJ (n,I)) 143)] [] ?_;refine gh ?_;refine dh rfl (Ab (cs:=[_]) rfl rfl rfl (by rfl) (by rfl) (by rfl)) ?_;rintro _ _ _ ⟨S,rfl,rfl,rfl⟩;refine⟨mR,by simp,?_⟩;refine dh rfl (AY (R:=R) (m:=1) (news:=[.string (AK n)]) rfl rfl rfl rfl s rfl (λi v h=>CJ.loc (by simpa using h)) rfl rfl (by simp[Value.oneCell']) (by omega) (by decide)) ?_;rintro v3 _ _ ⟨rfl,S2,rfl,d,_⟩;refine⟨mR,by simp,?_⟩;obtain⟨ob,od,rfl⟩:=d.form;refine gh ?_;refine BB ⟨k+1,_,S2⟩ ⟨by show k+1<=l.length;omega,by dsimp only;rw[j];unfold KU at d ⊢;rw[List.map_append];exact d⟩ (hs:=by
   intro w J;refine St.sel (C:=[(S,cE [.string (AK n)] 9),(b8,cE (HJ (n,I)) 143)]) J ?_;dsimp only[BV,clc];exact BA)
 obtain rfl:k=l.length:=by omega
 rw[List.take_length]at s;refine gC (YM (l.map (·.1)) _ R T (by rw[length_map];exact s) (by rw[length_map];omega)) ?_;rintro _ M3 R3 ae ⟨rfl,rfl,d⟩;refine gh ?_;refine Lt d (by simp) ?_;intro M4 a4 c4 O e4 E K;rw[length_map]at e4 E;cases e4;refine zd [BV b x p.gen p.root p.next q g 0 AP (.slice V l.length U) AQ] rfl ?_;by_cases Q:e=0
 ·subst Q;obtain⟨_,_,hn,rfl⟩:=o.val (λk=>k rfl);exact⟨x,_,_,_,0,0,_,_,_,rfl,rfl,.yes _ (by rw[hA,hn];rfl) ⟨(h.mono (G.trans F)).mono O,rfl,rfl,rfl,rfl,BS.nil0,⟨_,_,by dsimp only;rw[HD,length_map],by dsimp only;rw[HD,length_map];exact E,K⟩,rfl⟩⟩
 exact .no Q (by rw[hA,o.err Q];rfl)
end
def kindsL:List Nat:=[0,0,0,0,0,1,1,1,1,1,1,2,2,1,2,1,1,1,0]
def Kinds(M:Mem):Prop:=∃c e fz,M 0=some (.cells c e fz)/\∀i,i<19->c[i]? =some (iL ((kindsL.getD i 0:Nat):Int))
variable{M M':Mem}
theorem Kinds.mono(h:Kinds M)(a:MLe M M'):Kinds M':=by
 obtain⟨c,e,fz,d,b⟩:=h;exact⟨c,e,fz,a _ _ d,b⟩
theorem wKm(i:Nat):kindsL.getD i 0<=2:=by
 by_cases h:i<19
 ·have:∀j:_root_.Fin 19,kindsL.getD j.val 0<=2:=by decide
  exact this ⟨i,h⟩
 rw[List.getD_eq_getElem?_getD,List.getElem?_eq_none (by unfold kindsL;simp only[List.length_cons,List.length_nil];omega)];simp
def LX(q:Ask):Bool:=decide (1<=q.kind/\q.kind<19)&&([q.path,q.other].take (kindsL.getD q.kind.toNat 0)).all λs=>(Fk s).isSome
structure AkI where
 k:Nat
 M:Mem
theorem UV(q:Ask)(hk:0<=q.kind/\q.kind<256)(hq:q.path.length<=1000000)(O:q.other.length<=1000000)(L:Value)(M:Mem)(P:Tabs M)(Q:Kinds M):Sg 16 #[.agg (Rf q L).toArray] M [] λu M' V=>(∃e:Int,u=iL e/\(e=0↔LX q=true)/\(¬(1<=q.kind/\q.kind<19)->e=2))/\V=[]:=by
 refine sB func16 ntmps16 ?_;intro W;refine ga λS=>?_;refine gg ?_;by_cases K:q.kind<1
 ·rw [dT K];refine gr ?_;exact⟨⟨2,rfl,by unfold LX;simp;omega,λ_=>rfl⟩,rfl⟩
 rw[dF K];refine gg ?_;refine lq (Eo rfl rfl rfl (by rw[IntKind.wrap_i64];omega)) ?_;refine gj (λR=>?_) λR=>?_
 ·refine gr ?_;exact⟨⟨2,rfl,by unfold LX;simp;omega,λ_=>rfl⟩,rfl⟩
 have J:∀e:Int,¬(1<=q.kind/\q.kind<19)->e=2:=λe k=>absurd ⟨by omega,by omega⟩ k;obtain⟨Z,Y,X,G,E⟩:=Q;have y:=E q.kind.toNat (by omega);have D:=wKm q.kind.toNat;have g:LX q=([q.path,q.other].take (kindsL.getD q.kind.toNat 0)).all λs=>(Fk s).isSome:=by unfold LX;rw[decide_eq_true ⟨by omega,by omega⟩];rfl
 generalize kindsL.getD q.kind.toNat 0=n at y D g;refine gg ?_;refine DW [0,1,2,3,5,6,7,8,11,104,9,10] [(S,cE (Rf q L) 39)] ?_;refine gh ?_;refine dq rfl (FO rfl rfl rfl rfl (by omega)) ?_;refine dq rfl (Aw rfl rfl rfl rfl (CM.cj ⟨_,_,_,G,by rw[mO,Nat.zero_add];exact y⟩ _)) ?_;refine gh ?_;refine dh rfl (Ab (cs:=[_,_]) rfl rfl rfl (by rfl) (by rfl) (by rfl)) ?_;rintro _ _ _ ⟨i,rfl,rfl,rfl⟩;refine⟨mR,by simp,?_⟩;refine dq rfl (Bo (CK rfl rfl rfl (.no _) (.of (v:=n) rfl (by omega) rfl) (.no _) (by omega) (by simp)) (v':=.slice (sA i 0) n 2) (by rw[AV];rfl)) ?_;refine gg ?_;refine Cy (α:=AkI) (λz=>[(26,.slice (sA i 0) n 2),(27,iL n),(28,iL z.k)]) (λz=>z.M) (λz=>[(i,cE [.string (AK q.path),.string (AK q.other)] 9)]) (λz=>z.k<=n/\(([q.path,q.other].take z.k).all λs=>(Fk s).isSome)=true/\MLe M z.M) (λz=>n-z.k) ⟨0,M⟩ ⟨zL,rfl,mR⟩ ?_;rintro⟨k,T⟩ ⟨F,b,h⟩;try dsimp only at F b h⊢
 refine gj (λI=>?_) λI=>?_
 ·have f:k<[q.path,q.other].length:=by simp;omega
  have j:([q.path,q.other].take (k+1)).all (λs=>(Fk s).isSome)=(Fk [q.path,q.other][k]).isSome:=by rw[List.take_succ_eq_append_getElem f,List.all_append,b];simp
  have w:([q.path,q.other][k]).length<=1000000:=by
   have:∀s∈[q.path,q.other],s.length<=1000000:=by simp;omega
   exact this _ (List.getElem_mem f)
  have B:[Value.string (AK q.path),.string (AK q.other)][k]? =some (.string (AK [q.path,q.other][k])):=by
   rcases (show k=0\/k=1 by simp at f;omega)with rfl|rfl<;>rfl
  have o:(Fk [q.path,q.other][k]).isSome=false->LX q=false:=λC=>by
   rw[g,List.all_eq_false];exact⟨[q.path,q.other][k],by rw[List.mem_take_iff_getElem];exact⟨k,by simp;omega,rfl⟩,by simp[C]⟩
  generalize [q.path,q.other][k]=s at j w B o;refine gg ?_;refine lq (Aw rfl rfl rfl rfl (v:=.string (AK s)) ⟨[.string (AK q.path),.string (AK q.other)].toArray,9,(0,0),.inr (by simp),by rw[Nat.zero_add,tN,mO,List.getElem?_toArray];exact B⟩) ?_;refine gc (Jv s T (P.mono h) w) ?_;rintro _ U H ⟨v,l,a,c,e,rfl,hv,hc,hl,N,he,m⟩;refine gj (λd=>?_) λd=>?_
  ·refine gr ?_;exact⟨⟨e,rfl,by rw[o (by rw[m.err d];rfl)];simp[d],J e⟩,rfl⟩
  obtain⟨_,_,C,rfl⟩:=m.val d;refine gh ?_;refine BB ⟨k+1,U⟩ ⟨by show k+1<=n;omega,by rw[j,C];rfl,h.trans H⟩
 obtain rfl:k=n:=by omega
 refine gr ?_;exact⟨⟨0,rfl,by rw[g,b];simp,J 0⟩,rfl⟩
def wXi(p:Po)(q:Ask):Nat->Option (Po×Rep)
 |1=>Ey p
 |2=>PD p q
 |3=>G6 p q
 |4=>GS p q
 |5=>Nx p q
 |6=>Nx p q
 |12=>NA p q
 |13=>FJ p q
 |14=>EZ p q
 |15=>FI p q
 |16=>Ny p q
 |17=>RR p q
 |18=>RZ p q
 |_=>LL p q
def Wi(p:Po)(q:Ask):Option (Po×Rep):=if LX q=true then wXi p q q.kind.toNat else none
def P7(b:Nat)(f:Nat):Value:=.func (.func f) #[pB b] #[]
def Vq(b:Nat):List Value:=[.nilFunc]++[26,27,28,29,30,30,31,31,31,31,31,32,33,34,35,36,37,38].map (P7 b)
theorem YQ(b:Nat)(M:Mem):Sg 17 #[pB b] M [] λu _ a=>u=.agg (Vq b).toArray/\a=[]:=by
 refine sB func17 ntmps17 ?_;intro W;refine ga λc=>?_;refine gh ?_;refine lq (Zn (vs:=[(1,P7 b 26),(2,P7 b 27),(3,P7 b 28),(4,P7 b 29),(5,P7 b 30),(6,P7 b 30),(7,P7 b 31),(8,P7 b 31),(9,P7 b 31),(10,P7 b 31),(11,P7 b 31),(12,P7 b 32),(13,P7 b 33),(14,P7 b 34),(15,P7 b 35),(16,P7 b 36),(17,P7 b 37),(18,P7 b 38)]) (cs:=Vq b) rfl rfl rfl (by kernel_rfl)) ?_;refine gr ?_;exact⟨rfl,rfl⟩
theorem wFn(p:Po)(x:V5)(M:Mem)(h:PW M x p)(j:Fh p [])(e:Tabs M)(q:Ask)(hk:1<=q.kind/\q.kind<19)(d:q.path.length<=1000000)(c:q.other.length<=1000000)(a:Value)(g:BS M a q.data)(i:q.data.length<=1000000)(b:Nat):
  ∃f,(Vq b)[q.kind.toNat]? =some (P7 b f)/\De prog f=true/\Sg f #[pB b] M [BV b x p.gen p.root p.next q a 0 AP AP AQ] λu M' l=>MeR (wXi p q q.kind.toNat) q a b u M' l:=by
 have k:∀n:Nat,1<=n->n<19->∃f,(Vq b)[n]? =some (P7 b f)/\De prog f=true/\Sg f #[pB b] M [BV b x p.gen p.root p.next q a 0 AP AP AQ] λu M' l=>MeR (wXi p q n) q a b u M' l:=λn o m=>by
  match n,o,m with
  |1,_,_=>exact⟨_,rfl,by kernel_rfl,wDj p x M h j q a b⟩
  |2,_,_=>exact⟨_,rfl,by kernel_rfl,wDb p x M h j q a b⟩
  |3,_,_=>exact⟨_,rfl,by kernel_rfl,wDi p x M h j q a b⟩
  |4,_,_=>exact⟨_,rfl,by kernel_rfl,wDd p x M h j q a b⟩
  |5,_,_=>exact⟨_,rfl,by kernel_rfl,Sm p x M h e q d a b⟩
  |6,_,_=>exact⟨_,rfl,by kernel_rfl,Sm p x M h e q d a b⟩
  |7,_,_=>exact⟨_,rfl,by kernel_rfl,Gr p x M h e q d c a g i b⟩
  |8,_,_=>exact⟨_,rfl,by kernel_rfl,Gr p x M h e q d c a g i b⟩
  |9,_,_=>exact⟨_,rfl,by kernel_rfl,Gr p x M h e q d c a g i b⟩
  |10,_,_=>exact⟨_,rfl,by kernel_rfl,Gr p x M h e q d c a g i b⟩
  |11,_,_=>exact⟨_,rfl,by kernel_rfl,Gr p x M h e q d c a g i b⟩
  |12,_,_=>exact⟨_,rfl,by kernel_rfl,wDg p x M h e q d c a b⟩
  |13,_,_=>exact⟨_,rfl,by kernel_rfl,wCy p x M h e q d a b⟩
  |14,_,_=>exact⟨_,rfl,by kernel_rfl,wDc p x M h e q d c a b⟩
  |15,_,_=>exact⟨_,rfl,by kernel_rfl,wCx p x M h e q d a b⟩
  |16,_,_=>exact⟨_,rfl,by kernel_rfl,wDf p x M h e q d a b⟩
  |17,_,_=>exact⟨_,rfl,by kernel_rfl,wDa p x M h e q d a b⟩
  |18,_,_=>exact⟨_,rfl,by kernel_rfl,wDe p x M h j q a b⟩
  |n+19,_,m=>omega
 exact k _ (by omega) (by omega)
abbrev wBq(e i:Int)(rd rn:Value)(z:Ino):List Value:=[iL e,iL i,rd,rn,iU z.id,.bool z.dir,iL z.links,iL z.size]
def DoX(X:Int->Prop)(p:Po)(q:Ask)(u:Value)(M':Mem):Prop:=∃(y:V5)(o:Po)(r:Rep)(e:Int)(rd rn:Value),u=.tuple #[DM o y,.agg (wBq e r.id rd rn r.stat).toArray]/\PW M' y o/\BS M' rd r.data/\NaS M' rn r.names/\((e=0/\Wi p q=some (o,r))\/(e≠0/\Wi p q=none/\o=p/\r=Cf/\X e))
def DoR(p:Po)(q:Ask)(u:Value)(M':Mem):Prop:=∃(y:V5)(o:Po)(r:Rep)(e:Int)(rd rn:Value),u=.tuple #[DM o y,.agg (wBq e r.id rd rn r.stat).toArray]/\PW M' y o/\BS M' rd r.data/\NaS M' rn r.names/\((e=0/\Wi p q=some (o,r))\/(e≠0/\Wi p q=none/\o=p/\r=Cf))
variable{X:Int->Prop}{u:Value}
theorem DoX.r{p:Po}{q:Ask}(h:DoX X p q u M'):DoR p q u M':=by
 obtain⟨y,o,r,e,rd,rn,f,d,c,b,a⟩:=h;exact⟨y,o,r,e,rd,rn,f,d,c,b,a.imp id λk=>⟨k.1,k.2.1,k.2.2.1,k.2.2.2.1⟩⟩
theorem DoR.x{p:Po}{q:Ask}(h:DoR p q u M'):DoX (λ_=>True) p q u M':=by
 obtain⟨y,o,r,e,rd,rn,f,d,c,b,a⟩:=h;exact⟨y,o,r,e,rd,rn,f,d,c,b,a.imp id λk=>⟨k.1,k.2.1,k.2.2.1,k.2.2.2,trivial⟩⟩
theorem KK(p:Po)(x:V5)(M:Mem)(h:PW M x p)(c:Fh p []):Sg 18 #[DM p x] M [] λu M' d=>(∃y,u=DM p y/\PW M' y p)/\d=[]:=
 (Yj p _ M h.pt.pt c.st h.dead).mono λ_ _ _ a=>⟨by
  obtain⟨y,rfl,b⟩:=a.1.five
  exact⟨y,rfl,b,h.dead,h.next⟩,a.2⟩
end Go.Proofs.YtjheijhahehnmaaGreatDoor
