/- Lemmas. -/
import Derived.Test.YtjheijhahehnmaaGreatDoorXCs
namespace Go.Proofs.YtjheijhahehnmaaGreatDoor
open Go.Proofs.Tryz
open List (length getElem_mem foldl_cons)
set_option linter.unusedSimpArgs false
set_option linter.unusedVariables false
set_option linter.unusedSectionVars false
set_option maxHeartbeats 40000000
set_option maxRecDepth 100000
open Go.RowKit
variable{c:Int×List (List By)}{s:List By}
theorem Zt(h:Fk s=some c):u32 c.1:=by
 unfold Fk at h;split at h
 ·unfold ZM at h;split at h
  ·rename_i v b;split at h
   ·rename_i a;obtain⟨l,_,rfl⟩:=oM h;have:=Qr a.1 (by rw[a.2.2];exact a.2.1);exact⟨a.1,by dsimp only;omega⟩
   cases h
  cases h
 cases h
theorem Y4{p:Po}{c:Int×Ino}(h:EB p s=some c):u32 c.1/\u32 c.2.id:=by
 unfold EB at h;obtain⟨a,e,f⟩:=oB h;obtain⟨z,b,rfl⟩:=oM f;obtain⟨i,d⟩:=S5 b;exact⟨Zt e,MS d⟩
theorem Dl{p:Po}{c:Int×Int×List By}(h:Bp p s=some c):u32 c.1/\u32 c.2.1:=by
 unfold Bp at h;obtain⟨a,g,d⟩:=oB h;split at d
 ·cases d
 obtain⟨z,e,b⟩:=oB d;obtain⟨i,f⟩:=S5 e;split at b
 ·cases b;exact⟨Zt g,MS f⟩
 cases b
theorem wVe{q:Ask}{v:Int}(h:wGg q=some v):u32 v:=by
 unfold wGg at h;split at h
 ·cases h;unfold u32;omega
 cases h
theorem wFy{q:Ask}{v:Int}(h:wAe q=some v):u32 v:=by
 unfold wAe at h;split at h
 ·exact wVe h
 cases h
theorem UQ:∀(n:Nat){p:Po},Fh p []->Fh (Gl n p) []
 |0,_,h=>h
 |n+1,p,h=>by
  rw[Gl];split
  ·exact h
  rename_i q a;exact UQ n (h.reap a)
section
variable{p o:Po}{q:Ask}{r:Rep}
theorem wXh(h:Fh p [])(a:Ey p=some (o,r)):Fh o []:=by
 unfold Ey at a;obtain⟨g,e,d⟩:=oB a;obtain⟨f,c,b⟩:=oM d;cases b;exact(h.create e).root (by have:=h.nx;unfold u32;omega) c
theorem wWy(h:Fh p [])(a:PD p q=some (o,r)):Fh o []:=by
 unfold PD at a;obtain⟨v,e,d⟩:=oB a;obtain⟨f,c,b⟩:=oM d;cases b;exact h.snap (wFy e) c
theorem wXf(h:Fh p [])(a:G6 p q=some (o,r)):Fh o []:=by
 unfold G6 at a;obtain⟨v,e,d⟩:=oB a;obtain⟨f,c,b⟩:=oM d;cases b;exact h.freeze (wFy e) c
theorem wXb(h:Fh p [])(a:GS p q=some (o,r)):Fh o []:=by
 unfold GS at a;obtain⟨v,f,d⟩:=oB a;obtain⟨e,c,b⟩:=oM d;cases b;exact h.delete c
theorem wMh(h:Fh p [])(a:Nx p q=some (o,r)):Fh o []:=by
 unfold Nx at a;obtain⟨c,b,g⟩:=oB a;obtain⟨d,f,e⟩:=oM g;cases e;exact h.make (n:=d.2) (Dl b).1 (Dl b).2 f
theorem wXg(h:Fh p [])(g:LL p q=some (o,r)):Fh o []:=by
 unfold LL at g;split at g
 ·obtain ⟨c,l,a⟩:=oB g;have i:=Y4 l;split at a
  ·obtain ⟨f,e,b⟩:=oM a;cases b;exact h.write i.1 e
  split at a
  ·obtain ⟨f,e,b⟩:=oM a;cases b;exact h
  split at a
  ·obtain ⟨f,e,b⟩:=oM a;cases b;exact h.size i.1 e
  split at a
  ·obtain ⟨f,e,b⟩:=oM a;cases b;exact h.punch i.1 e
  split at a
  ·cases a
  obtain⟨d,k,j⟩:=oB a;obtain⟨f,e,b⟩:=oM j;cases b;exact h.shar (Y4 k).1 e
 cases g
theorem wXe(h:Fh p [])(e:NA p q=some (o,r)):Fh o []:=by
 unfold NA at e;obtain⟨c,k,b⟩:=oB e;split at b
 ·cases b
 obtain⟨d,f,a⟩:=oB b;split at a
 ·obtain ⟨j,i,g⟩:=oM a;cases g;exact h.link (Dl f).1 (Dl f).2 i
 cases a
theorem wWw(h:Fh p [])(b:FJ p q=some (o,r)):Fh o []:=by
 unfold FJ at b;obtain⟨c,k,a⟩:=oB b;split at a
 ·cases a
 obtain⟨d,f,e⟩:=oB a;obtain⟨j,i,g⟩:=oM e;cases g;exact h.unlink (Dl f).1 i
theorem wWv(h:Fh p [])(b:FI p q=some (o,r)):Fh o []:=by
 unfold FI at b;obtain⟨c,k,a⟩:=oB b;split at a
 ·obtain ⟨d,f,e⟩:=oB a;obtain⟨j,i,g⟩:=oM e;cases g;exact h.remove (Dl f).1 i
 cases a
theorem wXa(h:Fh p [])(i:EZ p q=some (o,r)):Fh o []:=by
 unfold EZ at i;obtain⟨c,y,s⟩:=oB i;obtain⟨d,j,m⟩:=oB s;obtain⟨e,l,b⟩:=oB m;split at b
 ·obtain ⟨w,k,n⟩:=oM b;cases n;unfold UP at k;obtain⟨z,_,a⟩:=oB k;split at a
  ·obtain ⟨u,g,f⟩:=oB a;exact(h.take (Dl l).1 g).add (Dl j).1 (Dl j).2 f
  cases a
 cases b
theorem wXd(h:Fh p [])(b:Ny p q=some (o,r)):Fh o []:=by
 unfold Ny at b;obtain⟨c,g,a⟩:=oB b;split at a
 ·obtain ⟨e,f,d⟩:=oM a;cases d;exact h
 cases a
theorem wWx(h:Fh p [])(a:RR p q=some (o,r)):Fh o []:=by
 unfold RR at a;obtain⟨c,d,b⟩:=oM a;cases b;exact h
theorem wXc(h:Fh p [])(a:RZ p q=some (o,r)):Fh o []:=by
 unfold RZ at a;split at a
 ·cases a;exact UQ _ h
 cases a
theorem wUq(h:Fh p [])(n:Nat)(a:wXi p q n=some (o,r)):Fh o []:=by
 unfold wXi at a;split at a
 ·exact wXh h a
 ·exact wWy h a
 ·exact wXf h a
 ·exact wXb h a
 ·exact wMh h a
 ·exact wMh h a
 ·exact wXe h a
 ·exact wWw h a
 ·exact wXa h a
 ·exact wWv h a
 ·exact wXd h a
 ·exact wWx h a
 ·exact wXc h a
 exact wXg h a
end
theorem wNj(X:Int->Prop)(p:Po)(x:V5)(M:Mem)(h:PW M x p)(S:Fh p [])(hT:Tabs M)(hK:Kinds M)(q:Ask)(hk:0<=q.kind/\q.kind<256)(hq:q.path.length<=1000000)(L:q.other.length<=1000000)(H:Value)(Q:BS M H q.data)(ag:q.data.length<=1000000)
  (ha:∀e:Int,e≠0->LX q=false->(¬(1<=q.kind/\q.kind<19)->e=2)->X e)
  (hX:LX q=true->∀M',MLe M M'->∀b,∃f,(Vq b)[q.kind.toNat]? =some (P7 b f)/\De prog f=true/\Sg f #[pB b] M' [BV b x p.gen p.root p.next q H 0 AP AP AQ] λu T U=>MeR (wXi p q q.kind.toNat) q H b u T U/\∀e,u=iL e->e≠0->X e):
  Sg 11 #[DM p x,.agg (Rf q H).toArray] M [] λu M' U=>DoX X p q u M'/\U=[]:=by
 have C:=Q;obtain⟨da,I,rfl,ah,af⟩:=C;refine sB func11 ntmps11 ?_;intro W;refine ga4 λb2 b3 b4 b5=>?_;refine gh ?_;refine lh (Bz (cs:=clc x p.gen p.root p.next q (.slice da q.data.length I) 0 AP AP AQ) rfl rfl rfl rfl) ?_;rintro _ _ _ ⟨m,rfl,rfl,rfl⟩;refine gc (UV q hk hq L (.slice da q.data.length I) M hT hK) ?_;rintro _ M1 w ⟨e,rfl,P,O⟩;refine gj (λd=>?_) λd=>?_
 ·have a:=P.1 d;have ae:1<=q.kind/\q.kind<19:=by
   unfold LX at a;rw[Bool.and_eq_true]at a;exact oT a.1
  have D:Wi p q=wXi p q q.kind.toNat:=iP a;refine gg ?_;refine DW [0,2,3,101,4,105,6] [(b3,cE (Rf q (.slice da q.data.length I)) 39)] ?_;refine gh ?_;refine dh rfl (hC (YQ m M1)) ?_;rintro _ T _ ⟨s,R,rfl,rfl,rfl⟩;refine⟨s,by simp,?_⟩;obtain⟨f,hf,hgo,K⟩:=hX a T (w.trans s) m;refine gh ?_;refine dq rfl (Xs (v:=P7 m f) rfl rfl rfl rfl rfl (by omega) (by rw[mO];exact hf)) ?_;refine dh rfl (hC K (hgo:=hgo)) ?_;rintro _ M3 _ ⟨G,R,rfl,⟨y,g,r1,n,i,e,rd,rn,z,rfl,rfl,V⟩,J⟩;refine⟨G,by simp,?_⟩;have h3:=((h.mono w).mono s).mono G;refine gg ?_;refine gj (λc=>?_) λc=>?_
  ·refine gc (KK p x M3 h3 S) ?_;rintro _ Z l ⟨B,rfl,j⟩;refine gr ?_;exact⟨⟨B,p,Cf,e,AP,AP,rfl,j,BS.nil0,NaS.nil,.inr ⟨c,by rw[D];exact V.err c,rfl,rfl,J _ rfl c⟩⟩,rfl⟩
  obtain⟨rfl,⟨o,r⟩,Y,N,rfl,rfl,rfl,rfl,F,E,rfl⟩:=V.val c;obtain⟨ra,rc,rfl,ab,aa⟩:=_root_.id F;obtain⟨na,nc,rfl,ad,ac⟩:=_root_.id E;refine gh ?_;refine DW [0,1,2,3,5,6,7,8,104,109,110] [BV m y o.gen o.root o.next q (.slice da q.data.length I) r.id (.slice ra r.data.length rc) (.slice na r.names.length nc) r.stat] ?_;refine gh ?_;refine dh rfl (hC (KK o y M3 N (wUq S _ Y))) ?_;rintro _ Z _ ⟨l,R,rfl,⟨B,rfl,j⟩,rfl⟩;refine⟨l,by simp,?_⟩;refine gg ?_;refine gr ?_;exact⟨⟨B,o,r,0,_,_,rfl,j,F.mono l,E.mono l,.inl ⟨rfl,by rw[D];exact Y⟩⟩,rfl⟩
 refine gj (λc=>?_) λc=>aD d c;refine gc (KK p x M1 (h.mono w) S) ?_;rintro _ Z l ⟨B,rfl,j⟩;refine gr ?_;exact⟨⟨B,p,Cf,e,AP,AP,rfl,j,BS.nil0,NaS.nil,.inr ⟨d,iN λk=>d (P.2 k),rfl,rfl,ha e d (Bool.eq_false_iff.2 λk=>d (P.2 k)) O⟩⟩,rfl⟩
theorem wXx{q:Ask}(h:LX q=true):1<=q.kind/\q.kind<19:=by
 unfold LX at h;rw[Bool.and_eq_true]at h;exact oT h.1
theorem SZ(p:Po)(x:V5)(M:Mem)(h:PW M x p)(l:Fh p [])(k:Tabs M)(n:Kinds M)(q:Ask)(hk:0<=q.kind/\q.kind<256)(j:q.path.length<=1000000)(a:q.other.length<=1000000)(g:Value)(c:BS M g q.data)(d:q.data.length<=1000000):
  Sg 11 #[DM p x,.agg (Rf q g).toArray] M [] λu M' y=>DoR p q u M'/\y=[]:=
 (wNj (λ_=>True) p x M h l k n q hk j a g c d (λ_ _ _ _=>trivial) λm M' i b=>by
  obtain⟨f,w,s,o⟩:=wFn p x M' (h.mono i) l (k.mono i) q (wXx m) j a g (c.mono i) d b
  exact⟨f,w,s,o.mono λ_ _ _ e=>⟨e,λ_ _ _=>trivial⟩⟩).mono λ_ _ _ e=>⟨e.1.r,e.2⟩
theorem wMi{p o:Po}{q:Ask}{r:Rep}(h:Fh p [])(a:Wi p q=some (o,r)):Fh o []:=by
 unfold Wi at a;split at a
 ·exact wUq h _ a
 cases a
section
variable{P:Program}{ops:Array Oper}{N:Fs}{F:Fr}{E:Ent}{M:Mem}{L:Lc}{o:Oper}
end
def few(bs:List (List By))(ws:List Wt):Prop:=bs.length<=300/\ws.length<=5000/\(∀b∈bs,b.length<=800000)/\∀w∈ws,w.2.length<=800000
abbrev WK:=Ask×Value
def Ue(x:WK):List Value:=Rf x.1 x.2
theorem F4(x:WK):(Ue x).length=7:=rfl
structure AkS(M:Mem)(a:Option Addr)(l:List WK):Prop where
 sm:SM M a (l.flatMap Ue)
 bs:∀x∈l,BS M x.2 x.1.data
 kd:∀x∈l,0<=x.1.kind/\x.1.kind<256
variable{M M':Mem}{a:Option Addr}{l:List WK}
theorem AkS.mono(h:AkS M a l)(b:MLe M M'):AkS M' a l:=⟨h.sm.mono b,λx c=>(h.bs x c).mono b,h.kd⟩
def mnI(n:Nat):Int:=min (n:Int) 100000
def NX(q:Ask):Int:=mnI q.data.length+mnI q.path.length+mnI q.other.length
structure GeI where
 k:Nat
 n:Int
theorem Ya(l:List WK)(a:Option Addr)(c:Nat)(b:Nat)(M:Mem)(h:AkS M a l)(X:l.length<=4611686018427387903)(V:b<=100):
  Sg 9 #[.slice a l.length c,iL b] M [] λu M' S=>(∃g:Bool,u=.bool g/\(g=false->l.length<=b/\∀x∈l,NX x.1<=30000))/\S=[]:=by
 refine sB func9 ntmps9 ?_;intro W;refine gg ?_;refine Cy (α:=GeI) (λz=>[(0,.slice a l.length c),(1,iL b),(5,iL z.n),(6,iL z.k)]) (λ_=>M) (λ_=>[]) (λz=>z.k<=l.length/\z.k<=100/\0<=z.n/\z.n<=300000*z.k/\∀i (B:i<l.length),i<z.k->NX l[i].1<=z.n) (λz=>l.length-z.k) ⟨0,0⟩ ⟨zL,zL,by decide,by simp,λ_ _ h=>aD h (Nat.not_lt_zero _)⟩ ?_;rintro⟨k,n⟩ ⟨N,m,H,G,f⟩;try dsimp only at N m H G f⊢
 have done:k=l.length\/k=100->∀g:Bool,g=(decide ((b:Int)<l.length)||decide (30000<n))->(g=false->l.length<=b/\∀x∈l,NX x.1<=30000):=λL g e I=>by
  rw[e,Bool.or_eq_false_iff]at I;have J:=oF I.1;have P:=oF I.2;have K:k=l.length:=by omega
  refine⟨by omega,λx F=>?_⟩;obtain⟨i,B,rfl⟩:=List.getElem_of_mem F;have:=f i B (by omega);omega
 refine gg ?_;by_cases J:k<l.length
 ·have y:(k:Int)<l.length:=by omega
  refine gj (λ_=>?_) λh=>aD y h;by_cases P:k<100
  ·have w:(k:Int)<100:=by omega
   refine gj (λ_=>?_) λh=>aD w h;obtain⟨U,T,Q,F⟩:=h.sm.open (by intro e;have:=cA length e;rw[Af Ue 7 F4,List.length_nil]at this;omega);cases Q;have j:=Bx Ue 7 F4 F (List.getElem?_eq_getElem J);obtain⟨da,Y,o,D,C⟩:=h.bs l[k] (getElem_mem J);have E:NX l[k].1<=300000/\0<=NX l[k].1:=by unfold NX mnI;omega
   have d:∀i (B:i<l.length),i<k+1->NX l[i].1<=n+NX l[k].1:=λi B O=>by
    by_cases e:i=k
    ·subst e;omega
    have:=f i B (by omega);omega
   generalize l[k]=R at j o D C E d;obtain⟨q,dv⟩:=R;dsimp only at o D C E d;subst o;refine gg ?_;refine DW [0,1,2,3,4,5,6,7,8,9,10,11,12,13,14,15,16,17,18,19,20,21,22,23,24,25] [] ?_;refine gg ?_;refine dq rfl (Aw rfl rfl rfl rfl ((j 6 _ rfl).cj _)) ?_;refine gg ?_;refine dq rfl (UX rfl rfl rfl rfl) ?_;refine gg ?_;refine dq rfl (Aw rfl rfl rfl rfl ((j 1 _ rfl).cj _)) ?_;refine dq rfl (Sb rfl rfl rfl) ?_;refine dq rfl (UX rfl rfl rfl rfl) ?_;refine dq rfl (wQx rfl rfl rfl rfl rfl (by rw[IntKind.wrap_i64];dsimp only;omega)) ?_;refine gg ?_;refine dq rfl (Aw rfl rfl rfl rfl ((j 2 _ rfl).cj _)) ?_;refine dq rfl (Sb rfl rfl rfl) ?_;refine dq rfl (UX rfl rfl rfl rfl) ?_;refine dq rfl (wQx rfl rfl rfl rfl rfl (by rw[IntKind.wrap_i64];dsimp only;omega)) ?_;refine dq rfl (wQx rfl rfl rfl rfl rfl (by rw[IntKind.wrap_i64];dsimp only;omega)) ?_;refine gg ?_;refine BB ⟨k+1,_⟩ ⟨by show k+1<=l.length;omega,by show k+1<=100;omega,?_,?_,d⟩
   ·show 0<=n+NX q;omega
   show n+NX q<=300000*((k+1:Nat):Int);omega
  have w:¬(k:Int)<100:=by omega
  refine gj (λh=>aD h w) λ_=>?_;by_cases s:(b:Int)<l.length
  ·refine gj (λ_=>?_) λh=>aD s h;refine gr ?_;exact⟨⟨true,rfl,λh=>by cases h⟩,rfl⟩
  refine gj (λh=>aD h s) λ_=>?_;refine gr ?_;exact⟨⟨_,rfl,done (.inr (by omega)) _ (by rw[dF s];rfl)⟩,rfl⟩
 have y:¬(k:Int)<l.length:=by omega
 refine gj (λh=>aD h y) λ_=>?_;by_cases s:(b:Int)<l.length
 ·refine gj (λ_=>?_) λh=>aD s h;refine gr ?_;exact⟨⟨true,rfl,λh=>by cases h⟩,rfl⟩
 refine gj (λh=>aD h s) λ_=>?_;refine gr ?_;exact⟨⟨_,rfl,done (.inl (by omega)) _ (by rw[dF s];rfl)⟩,rfl⟩
def Zr(a:Po×List (Option Rep))(q:Ask):Po×List (Option Rep):=match Wi a.1 q with
 |none=>(a.1,a.2++[none])
 |some r=>(r.1,a.2++[some r.2])
def La(l:List Ask):Po×List (Option Rep):=l.foldl Zr (po0,[])
structure RpV where
 e:Int
 i:Int
 a:Option Addr
 n:Nat
 c:Nat
 b:Option Addr
 m:Nat
 d:Nat
 z:Ino
def Zk(x:RpV):List Value:=wBq x.e x.i (.slice x.a x.n x.c) (.slice x.b x.m x.d) x.z
theorem N5(x:RpV):(Zk x).length=8:=rfl
def RpOk(M:Mem)(o:Option Rep)(x:RpV):Prop:=(o.isSome=true↔x.e=0)/\x.i=(o.getD Cf).id/\BS M (.slice x.a x.n x.c) (o.getD Cf).data
variable{o:Option Rep}
theorem RpOk.mono{x:RpV}(h:RpOk M o x)(a:MLe M M'):RpOk M' o x:=⟨h.1,h.2.1,h.2.2.mono a⟩
theorem wWa{l:List Ask}:∀{a:Po×List (Option Rep)},Fh a.1 []->Fh (l.foldl Zr a).1 []:=by
 induction l with
 |nil=>intro a h;exact h
 |cons q l b=>
  intro a h
  rw[foldl_cons]
  refine b ?_
  unfold Zr
  split
  ·exact h
  rename_i r c;exact wMi (r:=r.2) h (by rw[c])
structure PlI where
 k:Nat
 y:V5
 o:Po
 rs:List (Option Rep)
 xs:List RpV
 v:Value
 R:Lc
 M:Mem
structure AkF(l:List WK):Prop where
 sz:∀x∈l,x.1.path.length<=1000000/\x.1.other.length<=1000000/\x.1.data.length<=1000000
def RpsOk(M:Mem)(rs:List (Option Rep))(xs:List RpV):Prop:=xs.length=rs.length/\∀i (h1:i<rs.length) (h2:i<xs.length),RpOk M rs[i] xs[i]
variable{rs:List (Option Rep)}{xs:List RpV}
theorem RpsOk.mono(h:RpsOk M rs xs)(a:MLe M M'):RpsOk M' rs xs:=⟨h.1,λi c b=>(h.2 i c b).mono a⟩
theorem RpsOk.snoc{r:Option Rep}{x:RpV}(h:RpsOk M rs xs)(b:RpOk M r x):RpsOk M (rs++[r]) (xs++[x]):=⟨by simp[h.1],λi d f=>by
 by_cases e:i<rs.length
 ·have a:i<xs.length:=by rw[h.1];exact e
  rw[List.getElem_append_left e,List.getElem_append_left a];exact h.2 i e a
 have c:=h.1
 have:i=rs.length:=by simp at d;omega
 subst this
 rw[List.getElem_append_right (lR),List.getElem_append_right (by omega)]
 simpa [c]using b⟩
def PlX(X:Po->Ask->Int->Prop)(l:List WK)(rs:List (Option Rep))(xs:List RpV):Prop:=∀i (h1:i<rs.length) (h2:i<xs.length) (h3:i<l.length),rs[i]=none->X (((l.take i).map (·.1)).foldl Zr (po0,[])).1 l[i].1 xs[i].e
variable{X:Po->Ask->Int->Prop}{k:Nat}
theorem PlX.snoc{a:List (Option Rep)}{r:Option Rep}{x:RpV}{o:Po}(h:PlX X l rs xs)(c:rs.length=k)(hk:k<l.length)(b:xs.length=k)(f:((l.take k).map (·.1)).foldl Zr (po0,[])=(o,a))(d:r=none->X o l[k].1 x.e):PlX X l (rs++[r]) (xs++[x]):=λi j m g=>by
 by_cases e:i<k
 ·rw [List.getElem_append_left (by omega),List.getElem_append_left (by omega)];exact h i (by omega) (by omega) g
 have:i=k:=by simp at j;omega
 subst this
 rw[List.getElem_append_right (by omega),List.getElem_append_right (by omega),f]
 simpa [c,b]using d
def DoS(X:Po->Ask->Int->Prop)(x:WK)(M:Mem):Prop:=∀(o:Po)(y:V5)(M':Mem),MLe M M'->PW M' y o->Fh o []->Sg 11 #[DM o y,.agg (Ue x).toArray] M' [] λu M2 L'=>DoX (X o x.1) o x.1 u M2/\L'=[]
theorem Xu(X:Po->Ask->Int->Prop)(l:List WK)(a:Option Addr)(c:Nat)(M:Mem)(h:AkS M a l)(hX:∀x∈l,DoS X x M)(hl:l.length<=1000):
  Sg 6 #[.slice a l.length c] M [] λu M' L'=>(∃(y:V5)(xs:List RpV)(ra:Option Addr)(rc:Nat),u=.tuple #[DM (La (l.map (·.1))).1 y,.slice ra xs.length rc]/\PW M' y (La (l.map (·.1))).1/\SM M' ra (xs.flatMap Zk)/\xs.length<=rc/\RpsOk M' (La (l.map (·.1))).2 xs/\xs.length=l.length/\PlX X l (La (l.map (·.1))).2 xs)/\L'=[]:=by
 refine sB func6 ntmps6 ?_;intro W;refine gA λb2=>?_;refine gc (SG M) ?_;rintro _ M1 ao ad;obtain⟨y0,rfl,aa⟩:=ad.five;have ah:PW M1 y0 po0:=⟨aa,by decide,by decide⟩;refine gA λb4=>?_;refine Cy (α:=PlI) (λz=>[(0,.slice a l.length c),(2,pB b2),(4,pB b4),(5,z.v),(6,iL z.k)]) (λz=>z.M) (λz=>GJ b4 z.y z.o.gen z.o.root z.o.next::GJ b2 Pv 0 0 0::(z.R++[])) (λz=>z.k<=l.length/\((l.take z.k).map (·.1)).foldl Zr (po0,[])=(z.o,z.rs)/\PW z.M z.y z.o/\Own z.v z.R 45 8 z.k (z.xs.flatMap Zk)/\z.xs.length=z.k/\RpsOk z.M z.rs z.xs/\MLe M1 z.M/\PlX X l z.rs z.xs) (λz=>l.length-z.k) ⟨0,y0,po0,[],[],AP,[],M1⟩ ⟨zL,rfl,ah,Own.nil _ _,rfl,⟨rfl,λi h=>aD h (Nat.not_lt_zero _)⟩,mR,λi h=>aD h (Nat.not_lt_zero _)⟩ ?_;rintro⟨k,y,o,rs,xs,ov,R,Mk⟩ ⟨hk,s,hp,V,j,D,K,F⟩;try dsimp only at hk s hp V j D K F⊢
 have L:=ao.trans K;have ap:Fh o []:=by have:=wWa (l:=(l.take k).map (·.1)) (a:=(po0,[])) wYe;rw[s]at this;exact this
 obtain⟨oa,oc,rfl⟩:=V.form;refine gj (λaq=>?_) λaq=>?_
 ·have n:k<l.length:=by omega
  obtain⟨sb,so,e0,hx⟩:=(h.sm.mono L).open (by intro e;have:=cA length e;rw[Af Ue 7 F4,List.length_nil]at this;omega);cases e0;have S:=Bx Ue 7 F4 hx (List.getElem?_eq_getElem n);have I:=(h.bs l[k] (getElem_mem n)).mono L;have Q:=h.kd l[k] (getElem_mem n);have H:∀M',MLe Mk M'->Sg 11 #[DM o y,.agg (Ue l[k]).toArray] M' [] λu Y L'=>DoX (X o l[k].1) o l[k].1 u Y/\L'=[]:=λM' N=>hX _ (getElem_mem n) o y M' (L.trans N) (hp.mono N) ap;have G:∀(B:Option Rep)(Z:RpV),(B=none->X o l[k].1 Z.e)->PlX X l (rs++[B]) (xs++[Z]):=λB Z h3=>F.snoc (D.1.symm.trans j) n j s h3;have E:((l.take (k+1)).map (·.1)).foldl Zr (po0,[])=Zr (o,rs) l[k].1:=by
   rw[List.take_succ_eq_append_getElem n,List.map_append,List.foldl_append,s];rfl
  generalize l[k]=ak at S I Q H G E;obtain⟨q,dv⟩:=ak;dsimp only at I Q H G E;obtain⟨da,dc,rfl,_,_⟩:=_root_.id I;refine gh ?_;refine AX [GJ b4 y o.gen o.root o.next] (by kernel_rfl) (by simp) ?_;refine gk [0,1,2,3] ?_;refine Er (i:=4) rfl (by kernel_rfl) (by kernel_rfl) rfl rfl (A0 (cs:=Rf q (.slice da q.data.length dc)) rfl rfl rfl rfl rfl (λi v hv=>(S i v hv).cj _)) ?_;refine wUh 5 9 10 [6,7,8] [111,112] H ?_;rintro _ Y U ⟨y2,O,r,e,rd,rn,rfl,ag,J,am,hr⟩;refine gy λb7 b8=>?_;obtain⟨g,f,rfl,ay,ax⟩:=_root_.id J;obtain⟨d,b,rfl,aw,av⟩:=_root_.id am;refine gh ?_;refine lh (Ab (cs:=wBq e r.id (.slice g r.data.length f) (.slice d r.names.length b) r.stat) rfl rfl rfl (by rfl) (by rfl) (by rfl)) ?_;rintro _ _ _ ⟨au,rfl,rfl,rfl⟩;refine gh ?_;have P:∃B:Option Rep,Zr (o,rs) q=(O,rs++[B])/\(∀M':Mem,MLe Y M'->RpOk M' B ⟨e,r.id,g,r.data.length,f,d,r.names.length,b,r.stat⟩)/\(B=none->X o q e):=by
   rcases hr with⟨h0,hd⟩|⟨h0,hd,h1,h2,h3⟩
   ·exact ⟨some r,by unfold Zr;dsimp only;rw[hd],λM' N=>⟨by simp[h0],rfl,J.mono N⟩,λk=>by cases k⟩
   subst h1;subst h2;exact⟨none,by unfold Zr;dsimp only;rw[hd],λM' N=>⟨by simp[h0],rfl,J.mono N⟩,λ_=>h3⟩
  obtain⟨B,ae,ac,ai⟩:=P;refine lh (AY (R:=R) (m:=1) (news:=Zk ⟨e,r.id,g,r.data.length,f,d,r.names.length,b,r.stat⟩) rfl rfl rfl rfl V rfl (λi v h=>CJ.loc (by simpa [Zk]using h)) rfl rfl (by simp[Zk,Value.oneCell']) (by omega) (by decide)) ?_;rintro v3 _ _ ⟨rfl,S2,rfl,aj,_⟩;refine gh ?_;refine BB ⟨k+1,y2,O,rs++[B],xs++[⟨e,r.id,g,r.data.length,f,d,r.names.length,b,r.stat⟩],v3,S2,Y⟩ ⟨by show k+1<=l.length;omega,by dsimp only;rw[E,ae],ag,by dsimp only;rw[List.flatMap_append];simpa using aj,by simp[j],(D.mono U).snoc (ac _ (mR)),K.trans U,G B _ ai⟩ (hs:=by
   intro w hw;refine St.sel (C:=[(au,cE (wBq e r.id (.slice g r.data.length f) (.slice d r.names.length b) r.stat) 45),(b8,cE (wBq e r.id (.slice g r.data.length f) (.slice d r.names.length b) r.stat) 45),GJ b7 y2 O.gen O.root O.next]) hw ?_;dsimp only[GJ,Bk,PP];exact BA)
 have al:k=l.length:=by omega
 subst al;rw[List.take_length]at s;have af:La (l.map (·.1))=(o,rs):=s;refine gg ?_;refine BF V (by simp) ?_;intro M4 a4 c4 T e4 az ab;cases e4;refine gr ?_;rw[af];exact⟨⟨y,xs,oa,oc,by rw[j];rfl,hp.mono T,ab,by omega,D.mono T,j,F⟩,rfl⟩
theorem U6(l:List WK)(a:Option Addr)(c:Nat)(M:Mem)(h:AkS M a l)(g:AkF l)(k:l.length<=1000)(m:Tabs M)(n:Kinds M):
  Sg 6 #[.slice a l.length c] M [] λu M' G=>(∃(y:V5)(xs:List RpV)(e:Option Addr)(d:Nat),u=.tuple #[DM (La (l.map (·.1))).1 y,.slice e xs.length d]/\PW M' y (La (l.map (·.1))).1/\SM M' e (xs.flatMap Zk)/\xs.length<=d/\RpsOk M' (La (l.map (·.1))).2 xs/\xs.length=l.length)/\G=[]:=
 (Xu (λ_ _ _=>True) l a c M h (λx b o y M' i j s=>(SZ o y M' j s (m.mono i) (n.mono i) x.1 (h.kd x b) (g.sz x b).1 (g.sz x b).2.1 _ ((h.bs x b).mono i) (g.sz x b).2.2).mono λ_ _ _ f=>⟨f.1.x,f.2⟩) k).mono λ_ _ _ f=>by
  obtain⟨⟨y,xs,e,d,F,E,D,C,B,z,_⟩,w⟩:=f
  exact⟨⟨y,xs,e,d,F,E,D,C,B,z⟩,w⟩
section
variable{P:Program}{ops:Array Oper}{N:Fs}{F:Fr}{E:Ent}{M:Mem}{L:Lc}{o:Oper}
theorem hMark{x:Operand}{s e:TypeId}{b n c:Nat}{l:List Value}{L2:Lc}(B:gd ops F o=some true)(z:o.op=.convert s s x)(u:ev F x=some (.slice (sA b 0) n c))[hs:Und P s (.slice e)][C:Und P e (.int .u8)][I:Rm b (.cells l.toArray e (0,0)) L L2]:
  HF P ops N F E M L o (λv M' H=>v=.slice (sA b 0) n c/\M=M'/\H=(b,.cells l.toArray e (l.length,l.length+1))::L2):=CG B λa w D y=>by
 obtain⟨k,f⟩:=y.setRm (b:=b) (mo':=.cells l.toArray e (l.length,l.length+1))
 have j:=Bq k
 have g:w.shape? b=some (e,l.length):=by simp[World.shape?,k]
 have d:w.freeze ⟨b,l.length,none⟩ 1={ w with heap:=w.heap.setIfInBounds b (.cells l.toArray e (l.length,l.length+1)) }:=by
  have G:(w.heap.modify b fun|.cells c elem (lo,hi)=>.cells c elem (if lo==hi then (l.length,l.length+1)else (min lo l.length,max hi (l.length+1)))|o=>o)=w.heap.setIfInBounds b (.cells l.toArray e (l.length,l.length+1)):=by
   apply Array.ext_getElem?;intro i;rw[Array.getElem?_modify,Array.getElem?_setIfInBounds];by_cases m:b=i
   ·subst m;rw[iP rfl,iP rfl,k,iP j];rfl
   rw[iN m,iN m]
  simp only[World.freeze,Nat.one_ne_zero,if_false];exact cA (λh=>{ w with heap:=h }) G
 refine⟨_,_,M,_,.inl ?_,f,rfl,rfl,rfl⟩
 rw[<-d]
 simp[execOp,z,D.ev u,convert,run_underlying hs.h,run_underlying C.h,markStringish,g]
end
abbrev wRf:List By:=[47,49,47,97]
abbrev fq0:Ask:=⟨1,[],[],0,0,0,[]⟩
abbrev fq1:Ask:=⟨5,wRf,[],0,0,0,[]⟩
abbrev fq2:Ask:=⟨7,wRf,[],2,0,0,[120]⟩
abbrev fq3:Ask:=⟨8,wRf,[],0,9,0,[]⟩
abbrev Ha(dv:Value):List WK:=[(fq0,AP),(fq1,AP),(fq2,dv),(fq3,AP)]
theorem Yt(M:Mem):Sg 7 #[] M [] λu M' f=>∃b dv,u=.slice (sA b 0) 4 4/\BS M' dv [120]/\f=[(b,cE ((Ha dv).flatMap Ue) 39)]:=by
 refine sB (vs:=[]) func7 ntmps7 ?_;intro W;refine gh ?_;refine lh (Ab (cs:=[iB 120]) rfl rfl rfl (by rfl) (by rfl) (by rfl)) ?_;rintro _ _ _ ⟨a,rfl,rfl,rfl⟩;refine gg ?_;refine lh (hMark (b:=a) rfl rfl rfl) ?_;rintro _ _ _ ⟨rfl,rfl,rfl⟩;refine gh ?_;refine lh (Ab (cs:=(Ha (.slice (sA a 0) 1 1)).flatMap Ue) rfl rfl rfl (by rfl) (by rfl) (by rfl)) ?_;rintro _ _ _ ⟨c,rfl,rfl,rfl⟩;refine gg ?_;refine AD a (by simp) ?_;intro g d e;refine gh ?_;refine zd [(c,cE ((Ha (.slice (sA a 0) 1 1)).flatMap Ue) 39)] rfl ?_;exact⟨c,.slice (sA a 0) 1 1,rfl,⟨_,_,rfl,lR,SM.of_block e⟩,rfl⟩
variable{dv:Value}
theorem wMg(c:BS M dv [120])(h:SM M a ((Ha dv++l).flatMap Ue))(e:∀x∈l,BS M x.2 x.1.data)(d:∀x∈l,0<=x.1.kind/\x.1.kind<256):AkS M a (Ha dv++l):=⟨h,λx b=>by
 simp only[Ha,List.mem_append,List.mem_cons,List.not_mem_nil,or_false]at b
 rcases b with (rfl|rfl|rfl|rfl)|b
 ·exact BS.nil0
 ·exact BS.nil0
 ·exact c
 ·exact BS.nil0
 ·exact e x b,λx b=>by
 simp only[Ha,List.mem_append,List.mem_cons,List.not_mem_nil,or_false]at b
 rcases b with (rfl|rfl|rfl|rfl)|b
 all_goals first|exact d x b|(dsimp only;decide)⟩
theorem num_1:Vg [49]=some 1:=by decide +kernel
theorem N6:Fk wRf=some (1,[[97]]):=by
 have h:Lib.itoa 1=[49]:=by unfold Lib.itoa;rw[iN (by decide)];exact Lib.decDigits_one (by decide)
 unfold Fk;rw[iP (by decide +kernel)];have a:Uh (Lib.trimPrefix wRf [47])=([49],[97],true):=by decide +kernel
 rw[a];unfold ZM;dsimp only;rw[num_1];dsimp only;rw[iP (by exact⟨by decide,by decide,h⟩)];decide +kernel
def wJv(p:Po):Option (Po×Int):=((JT p 1 []).bind λy=>if y.dir then some (1,y.id,[97])else none).bind λ(c:Int×Int×List By)=>Lm p c.1 c.2.1 c.2.2 false
def wrP(p:Po):Option Po:=(JT p 1 [[97]]).bind λy=>FY p 1 y.id 2 [120]
def rdP(p:Po):Option (List By):=(JT p 1 [[97]]).bind λy=>MU p 1 y.id 0 9
def YZ(o:Option (Po×Rep)):Bool:=match o with
 |none=>false
 |some (p1,r1)=>match wJv p1 with
  |none=>false
  |some (p2,i2)=>match wrP p2 with
   |none=>false
   |some p3=>match rdP p3 with
    |none=>false
    |some d=>decide (r1.id=1/\i2=2/\d=[0,0,120])
theorem WE:YZ (Ey po0)=true:=by
 decide +kernel
theorem wPa(o:Option (Po×Rep))(h:YZ o=true):∃e c p2 b a d,o=some (e,c)/\wJv e=some (p2,b)/\wrP p2=some a/\rdP a=some d/\c.id=1/\b=2/\d=[0,0,120]:=by
 unfold YZ at h;split at h
 ·cases h
 split at h
 ·cases h
 rename_i p2 b i;split at h
 ·cases h
 rename_i a g;split at h
 ·cases h
 rename_i d f;exact⟨_,_,_,_,_,_,rfl,i,g,f,oT h⟩
theorem do_0(p:Po):Wi p fq0=Ey p:=rfl
theorem YW{q:Ask}(hk:1<=q.kind/\q.kind<19)(a:q.path=wRf)(b:kindsL.getD q.kind.toNat 0=1):LX q=true:=by
 unfold LX;rw[dT hk,b,a];show ((Fk wRf).isSome&&true)=true;rw[N6];rfl
theorem do_1(p:Po):Wi p fq1=(wJv p).map λr=>(r.1,{ Cf with id:=r.2 }):=by
 have h:Bp p wRf=(JT p 1 []).bind λy=>if y.dir then some (1,y.id,[97])else none:=by unfold Bp;rw[N6,bS,iN (by decide)];rfl
 unfold Wi;rw[iP (YW (by decide) rfl (by decide))];show ((Bp p wRf).bind _)=_;rw[h];unfold wJv;cases (JT p 1 []).bind (λy=>if y.dir then some ((1:Int),y.id,([97]:List By))else none)<;>rfl
theorem do_2(p:Po):Wi p fq2=(wrP p).map (·,Cf):=by
 unfold Wi;rw[iP (YW (by decide) rfl (by decide))];show LL p fq2=_;unfold LL EB;rw[iP (by decide +kernel),N6];unfold wrP;dsimp only[bS];cases JT p 1 [[97]]<;>rfl
theorem do_3(p:Po):Wi p fq3=(rdP p).map λd=>(p,{ Cf with data:=d }):=by
 unfold Wi;rw[iP (YW (by decide) rfl (by decide))];show LL p fq3=_;unfold LL EB;rw[iP (by decide +kernel),N6];unfold rdP;dsimp only[bS];cases JT p 1 [[97]]<;>rfl
variable{rs:List (Option Rep)}
theorem Ld{p o:Po}{q:Ask}{r:Rep}(h:Wi p q=some (o,r)):Zr (p,rs) q=(o,rs++[some r]):=by
 unfold Zr;show (match Wi p q with|none=>_|some r=>_)=_;rw[h]
theorem wHv(z:Po)(c p2 a:Po)(r1:Rep)(b:Int)(d:List By)(h:Ey z=some (c,r1))(g:wJv c=some (p2,b))(f:wrP p2=some a)(e:rdP a=some d):
  ([fq0,fq1,fq2,fq3].foldl Zr (z,[])).2=[some r1,some { Cf with id:=b },some Cf,some { Cf with data:=d }]:=by
 rw[foldl_cons,Ld ((do_0 z).trans h),foldl_cons,Ld (o:=p2) (r:={ Cf with id:=b }) (by rw[do_1,g];rfl),foldl_cons,Ld (o:=a) (r:=Cf) (by rw[do_2,f];rfl),foldl_cons,Ld (o:=a) (r:={ Cf with data:=d }) (by rw[do_3,e];rfl)];rfl
theorem WD:∃c a e b,(La [fq0,fq1,fq2,fq3]).2=[some c,some a,some e,some b]/\c.id=1/\a.id=2/\b.data=[0,0,120]:=by
 obtain⟨g,a,p2,i,f,d,m,l,k,j,h⟩:=wPa _ WE;exact⟨a,_,_,_,wHv po0 g p2 f a i d m l k j,h.1,h.2.1,h.2.2⟩
section
variable{xs:List RpV}{M:Mem}{b off:Nat}{rs:List (Option Rep)}
theorem rp_e(e:∀i u,(xs.flatMap Zk)[i]? =some u->CM M b (off+i) u)(a:RpsOk M rs xs)(k:Nat){r:Rep}(hk:rs[k]? =some (some r)):CM M b (off+k*8) (iL 0):=by
 obtain⟨d,g⟩:=List.getElem?_eq_some_iff.1 hk;have c:k<xs.length:=by rw[a.1];exact d
 have f:=a.2 k d c;have:=Bx Zk 8 N5 e (List.getElem?_eq_getElem c) 0 _ rfl;rwa[f.1.1 (by rw[g];rfl)]at this
theorem rp_i(e:∀i u,(xs.flatMap Zk)[i]? =some u->CM M b (off+i) u)(a:RpsOk M rs xs)(k:Nat){r:Rep}(hk:rs[k]? =some (some r)):CM M b (off+k*8+1) (iL r.id):=by
 obtain⟨d,g⟩:=List.getElem?_eq_some_iff.1 hk;have c:k<xs.length:=by rw[a.1];exact d
 have f:=a.2 k d c;have:=Bx Zk 8 N5 e (List.getElem?_eq_getElem c) 1 _ rfl;rwa[f.2.1,g]at this
theorem rp_d(f:∀i u,(xs.flatMap Zk)[i]? =some u->CM M b (off+i) u)(a:RpsOk M rs xs)(k:Nat){r:Rep}(hk:rs[k]? =some (some r)):∃v,CM M b (off+k*8+2) v/\BS M v r.data:=by
 obtain⟨e,g⟩:=List.getElem?_eq_some_iff.1 hk;have d:k<xs.length:=by rw[a.1];exact e
 have c:=(a.2 k e d).2.2;rw[g]at c;exact⟨_,Bx Zk 8 N5 f (List.getElem?_eq_getElem d) 2 _ rfl,c⟩
end
theorem YY(M:Mem)(D:Tabs M)(F:Kinds M):Sg 8 #[] M [] λu M' O=>u=.bool true/\O=[]:=by
 refine sB (vs:=[]) func8 ntmps8 ?_;intro W;refine gC (Yt M) ?_;rintro _ M1 _ o ⟨b,dv,rfl,m,rfl⟩;refine AA b (by simp) ?_;intro N g H;have n:=wMg (l:=[]) (m.mono g) (SM.of_block H) (λ_ h=>by cases h) λ_ h=>by cases h
 have w:=o.trans g;refine gc (U6 (Ha dv) (sA b 0) 4 N n ⟨by simp⟩ (by simp) (D.mono w) (F.mono w)) ?_;rintro _ M3 E ⟨y,xs,T,R,rfl,Z,j,C,c,d⟩;obtain⟨Y,X,V,U,k,J,I,G⟩:=WD;rw[show (Ha dv).map (·.1)=[fq0,fq1,fq2,fq3]from rfl]at c;rw[k]at c;obtain⟨S,Q,s,i⟩:=j.open (by intro e;have:=cA length e;rw[Af Zk 8 N5,d]at this;simp at this);cases s;have B:=rp_i i c 0 rfl;have z:=rp_i i c 1 rfl;have L:=rp_e i c 2 rfl;obtain⟨P,K,f⟩:=rp_d i c 3 rfl;rw[J]at B;rw[I]at z;rw[G]at f;rw[show xs.length=4 from d];refine gA λb1=>?_;refine gg ?_;refine lq (Aw rfl rfl rfl rfl (B.cj _)) ?_;refine gj (λ_=>?_) λh=>aD rfl h;refine gg ?_;refine lq (Aw rfl rfl rfl rfl (z.cj _)) ?_;refine gj (λ_=>?_) λh=>aD rfl h;refine gg ?_;refine lq (Aw rfl rfl rfl rfl (L.cj _)) ?_;refine gj (λ_=>?_) λh=>aD rfl h;refine gg ?_;refine lq (Aw rfl rfl rfl rfl (K.cj _)) ?_;refine lq (wUb f rfl rfl rfl) ?_;refine lq (Bo (Tl (a:=[0,0,120]) (b:=[0,0,120]) rfl rfl rfl rfl) (v':=.bool true) rfl) ?_;refine gr ?_;exact⟨rfl,rfl⟩
end Go.Proofs.YtjheijhahehnmaaGreatDoor
