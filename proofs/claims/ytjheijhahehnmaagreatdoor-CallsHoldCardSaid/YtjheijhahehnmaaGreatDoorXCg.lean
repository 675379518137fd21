/- Lemmas. -/
import Derived.Test.YtjheijhahehnmaaGreatDoorXCe
import Derived.Lib.ConvBytes
import Derived.Lib.AppendStr
import Derived.Lib.AtoiErrMem
namespace Go.Proofs.YtjheijhahehnmaaGreatDoor
open Go.Proofs.Tryz
open List (length_drop length length_nil take_length length_append getElem_mem getD range)
set_option linter.unusedSimpArgs false
set_option linter.unusedVariables false
set_option linter.unusedSectionVars false
set_option maxHeartbeats 40000000
set_option maxRecDepth 8000
open Go.RowKit
abbrev GJ(b:Nat)(x:V5)(g r1 n:Int):Nat×Obj:=(b,cE (Bk x g r1 n) 32)
abbrev DM(p:Po)(x:V5):Value:=.agg (Bk x p.gen p.root p.next).toArray
def InR(r:Option Ino)(u:Value):Prop:=∃y e,u=.tuple #[.agg (RC y).toArray,iL e]/\Rs r e (y=·)
def PoS(r:Option Po)(M:Mem)(y:V5)(g r1 n e:Int):Prop:=Rs r e λq=>PW M y q/\g=q.gen/\r1=q.root/\n=q.next
variable{M:Mem}{e g:Int}{y:V5}
theorem PoS.mono{r:Option Po}{M':Mem}{r1 n:Int}(h:PoS r M y g r1 n e)(b:MLe M M'):PoS r M' y g r1 n e:=h.imp id λ⟨i,a,f,d,c⟩=>⟨i,a,f,d.mono b,c⟩
theorem PoS.po{r:Option Po}{r1 n:Int}(h:PoS r M y g r1 n e):PoR r (.tuple #[.agg (Bk y g r1 n).toArray,iL e]) M:=⟨y,g,r1,n,e,rfl,h⟩
theorem PoR.no{r:Option Po}(h:e≠0)(a:r=none):PoR r (.tuple #[.agg (Bk Pv 0 0 0).toArray,iL e]) M:=⟨Pv,0,0,0,e,rfl,.no h a⟩
theorem PW.r{x:V5}{p:Po}{r:Option Po}(h:PW M x p)(a:r=some p):PoR r (.tuple #[DM p x,iL 0]) M:=⟨x,_,_,_,0,rfl,.yes p a ⟨h,rfl,rfl,rfl⟩⟩
variable{xs:List By}
theorem BS.cut{a:Option Addr}{c l r:Nat}(h:SM M a (Aa xs))(g:xs.length<=c)(f:l<=r)(e:r<=xs.length)(b:l<c):BS M (.slice (Hk a l c 1) (r-l) (c-l)) ((xs.drop l).take (r-l)):=by
 have d:((xs.drop l).take (r-l)).length=r-l:=by rw[List.length_take,length_drop];omega
 refine⟨_,_,by rw[d],by omega,?_⟩;have:=h.part (s:=1) b (r-l);rw[mO]at this;unfold Aa at this⊢;rw[List.map_take,List.map_drop];exact this
theorem P1{v:Value}(h:BS M v xs)(d:xs.length<=1000000):Sg 189 #[v] M [] λu _ _=>u=iL (ET xs):=by
 obtain⟨a,c,rfl,e,b⟩:=h;exact(Vf a c xs M b d).mono λ_ _ _ h=>h.1
theorem Q0(p:Po)(x:V5)(M:Mem)(h:PW M x p)(q:Int)(k:Ky):Sg 188 #[DM p x,iU q,.agg (Az k).toArray] M [] λu a b=>VfP p q k u a/\b=[]:=WO p x M h.pt h.dead q k
theorem one8(b:By):decide ((b.toNat:Int)=1)=decide (b=1):=by
 have:(b.toNat:Int)=1↔b=1:=by
  constructor
  ·intro h;apply UInt8.toNat_inj.1;have:b.toNat=1:=by omega
   exact this
  intro h;subst h;rfl
 simp[this]
variable{s:Sto}
theorem S4:∀{l:Nat}{xs:List It},(∀x∈xs,Bv x=false/\Bh x.key)->∀y∈Ax s l xs,Bv y=false/\Bh y.key
 |0,xs,h,y,a=>by
  obtain⟨x,c,a⟩:=List.mem_flatMap.1 a;rw[show Ba s 0 x=[x]from rfl,List.mem_singleton]at a;subst a;exact h y c
 |l+1,xs,h,y,a=>by
  obtain⟨x,c,a⟩:=List.mem_flatMap.1 a;refine S4 (l:=l) (xs:=kid s x) (λz b=>?_) y a;unfold kid at b;split at b
  ·rename_i d;have:=Fq d z b;exact⟨this.1,this.2.1⟩
  cases b
theorem Ng{root:Int}{y:It}(a:y∈AT s root):Bv y=false/\Bh y.key:=by
 unfold AT at a;split at a
 ·rename_i c;exact S4 (λz b=>by have:=Fq c z b;exact⟨this.1,this.2.1⟩) y a
 cases a
theorem Y5{p:Po}{q:Int}(h:KQ p q=0):BQ p q=0/\(AN p.st (As p q).root).2=0:=by
 unfold KQ at h;split at h
 ·rename_i a;exact⟨a,h⟩
 rename_i a;exact aD h a
variable{a:Ky}
theorem vrn_fine{p:Po}{q:Int}{b:Ky}:Srt (Mo p q a b)/\(Mo p q a b).length<=15625/\∀y∈Mo p q a b,Bv y=false/\Bh y.key/\btw a b y=true:=by
 unfold Mo;split
 ·rename_i h;have c:=(Y5 h).2;rw[wHa c];refine⟨(wAa c).filter _,by rw[<-wHa c];exact wQo c a b,λy e=>?_⟩;obtain⟨d,f⟩:=List.mem_filter.1 e;exact⟨(Ng d).1,(Ng d).2,f⟩
 exact⟨List.Pairwise.nil,by simp,by simp⟩
variable{k:Ky}
theorem Us{p:Po}{q:Int}{y:It}(h:Tb p q k=some y):y.val.length<=12/\y.key=k/\Bh y.key:=by
 unfold Tb at h;split at h
 ·rename_i d;obtain⟨c,b⟩:=V7 (Y5 d).2 h;obtain⟨e,a⟩:=Ng c;exact⟨by grind[Bv],b,a⟩
 cases h
theorem wLa(y:It)(n:Value)(M:Mem)(h:BS M n y.val):Sg 207 #[.agg #[iB y.key.kind,iU y.key.id,iU y.key.off,iL y.ref,n]] M [] λu H F=>InR (J4 y) u/\F=[]:=by
 obtain⟨a,c,rfl,s,f⟩:=h;by_cases B:y.val.length=7
 ·obtain ⟨b,o,rfl,j⟩:=f.open (by intro e;have:=cA length e;rw[Ac,length_nil]at this;omega);refine sB func207 ntmps207 ?_;intro W;refine JM λm E=>?_;refine DW [0,1,2,3,4,5,6,7,8,9,10,11,12,13,14,15,16,17,18,19,20,21,22,23,24] [(m,cE [iB y.key.kind,iU y.key.id,iU y.key.off,iL y.ref,.slice (sA b o) y.val.length c] 162)] ?_;refine gt ?_;refine dq rfl (Aw rfl rfl rfl rfl ((j 0 _ (B5 (by omega))).cj _)) ?_;refine gj (λC=>?_) λC=>?_
  ·refine gr ?_;exact⟨⟨⟨0,false,0,0⟩,8,rfl,.no (by decide) (by grind[J4])⟩,rfl⟩
  refine gj (λw=>?_) λw=>?_
  ·refine gr ?_;exact⟨⟨⟨0,false,0,0⟩,8,rfl,.no (by decide) (by grind[J4])⟩,rfl⟩
  refine gg ?_;refine dq rfl (qC (Dp _ _)) ?_;refine gg ?_;refine dq rfl (UW (ns:=[y.key.kind,y.key.id,y.key.off]) (ms:=[2,y.key.id,0]) rfl rfl rfl rfl rfl rfl ⟨rfl,rfl⟩) ?_;refine gg ?_;by_cases g:[y.key.kind,y.key.id,y.key.off]=[2,y.key.id,0]
  ·have z:y.key=FH y.key.id:=by simp at g;unfold FH;rw[<-g.1,<-g.2]
   rw[dF (by simpa using g)];refine gg ?_;refine DW [0,1,2,3,4,5,6,7,8,9,10,11,12,13,14,15,16,117,118] [(m,cE [iB y.key.kind,iU y.key.id,iU y.key.off,iL y.ref,.slice (sA b o) y.val.length c] 162)] ?_;refine gg ?_;refine dq rfl (Aw rfl rfl rfl rfl ((j 0 _ (B5 (by omega))).cj _)) ?_;refine gh ?_;refine dq rfl (CK rfl rfl rfl (.no _) (.of (v:=3) rfl (by omega) rfl) (.of (v:=1) rfl (by omega) rfl) (by omega) (by simp)) ?_;refine gg ?_;refine dq rfl (qC (P1 (BS.cut (l:=1) (r:=3) f s (by omega) (by omega) (by omega)) (by simp;omega))) ?_;refine gg ?_;refine dq rfl (CK rfl rfl rfl (.no _) (.no _) (.of (v:=3) rfl (by omega) rfl) (by omega) (by simp)) ?_;refine gg ?_;refine dq rfl (qC (P1 (BS.cut (l:=3) (r:=y.val.length) f s (by omega) (by omega) (by omega)) (by simp;omega))) ?_;refine gg ?_;refine dh rfl (AW rfl rfl) ?_;rintro _ _ _ ⟨G,rfl,rfl,rfl⟩;refine⟨mR,by simp,?_⟩;refine gg ?_;have D:(y.val.drop 3).take (y.val.length-3)=y.val.drop 3:=by rw[<-length_drop,take_length]
   have i:J4 y=if inoE ⟨y.key.id,decide (((y.val.getD 0 0).toNat:Int)=1),ET ((y.val.drop 1).take (3-1)),ET ((y.val.drop 3).take (y.val.length-3))⟩=0 then some ⟨y.key.id,decide (((y.val.getD 0 0).toNat:Int)=1),ET ((y.val.drop 1).take (3-1)),ET ((y.val.drop 3).take (y.val.length-3))⟩else none:=by
    unfold J4;rw[iN (λk=>k.elim (aD B) λk=>k.elim (λk=>by omega) λk=>k.elim w (aD z)),one8,D]
   refine gQ (NC ⟨y.key.id,decide (((y.val.getD 0 0).toNat:Int)=1),ET ((y.val.drop 1).take (3-1)),ET ((y.val.drop 3).take (y.val.length-3))⟩ M) ?_;refine gj (λd=>?_) λd=>?_
   ·refine gr ?_;exact⟨⟨⟨0,false,0,0⟩,_,rfl,.no d (by rw[i,iN d])⟩,rfl⟩
   refine gr ?_;exact⟨⟨_,_,rfl,.yes _ (by rw[i,iP (nN d)]) rfl⟩,rfl⟩
  rw[dT g];refine gr ?_;exact⟨⟨⟨0,false,0,0⟩,8,rfl,.no (by decide) (by unfold J4;rw[iP (by right;right;right;intro e;apply g;rw[e];rfl)])⟩,rfl⟩
 refine sB func207 ntmps207 ?_;intro W;refine JM λm E=>?_;refine DW [0,1,2,3,4,5,6,7,8,9,10,11,12,13,14,15,16,17,18,19,20,21,22,23,24] [(m,cE [iB y.key.kind,iU y.key.id,iU y.key.off,iL y.ref,.slice a y.val.length c] 162)] ?_;refine gu ?_;exact⟨⟨⟨0,false,0,0⟩,8,rfl,.no (by decide) (by grind[J4])⟩,rfl⟩
theorem Es(p:Po)(x:V5)(M:Mem)(h:PW M x p)(v i:Int):Sg 136 #[DM p x,iU v,iU i] M [] λu d w=>InR (C4 p v i) u/\w=[]:=by
 refine sB func136 ntmps136 ?_;intro W;refine NF λn E=>?_;refine AX ([GJ n x p.gen p.root p.next]) (by kernel_rfl) (by simp) ?_;refine gk [0,1,2] ?_;refine Er (i:=3) rfl (by kernel_rfl) (by kernel_rfl) rfl rfl (qC (Dp i _)) ?_;refine wSf 4 8 [5,6,7] [109,10] (λd m=>Q0 p x d (h.mono m) v (FH i)) ?_;rintro _ o l ⟨y,s,e,rfl,g,c⟩;refine gz λD=>?_;refine gg ?_;refine gj (λa=>?_) λa=>?_
 ·refine gr ?_;exact⟨⟨⟨0,false,0,0⟩,e,rfl,.no a (by unfold C4;rw[(c.resolve_left λk=>a k.1).2];rfl)⟩,rfl⟩
 refine gc (wLa y s.v o g) ?_;rintro u F j f;have b:InR (C4 p v i) u:=by
  unfold C4;rw[(c.resolve_right λk=>a k.1).2];exact f
 obtain⟨z,C,rfl,B⟩:=id b;refine gr ?_;exact⟨b,rfl⟩
abbrev scl(y:V5)(g r n v e:Int):List Value:=[y.b.v,y.w.v,y.n.v,y.l.v,iU g,iL r,iU n,y.d.v,iU v,iL e]
abbrev wVn(b:Nat)(y:V5)(g r n v e:Int):Nat×Obj:=(b,cE (scl y g r n v e) 182)
theorem Jj(r:Option Po)(y:V5)(g r1 n e:Int)(M:Mem)(h:PoS r M y g r1 n e)(v:Int)(s:u32 v)(a:It)(j:Value)(o:BS M j a.val)(hk:Bh a.key)(b:Nat):
  Sg 105 #[pB b,.agg #[iB a.key.kind,iU a.key.id,iU a.key.off,iL a.ref,j]] M [wVn b y g r1 n v e] λu D E=>∃m f c d i,E=[wVn b m f c d v i]/\PoS (r.bind λq=>EC q v a) D m f c d i:=by
 refine sB func105 ntmps105 ?_;intro W;refine gA λC=>?_;refine gj (λk=>?_) λk=>?_
 ·subst k;obtain⟨_,p,rfl,B,rfl,rfl,rfl⟩:=h.val (by simp);refine gg ?_;refine Ga [17,20] [1,14,17,18,19,20] [0,1,2,3,4,5,6,7,8,9,10,111,12,13,14,15,16,117,18,19,120] M [(C,cE [iB a.key.kind,iU a.key.id,iU a.key.off,iL a.ref,j] 162),wVn b y p.gen p.root p.next v 0] [] ?_;refine gg ?_;refine dh rfl (hC (GH p y M B v s a j o hk)) ?_;rintro _ F _ ⟨l,R,rfl,⟨z,f,c,d,i,rfl,w⟩,rfl⟩;refine⟨l,by simp,?_⟩;refine gg ?_;refine JY rfl rfl rfl (BR rfl rfl rfl) ?_;refine gg ?_;refine XR ?_;refine zd [wVn b z f c d v i] rfl ?_;exact⟨z,f,c,d,i,rfl,w⟩
 refine gg ?_;refine XR ?_;refine zd [wVn b y g r1 n v e] rfl ?_;exact⟨y,g,r1,n,e,rfl,.no k (by rw[h.err k];rfl)⟩
theorem PG(r:Option Po)(y:V5)(g r1 n e:Int)(M:Mem)(h:PoS r M y g r1 n e)(v:Int)(b:Nat):
  Sg 108 #[pB b] M [wVn b y g r1 n v e] λu c f=>PoR r u c:=by
 refine sB func108 ntmps108 ?_;intro W;refine gA λd=>?_;refine gj (λa=>?_) λa=>?_
 ·refine gg ?_;refine DW [0,1,2,3,4,105,6] [wVn b y g r1 n v e] ?_;refine gr ?_;exact .no a (h.err a)
 obtain rfl:=nN a;refine gr ?_;exact h.po
theorem F2(p:Po)(x:V5)(M:Mem)(h:PW M x p)(q:Int)(a b:Ky):Sg 103 #[DM p x,iU q,.agg (Az a).toArray,.agg (Az b).toArray] M [] λu c d=>(∃s:Sl,u=.tuple #[s.v,iL (KQ p q)]/\NS c s.v (Mo p q a b))/\d=[]:=Up p x M h.pt h.dead q a b
theorem NY{p:Po}{q:Int}{b:Ky}(h:KQ p q≠0):S7 p q a b=none:=iN h
theorem Hx{p:Po}{q:Int}{b:Ky}(h:¬KQ p q≠0):S7 p q a b=some (Mo p q a b):=iP (nN h)
theorem XY(p:Po)(x:V5)(M:Mem)(h:PW M x p)(v:Int)(C:u32 v):Sg 56 #[DM p x,iU v] M [] λu M' L'=>PoR (Nu p v) u M'/\L'=[]:=by
 refine sB func56 ntmps56 ?_;intro W;refine NF λb2 b4=>?_;refine DW [0,1,2,3,104,5,6,7,8,9] [GJ b2 x p.gen p.root p.next] ?_;refine gg ?_;refine dq rfl (qC (Dp 0 _)) ?_;refine gg ?_;refine dq rfl (qC (Dp 1 _)) ?_;refine gg ?_;refine dh rfl (hC (F2 p x M h v (FH 0) (FH 1))) ?_;rintro _ M1 _ ⟨g,R,rfl,⟨s,rfl,D⟩,rfl⟩;refine⟨g,by simp,?_⟩;obtain⟨sa,sn,sc⟩:=s;obtain⟨a,c,ps,e,D⟩:=D;cases e;refine gg ?_;refine gj (λd=>?_) λd=>?_
 ·refine gr ?_;exact⟨.no d (by unfold Nu;rw[NY d];rfl),rfl⟩
 refine gj (λb=>?_) λb=>?_
 ·refine gr ?_;exact⟨.no (by decide) (by unfold Nu;rw[Hx d,bS,iN (by intro e;rw[e]at b;simp at b)]),rfl⟩
 refine gg ?_;refine lh (Bz (cs:=scl x p.gen p.root p.next v 0) rfl rfl rfl rfl) ?_;rintro _ _ _ ⟨f,rfl,rfl,rfl⟩;refine gg ?_;refine gc (KD ⟨1,true,1,0⟩ M1) ?_;rintro _ E B ⟨J,rfl,y⟩;have o:Bh (LD ⟨1,true,1,0⟩).key:=E2 (i:=1) (by unfold u32;omega);have n:PoS (some p) E x p.gen p.root p.next 0:=.yes p rfl ⟨h.mono (g.trans B),rfl,rfl,rfl⟩;refine gC (Jj (some p) x p.gen p.root p.next 0 E n v C (LD ⟨1,true,1,0⟩) J.v y o f) ?_;rintro _ M3 _ V ⟨H,Z,N,Q,e3,rfl,m⟩;refine gc (Qu 2 M3) ?_;rintro _ M4 z ⟨I,rfl,w⟩;refine gC (Jj _ H Z N Q e3 M4 (m.mono z) v C (Sh 2) I.v w (E2 Hz) f) ?_;rintro _ M5 _ U ⟨G,Y,L,P,e5,rfl,k⟩;refine gC (PG _ G Y L P e5 M5 k v f) ?_;rintro _ M6 R T ⟨F,X,K,O,e6,rfl,j⟩;refine gr ?_;exact⟨by unfold Nu;rw[Hx d,bS,iP (by cases S:Mo p v (FH 0) (FH 1)with|nil=>rfl|cons a l=>rw[S]at b;simp at b)];exact⟨F,X,K,O,e6,rfl,j⟩,rfl⟩
def PoI(r:Option (Po×Int))(u:Value)(M':Mem):Prop:=∃(y:V5)(g r1 n i e:Int),u=.tuple #[.agg (Bk y g r1 n).toArray,iU i,iL e]/\Rs r e λq=>PW M' y q.1/\g=q.1.gen/\r1=q.1.root/\n=q.1.next/\i=q.2
theorem PoI.no{r:Option (Po×Int)}(h:e≠0)(a:r=none):PoI r (.tuple #[.agg (Bk Pv 0 0 0).toArray,iU 0,iL e]) M:=⟨Pv,0,0,0,0,e,rfl,.no h a⟩
theorem wDy(p:Po)(x:V5)(M:Mem)(h:PW M x p)(v:Int)(L:u32 v)(d:Bool):Sg 118 #[DM p x,iU v,.bool d] M [] λu K L'=>PoI (HU p v d) u K/\L'=[]:=by
 refine sB func118 ntmps118 ?_;intro W;refine NF λb3 b6=>?_;refine AX ([GJ b3 x p.gen p.root p.next]) (by kernel_rfl) (by simp) ?_;refine gk [0,1] ?_;refine Er (i:=2) rfl (by kernel_rfl) (by kernel_rfl) rfl rfl (qC (Dp 0 _)) ?_;refine wSf 3 7 [4,5,6] [108,9] (λK hM=>Q0 p x K (h.mono hM) v (FH 0)) ?_;rintro _ M1 G ⟨y,⟨sa,sn,sc⟩,e,rfl,D,N⟩;refine gz λb9=>?_;have C:=D;obtain⟨a,c,e9,D⟩:=D;cases e9;refine gg ?_;refine gj (λg=>?_) λg=>?_
 ·refine gr ?_;exact⟨.no g (by unfold HU;rw[(N.resolve_left λk=>g k.1).2];rfl),rfl⟩
 have w:=(N.resolve_right λk=>g k.1).2;have b:(y.val.length≠4\/y.ref≠0\/ET y.val<2\/1048576<ET y.val)->HU p v d=none:=λk=>by unfold HU;rw[w,bS,iP k]
 refine gQ (P1 C (by have:=(Us w).1;omega)) ?_;refine gj (λn=>?_) λn=>?_
 ·refine gr ?_;exact⟨.no (by decide) (b (by dsimp only at n;omega)),rfl⟩
 dsimp only at n;refine gj (λJ=>?_) λJ=>?_
 ·refine gr ?_;exact⟨.no (by decide) (b (by omega)),rfl⟩
 refine gj (λI=>?_) λI=>?_
 ·refine gr ?_;exact⟨.no (by decide) (b (by omega)),rfl⟩
 refine gj (λH=>?_) λH=>?_
 ·refine gr ?_;exact⟨.no (by decide) (b (by omega)),rfl⟩
 refine gj (λh5=>?_) λh5=>?_
 ·refine gr ?_;exact⟨.no (by decide) (b (by omega)),rfl⟩
 refine gg ?_;refine lh (Bz (cs:=scl x p.gen p.root p.next v 0) rfl rfl rfl rfl) ?_;rintro _ _ _ ⟨j,rfl,rfl,rfl⟩;refine gg ?_;refine lq (Eo rfl rfl rfl (by rw[IntKind.wrap_u32];omega)) ?_;refine gc (KD ⟨ET y.val,d,1,0⟩ M1) ?_;rintro _ M2 F ⟨T,rfl,B⟩;refine gC (Jj (some p) x p.gen p.root p.next 0 M2 (.yes p rfl ⟨h.mono (G.trans F),rfl,rfl,rfl⟩) v L (LD ⟨ET y.val,d,1,0⟩) T.v B (E2 (by unfold u32;dsimp only;omega)) j) ?_;rintro _ M3 _ ac ⟨Q,g3,X,n3,e3,rfl,s⟩;refine gc (Qu (ET y.val+1) M3) ?_;rintro _ M4 E ⟨S,rfl,z⟩;refine gC (Jj _ Q g3 X n3 e3 M4 (s.mono E) v L (Sh (ET y.val+1)) S.v z (E2 Hz) j) ?_;rintro _ M5 _ ab ⟨P,g5,V,Z,e5,rfl,o⟩;refine gC (PG _ P g5 V Z e5 M5 o v j) ?_;rintro _ M6 R aa ⟨O,g6,U,Y,e6,rfl,l⟩;have m:HU p v d=(((some p).bind λq=>EC q v (LD ⟨ET y.val,d,1,0⟩)).bind λq=>EC q v (Sh (ET y.val+1))).map λr=>(r,ET y.val):=by
  unfold HU;rw[w,bS,iN (by omega),Option.map_bind];rfl
 refine gg ?_;refine gj (λf=>?_) λf=>?_
 ·refine gr ?_;exact⟨.no f (by rw[m,l.err f];rfl),rfl⟩
 refine gh ?_;refine lq (Eo rfl rfl rfl (by rw[IntKind.wrap_u32];omega)) ?_;refine gr ?_;obtain⟨rfl,q,hq,n,J,I,H⟩:=l.val f;exact⟨⟨O,g6,U,Y,_,0,rfl,.yes (q,ET y.val) (by rw[m,hq];rfl) ⟨n,J,I,H,rfl⟩⟩,rfl⟩
section
variable{P:Program}{ops:Array Oper}{N:Fs}{F:Fr}{E:Ent}{M:Mem}{L:Lc}{o:Oper}
theorem Py(a b:ByteArray):(a.toList==b.toList)=decide (a=b):=by
 have h:∀z:ByteArray,z.toList=z.data.toList:=λz=>by
  show ByteArray.toList z=_;simp[ByteArray.toList_eq]
 rw[h,h];by_cases e:a=b
 ·subst e;simp
 rw[dF e];simp only[beq_eq_false_iff_ne,ne_eq];intro c;exact e (by cases a;cases b;congr 1;exact Array.toList_inj.1 c)
theorem Uz{a b:List By}:AK a=AK b↔a=b:=⟨λh=>by unfold AK at h;simpa using cA (λz:ByteArray=>z.data.toList) h,λh=>by rw[h]⟩
theorem Tl{x y:Operand}{t d:TypeId}{a b:List By}(h:gd ops F o=some true)(g:o.op=.binOp .eql t x y d)(f:ev F x=some (.string (AK a)))(e:ev F y=some (.string (AK b)))[i:Und P t .string]:QF P ops N F M L o (.bool (decide (a=b))):=Br h λj c w _=>by
 have:(binOp .eql t (.string (AK a)) (.string (AK b))).run P w=.ok (.bool (decide (a=b))) w:=by
  rw[show decide (a=b)=decide (AK a=AK b)by simp[Uz]];simp[binOp,Op.stringOp,<-Py]
 simp only[execOp,g,c.ev f,c.ev e]
 simp[eqGuard,this]
theorem Sb{x:Operand}{t:TypeId}{l:List By}(d:gd ops F o=some true)(c:o.op=.call { callee:=.builtin .len,args:=#[x],argTypes:=#[t] })
  (a:ev F x=some (.string (AK l))) [b:Und P t .string]:QF P ops N F M L o (iL l.length):=Br d λg f w _=>by
 have e:((AK l).size:Int)=l.length:=by unfold AK;simp[ByteArray.size]
 rw[<-e]
 simp[execOp,c,resolve,invoke,builtin,Builtin.len_,f.ev a,run_underlying b.h,goInt]
theorem wVy{x:Operand}{xs:List Operand}{T:Array TypeId}{f:FuncId}{first c vs i:List Value}{v:Value}{R:Lc}(J:gd ops F o=some true)
  (G:o.op=.call { callee:=.value x,args:=xs.toArray,argTypes:=T }) (B:ev F x=some (.func (.func f) first.toArray c.toArray)) (C:evs F xs=some vs) (g:first++vs++c=i) (hgo:De P f=true)
  (j:∀p∈R,p∈L) (hs:SpecL P f i.toArray (Ef M R) [] (λu _ _=>u=v)):QF P ops N F M L o v:=λa y=>
 .inl ⟨E3 y J,λw s=>by
  have n:∀(R:Lc),(∀p∈R,p∈L)->∀b o,Ef M R b=some o->w.heap[b]? =some o:=λR=>by
   induction R with
   |nil=>intro _ b o m;exact s.agree b o m
   |cons p R z=>
    intro j b o m
    have d:(if b=p.1 then some p.2 else Ef M R b)=some o:=m
    by_cases e:b=p.1
    ·rw [iP e]at d;cases d;rw[e];exact s.locs p (j p (List.mem_cons_self ..))
    rw[iN e]at d;exact z (λq D=>j q (List.mem_cons_of_mem _ D)) b o d
  have l:St ⟨w,([]:Lc).map (·.1),Ef M R⟩ (Ef M R) [] w:=
   {os:=rfl,tape:=rfl,output:=rfl,size:=lR,same:=λ_ _ _=>rfl,fresh:=λ_ _=>rfl,agree:=n R j
    locs:=λp E=>by cases E
    nodup:=by simp }
  rw[Kk G y B C g hgo w]
  refine⟨Below.refl _ _,(hs w l).mono λe K I=>?_⟩
  obtain⟨u,Q,O,rfl,rfl,h⟩:=I
  exact⟨rfl,⟨h.os,h.tape,h.output,h.size,λk H=>h.same k H (by simp)⟩⟩⟩
theorem wUb{x:Operand}{s d e:TypeId}{v:Value}{l:List By}(j:BS M v l)(i:gd ops F o=some true)(h:o.op=.convert s d x)(g:ev F x=some v)[hs:Und P s (.slice e)][k:Und P e (.int .u8)][m:Und P d .string]:QF P ops N F M L o (.string (AK l)):=by
 obtain⟨a,c,rfl,n,f⟩:=j;rw[<-HC];exact wVr (P:=P) (N:=N) (L:=L) (xs:=l.map λb=>(b.toNat:Int)) i h g (by simp) (by simpa [Aa,List.map_map,Function.comp_def]using f.sj L)
theorem wSo{x:Operand}{s d e:TypeId}{st:ByteArray}(D:gd ops F o=some true)(z:o.op=.convert s d x)(m:ev F x=some (.string st))[hs:Und P s .string][H:Und P d (.slice e)][G:Und P e (.int .u8)]:
  HF P ops N F E M L o (λv O Q=>M=O/\∃b c j,v=.slice (sA b 0) st.data.toList.length c/\Q=(b,j)::L/\st.data.toList.length<=c/\∃(cs:List Value)(fz:Nat×Nat),j=.cells cs.toArray e fz/\cs.take st.data.toList.length=Aa st.data.toList):=CG D λa w J f=>by
 have u:=Lib.run_convert_string_bytes (P:=P) w s d e st hs.h H.h G.h
 have I:=Lib.bytesWorld_at_new w e st
 have n:=Lib.bytesWorld_size w e st
 have i:Below w.heap.size w (Lib.bytesWorld w e st):=(Lib.bytesWorld_below w e st)
 refine⟨_,Lib.bytesWorld w e st,M,(w.heap.size,.cells (Lib.bytesCells w e st) e ((Lib.bytesCells w e st).size,(Lib.bytesCells w e st).size+1))::L,.inl ?_,?_,rfl,w.heap.size,grownCap w st.size 0 e,_,by rw[Array.length_toList],rfl,by rw[Array.length_toList];exact grownCap_ge w st.size 0 e,(Lib.bytesCells w e st).toList,_,rfl,?_⟩
 ·simp [execOp,z,J.ev m,u]
 ·have l:=St.closed _ _ _ _ _ f i
  refine { l with locs:=λp g=>?_,nodup:=?_ }
  ·rcases List.mem_cons.1 g with rfl|g
   ·refine ⟨I,.inl f.size,?_⟩
    cases B:M w.heap.size with
    |none=>rfl
    |some y=>exact aD (Bq (f.agree _ _ B)) (by omega)
   exact l.locs p g
  rw[List.map_cons,List.nodup_cons]
  refine⟨λh=>?_,f.nodup⟩
  obtain⟨p,g,K⟩:=List.mem_map.1 h
  have k:=Bq (f.locs p g).1
  rw[K]at k
  exact aD k (Nat.lt_irrefl _)
 unfold Lib.bytesCells
 have C:(st.data.map λb=>iB b.toNat).toList=Aa st.data.toList:=by unfold Aa;rw[Array.toList_map]
 rw[Array.toList_append,C]
 exact List.take_left' (by rw[Ac])
theorem Zn{t e:TypeId}{n:Nat}{ps:List (Nat×Operand)}{vs:List (Nat×Value)}{s g b j:Nat}{z z2 cs:List Value}(G:gd ops F o=some true)(C:o.op=.build t ps.toArray)(y:evp F ps=some vs)[B:Und P t (.array n e)][D:Lay P t s g z][H:Lay P e b j z2]
  (I:FZ (λi=>some (i*b,b)) z vs=some cs):QF P ops N F M L o (.agg cs.toArray):=Br G λa J w _=>by
 obtain⟨R,Q,E,_,_,u,c⟩:=D.info
 obtain⟨m,l,f,d,_⟩:=H.info
 have k:=J.evp y
 have O:((ps.toArray).map λx=>(x.1,a.eval x.2)).toList=vs:=by rw[<-k];simp
 have K:=LK _ _ _ _ I
 simp only[execOp,C]
 simp[Instr.build,zeroValue,typeInfo,E,u,c,run_underlying B.h,sizeOf,f,d,O,k,K]
theorem HF.fz{W:World}{j:Mem}{e:TypeId}{size n:Nat}{xs:List Value}(h:HF P ops N F ⟨W,[],j⟩ M L o λv b d=>M=b/\∃R,d=R++L/\Own v R e size n xs):HF P ops N F ⟨W,[],j⟩ M L o λv b d=>MLe M b/\d=L/\∃a c,v=.slice a n c/\n<=c/\SM b a xs:=λa w i g=>
 ⟨(h a w i g).1,λQ=>Oper.wpIn_mono (λG E ⟨v,b,d,e,y,B⟩=>by
  obtain⟨rfl,R,rfl,z⟩:=B
  obtain⟨D,C,f,u,s,m,l,k⟩:=z.freeze (by simp) y
  exact⟨v,D,L,e,k,u,rfl,C,f,s,m,l⟩) ((h a w i g).2 Q)⟩
theorem wEf{x y:Operand}{t u e:TypeId}{m:Addr}{c n:Nat}{z xs:List Value}{l:List By}(hg:gd ops F o=some true)
  (ho:o.op=.call { callee:=.builtin .append,args:=#[x,y],argTypes:=#[t,u] }) (hx:ev F x=some (.slice (some m) n n)) (hy:ev F y=some (.string (AK l))) [ht:Und P t (.slice e)] [J:Und P u .string] [Y:Lay P e 1 c z]
  (k:xs.length=n) (hold:∀i v,xs[i]? =some v->CJ M L m.block (m.off+i) v) (V:m.spot=none) (hm:0<l.length) (G:n+l.length<=1000000000) (U:c<=100000):
  HF P ops N F E M L o (λv' M' L'=>M=M'/\∃R',L'=R'++L/\Own v' R' e 1 (n+l.length) (xs++Aa l)):=CG hg λa w Z W=>by
 obtain⟨ti,B,hi,R,Q,hz,I⟩:=Y.info
 have H:B.cells.size=1:=by rw[I];simpa using Y.len
 have f:(AK l).size=l.length:=by simp[AK,ByteArray.size]
 have K:Lib.strCells (AK l)=Aa l:=by simp[Lib.strCells,AK,Aa]
 have add:∀(s:Addr),s.spot=none->∀j,s.add j=⟨s.block,s.off+j,none⟩:=λs X j=>by
  obtain⟨b,of,sp⟩:=s;simp only at X;subst X;unfold Addr.add;split<;>simp_all
 have hb:(n+l.length)*c<=1000000000*100000:=Nat.mul_le_mul G U
 have O:=Lib.run_append_grow_string (P:=P) w t u o.type e ti B ht.h J.h hi hz m n n xs (by rw[R,k];omega) (λj u J=>by rw[add m V];exact(hold j u J).cell W.js) (AK l) (by rw[f];omega) (by rw[f];omega) (by rw[f];exact growslice_fits (by omega) (by rw[Q];omega))
 rw[f,K]at O
 have S:=grownCap_ge w (n+l.length) n e
 have T:grownCap w (n+l.length) n e<=maxLen:=grownCap_le_maxLen w (n+l.length) n e (by unfold maxLen;omega)
 have g:(xs++Aa l).length=(n+l.length)*1:=by rw[length_append,k,Ac];omega
 have D:(xs.toArray++(Aa l).toArray++Builtin.zeroCells B.cells (grownCap w (n+l.length) n e-(n+l.length))).size=grownCap w (n+l.length) n e*1:=by
  simp only[Array.size_append,List.size_toArray,size_zeroCells,H,k,Ac];omega
 have C:(xs.toArray++(Aa l).toArray++Builtin.zeroCells B.cells (grownCap w (n+l.length) n e-(n+l.length))).toList.take ((n+l.length)*1)=xs++Aa l:=by
  simp only[Array.toList_append,List.append_assoc];rw[<-List.append_assoc,<-g];exact List.take_left
 generalize xs.toArray++(Aa l).toArray++Builtin.zeroCells B.cells (grownCap w (n+l.length) n e-(n+l.length))=d at O D C
 have hd:St E M L w.drew:={ W with }
 refine⟨_,w.drew.alloc (.cells d e),M,[(w.drew.heap.size,.cells d e (0,0))]++L,.inl ?_,hd.alloc (.cells d e),rfl,[(w.heap.size,.cells d e (0,0))],rfl,⟨g,.inr ⟨w.heap.size,_,d,rfl,rfl,S,T,D,C⟩⟩⟩
 simp[execOp,ho,resolve,invoke,builtin,Z.ev hx,Z.ev hy,O]
end
variable{M:Mem}{a:Option Addr}{cs:List Value}
theorem SM.take(h:SM M a cs)(k:Nat):SM M a (cs.take k):=by
 rcases h with h|⟨b,d,e,f⟩
 ·exact .inl (by rw[h,List.take_nil])
 exact .inr ⟨b,d,e,λi u c=>f i u (by rw[List.getElem?_take]at c;split at c;exact c;cases c)⟩
variable{R:Lc}{e:TypeId}
theorem wWc{n c size:Nat}{xs:List Value}(b:Own (.slice a n c) R e size n xs):n<=c/\SM (Ef M R) a xs:=by
 have f:(R.map (·.1)).Nodup:=by
  rcases b.2 with⟨_,_,rfl⟩|⟨g,l,k,_,rfl,_⟩<;>simp
 obtain⟨o,m,j,i,h⟩:=b.lent (M:=Ef M R) λp d=>F5 f d;cases j;exact⟨i,h⟩
def XV{α:Type}(xs:List α)(p:α->Bool):Int:=match xs.findIdx? p with|some k=>(k:Int)|none=> -1
variable{α:Type}{xs:List α}
theorem wKw{p:α->Bool}(h:∀j (a:j<xs.length),p xs[j]=false):XV xs p= -1:=by
 unfold XV;rw[List.findIdx?_eq_none_iff.2 λx b=>by obtain⟨j,a,rfl⟩:=List.getElem_of_mem b;exact h j a]
variable{k:Nat}
theorem wKx{p:α->Bool}(hk:k<xs.length)(h:p xs[k]=true)(b:∀j (a:j<xs.length),j<k->p xs[j]=false):XV xs p=k:=by
 unfold XV;rw[List.findIdx?_eq_some_iff_getElem.2 ⟨hk,h,λj a=>by rw[b j (by omega) a];simp⟩]
theorem ixI_neg{p:α->Bool}:(XV xs p<0↔xs.findIdx? p=none)/\∀k,xs.findIdx? p=some k->XV xs p=k/\k<xs.length:=by
 unfold XV;cases h:xs.findIdx? p with
 |none=>simp
 |some k=>
  obtain⟨a,_⟩:=List.findIdx?_eq_some_iff_getElem.1 h
  exact⟨by simp,λj b=>by cases b;exact⟨rfl,a⟩⟩
theorem Qq{p:α->Bool}(h:xs.findIdx? p=none):XV xs p= -1:=by unfold XV;rw[h]
theorem Pg{p:α->Bool}:decide (0<=XV xs p)=xs.any p:=by
 unfold XV;cases h:xs.findIdx? p with
 |none=>
  have:=List.findIdx?_eq_none_iff.1 h
  rw[List.any_eq_false.2 λx a=>by rw[this x a];decide];rfl
 |some k=>
  obtain⟨b,c,_⟩:=List.findIdx?_eq_some_iff_getElem.1 h
  rw[List.any_eq_true.2 ⟨xs[k],getElem_mem b,c⟩]
  exact dT (by dsimp only;omega)
theorem wNv(xs:List By)(a:Option Addr)(c:Nat)(f:FuncId)(p:By->Bool)(M:Mem)(hs:SM M a (Aa xs))(hgo:De prog f=true)(w:∀b:By,Sg f #[iB b.toNat] M [] λu _ _=>u=.bool (p b))(D:xs.length<=1000000):
  Sg 169 #[.slice a xs.length c,.func (.func f) #[] #[]] M [] λv _ _=>v=iL (XV xs p):=by
 refine sB func169 ntmps169 ?_;intro W;refine gh ?_;refine Cy (α:=Nat) (λk=>[(0,.slice a xs.length c),(1,.func (.func f) #[] #[]),(7,iL xs.length),(8,iL k)]) (λ_=>M) (λ_=>[]) (λk=>k<=xs.length/\∀j (i:j<xs.length),j<k->p xs[j]=false) (λk=>xs.length-k) 0 ⟨zL,λ_ _ h=>aD h (Nat.not_lt_zero _)⟩ ?_;rintro k ⟨o,l⟩;try dsimp only at o l⊢
 refine gj (λy=>?_) λy=>?_
 ·refine gh ?_;have d:k<xs.length:=by omega
  obtain⟨C,B,z,n⟩:=hs.open (by intro e;have:=cA length e;simp[Aa]at this;subst this;simp at d);cases z;refine gg ?_;refine lq (Aw rfl rfl rfl rfl ((n _ (iB (xs[k].toNat:Int)) (by rw[mO,show xs[k]=xs.getD k 0 by simp[getD,d]];exact B5 d)).cj _)) ?_;refine BK rfl rfl (Dc rfl rfl rfl rfl rfl hgo (w xs[k])) (λg=>?_) (λg=>?_)
  ·refine gr ?_;rw[wKx d g l]
  refine gh ?_;refine BB (k+1) ⟨by show k+1<=xs.length;omega,λj i s=>by
   by_cases e:j=k
   ·subst e;exact g
   exact l j i (by omega)⟩
 refine gr ?_;have m:k=xs.length:=by omega
 subst m;rw[wKw λj i=>l j i i]
theorem S3(xs:List By)(a:Option Addr)(c:Nat)(d:FuncId)(p:By->Bool)(M:Mem)(hs:SM M a (Aa xs))(hgo:De prog d=true)(f:∀b:By,Sg d #[iB b.toNat] M [] λu _ _=>u=.bool (p b))(e:xs.length<=1000000):
  Sg 98 #[.slice a xs.length c,.func (.func d) #[] #[]] M [] λv _ _=>v=.bool (xs.any p):=by
 refine sB func98 ntmps98 ?_;intro W;refine gq (wNv xs a c d p M hs hgo f e) ?_;refine gr ?_;rw[<-Pg]
abbrev HJ(x:LZ):List Value:=[.string (AK x.1),iU x.2]
theorem FQ(x:LZ):(HJ x).length=2:=rfl
theorem Vj(xs:List LZ)(a:Option Addr)(c:Nat)(d:FuncId)(g:Value)(p:LZ->Bool)(M:Mem)(hs:SM M a (xs.flatMap HJ))(hgo:De prog d=true)(C:∀b:LZ,Sg d #[.agg (HJ b).toArray,g] M [] λu _ _=>u=.bool (p b))(H:xs.length<=1000000):
  Sg 279 #[.slice a xs.length c,.func (.func d) #[] #[g]] M [] λv _ _=>v=iL (XV xs p):=by
 refine sB func279 ntmps279 ?_;intro W;refine gh ?_;refine Cy (α:=Nat) (λk=>[(0,.slice a xs.length c),(1,.func (.func d) #[] #[g]),(7,iL xs.length),(8,iL k)]) (λ_=>M) (λ_=>[]) (λk=>k<=xs.length/\∀j (m:j<xs.length),j<k->p xs[j]=false) (λk=>xs.length-k) 0 ⟨zL,λ_ _ h=>aD h (Nat.not_lt_zero _)⟩ ?_;rintro k ⟨z,n⟩;try dsimp only at z n⊢
 refine gj (λD=>?_) λD=>?_
 ·refine gh ?_;have l:k<xs.length:=by omega
  obtain⟨G,F,E,w⟩:=hs.open (by intro e;have:=cA length e;rw[Af HJ 2 FQ,length_nil]at this;omega);cases E;have s:=Bx HJ 2 FQ w (List.getElem?_eq_getElem l);refine gh ?_;refine lq (A0 (cs:=HJ xs[k]) rfl rfl rfl rfl rfl (λi v y=>(s i v y).cj _)) ?_;refine BK rfl rfl (Dc rfl rfl rfl rfl rfl hgo (C xs[k])) (λf=>?_) (λf=>?_)
  ·refine gr ?_;rw[wKx l f n]
  refine gh ?_;refine BB (k+1) ⟨by show k+1<=xs.length;omega,λj m B=>by
   by_cases e:j=k
   ·subst e;exact f
   exact n j m (by omega)⟩
 refine gr ?_;have o:k=xs.length:=by omega
 subst o;rw[wKw λj m=>n j m m]
theorem wCu(xs:List LZ)(a:Option Addr)(c:Nat)(d:FuncId)(e:Value)(p:LZ->Bool)(M:Mem)(hs:SM M a (xs.flatMap HJ))(hgo:De prog d=true)(g:∀b:LZ,Sg d #[.agg (HJ b).toArray,e] M [] λu _ _=>u=.bool (p b))(f:xs.length<=1000000):
  Sg 186 #[.slice a xs.length c,.func (.func d) #[] #[e]] M [] λv _ _=>v=.bool (xs.any p):=by
 refine sB func186 ntmps186 ?_;intro W;refine gq (Vj xs a c d e p M hs hgo g f) ?_;refine gr ?_;rw[<-Pg]
theorem wJo(s:List By)(v:LZ)(b:Nat)(M:Mem)(a:M b=some (cE [.string (AK s)] 9)):
  Sg 288 #[.agg (HJ v).toArray,pB b] M [] λu _ _=>u=.bool (decide (v.1=s)):=by
 refine sB func288 ntmps288 ?_;intro W;refine gA λc=>?_;refine lq (Aw rfl rfl rfl rfl (CM.cj ⟨_,_,_,a,rfl⟩ _)) ?_;refine gg ?_;refine lq (Tl rfl rfl rfl rfl) ?_;refine gr ?_;rfl
theorem TP(l:List LZ)(a:Option Addr)(c:Nat)(s:List By)(M:Mem)(hs:SM M a (l.flatMap HJ))(f:l.length<=1000000):Sg 215 #[.slice a l.length c,.string (AK s)] M [] λu _ _=>u=iL (XV l λy=>decide (y.1=s)):=by
 refine sB func215 ntmps215 ?_;intro W;refine gA λd=>?_;refine AA d (by simp) ?_;intro e b g;refine gq (Vj l a c _ _ _ e (hs.mono b) (by kernel_rfl) (λv=>wJo s v d e g) f) ?_;refine gr ?_;rfl
theorem wMr(b:By)(M:Mem):Sg 97 #[iB b.toNat] M [] λu _ _=>u=.bool (Zx b):=by
 refine sB func97 ntmps97 ?_;intro W;refine gj (λd=>?_) λd=>?_
 ·refine gr ?_;exact cA _ (dT (by omega)).symm
 refine gj (λc=>?_) λc=>?_
 ·refine gr ?_;exact cA _ (dT (by omega)).symm
 refine gj (λa=>?_) λa=>?_
 ·refine gr ?_;exact cA _ (dT (by omega)).symm
 refine gr ?_;exact cA _ (dF (by omega)).symm
theorem LT(s:List By)(M:Mem):Sg 54 #[.string (AK s)] M [] λu _ _=>u=iL (wPi s):=by
 refine sB func54 ntmps54 ?_;intro W;refine gg ?_;refine lq (Sb rfl rfl rfl) ?_;refine gj (λl=>?_) λl=>?_
 ·refine gr ?_;exact cA _ (iP (.inl (by omega))).symm
 refine gg ?_;refine lq (Sb rfl rfl rfl) ?_;refine gj (λj=>?_) λj=>?_
 ·refine gr ?_;exact cA _ (iP (.inr (.inl (by omega)))).symm
 refine gg ?_;refine lh (wSo rfl rfl rfl) ?_;rintro _ _ _ ⟨rfl,b,c,n,rfl,rfl,h,cs,fz,rfl,a⟩;have f:(AK s).data.toList=s:=by simp[AK]
 rw[f]at h a;simp only[f];refine AA b (by simp) ?_;intro e i m;have d:SM e (sA b 0) (Aa s):=by
  have:=(SM.of_block m).take s.length;rw[a]at this;exact this
 refine gQ (S3 s _ c _ Zx e d (by kernel_rfl) (λb=>wMr b e) (by omega)) ?_;cases g:s.any Zx with
 |true=>
  refine gr ?_
  exact cA _ (iP (.inr (.inr g))).symm
 |false=>
  refine gr ?_
  exact cA _ (iN (λk=>k.elim (λk=>by omega) λk=>k.elim (λk=>by omega) λk=>by rw[g]at k;cases k)).symm
theorem Pk(i n:Int)(a:u32 n)(M:Mem):Sg 213 #[iU i,iL n] M [] λu _ _=>u=.agg (Az (Ro i n)).toArray:=by
 refine sB func213 ntmps213 ?_;intro W;refine ga λb=>?_;refine lq (Eo rfl rfl rfl (by rw[IntKind.wrap_u32];unfold u32 at a;omega)) ?_;refine gr ?_;rfl
theorem VI(c:By):∀(xs:List By)(j:Nat)(a:Int),wFu j (xs++[c]) a=Nf .u32 (wFu j xs a) (LV .u32 (c.toNat:Int) (8*(j+xs.length)))
 |[],j,a=>rfl
 |x::xs,j,a=>by
  rw[List.cons_append,wFu,VI c xs,wFu,List.length_cons,show j+1+xs.length=j+(xs.length+1)by omega]
def EnP(r:Option LZ)(u:Value):Prop:=∃nm i b,u=.tuple #[.agg (HJ (nm,i)).toArray,.bool b]/\((b=true/\r=some (nm,i))\/(b=false/\r=none))
theorem Wl(y:It)(D:Value)(M:Mem)(h:BS M D y.val)(N:y.val.length<=1000000):Sg 214 #[.agg #[iB y.key.kind,iU y.key.id,iU y.key.off,iL y.ref,D]] M [] λu P L=>EnP (Yy y) u/\L=[]:=by
 obtain⟨a,c,rfl,I,s⟩:=h;refine sB func214 ntmps214 ?_;intro W;refine NF λO F=>?_;refine gj (λJ=>?_) λJ=>?_
 ·refine gr ?_;exact⟨⟨[],0,false,rfl,.inr ⟨rfl,by unfold Yy;rw[iP (.inl (by omega))]⟩⟩,rfl⟩
 refine gj (λE=>?_) λE=>?_
 ·refine gr ?_;exact⟨⟨[],0,false,rfl,.inr ⟨rfl,by unfold Yy;rw[iP (.inr E)]⟩⟩,rfl⟩
 obtain⟨b,o,rfl,B⟩:=s.open (by intro e;have:=cA length e;rw[Ac,length_nil]at this;omega);have g:=BS.cut (l:=4) s I (r:=y.val.length) (by omega) (by omega) (by omega);have K:(y.val.drop 4).take (y.val.length-4)=y.val.drop 4:=by rw[<-length_drop,take_length]
 rw[K]at g;generalize G:y.val.drop 4=f at g;have d:Yy y=(λx=>if 1<=x/\x<=1048576/\wPi f=0 then some (f,x)else none) (wFu 0 (y.val.take 4) 0):=by unfold Yy;rw[iN (by omega),G]
 refine gg ?_;refine lq (CK rfl rfl rfl (.no _) (.no _) (.of (v:=4) rfl (by omega) rfl) (by omega) (by simp)) ?_;refine gg ?_;refine lq (wUb g rfl rfl rfl) ?_;refine ga λw=>?_;refine lq (Bo (CK rfl rfl rfl (.no _) (.of (v:=4) rfl (by omega) rfl) (.no _) (by omega) (by simp)) (v':=.slice (sA b o) 4 c) (by rw[AV];rfl)) ?_;refine gh ?_;refine Cy (α:=Nat) (λk=>[(2,pB F),(3,.bool false),(4,pB w),(24,.slice (sA b o) 4 c),(25,iL 4),(26,iL k)]) (λ_=>M) (λk=>[(w,cE [.string (AK f),iU (wFu 0 (y.val.take k) 0)] 143),(F,cE [.string (AK []),iU 0] 143)]) (λk=>k<=4) (λk=>4-k) 0 (by decide) ?_ (hs:=λ_ h=>h.fewer (List.sublist_append_left [_,_] [_]));rintro k H;try dsimp only at H⊢
 refine gj (λC=>?_) λC=>?_
 ·have i:k<y.val.length:=by omega
  refine gg ?_;refine lq (Aw rfl rfl rfl rfl ((B _ (iB ((y.val.getD k 0).toNat:Int)) (by rw[mO];exact B5 i)).cj _)) ?_;refine gg ?_;refine Ga [9] [9] [0,1,2,3,4,5,6,7,8,109] M [(w,cE [.string (AK f),iU (wFu 0 (y.val.take k) 0)] 143)] [] ?_;refine gg ?_;refine dq rfl (Eo rfl rfl rfl (by rw[IntKind.wrap_u32];have:=(y.val.getD k 0).toNat_lt;omega)) ?_;refine gg ?_;refine dq rfl (DE rfl rfl rfl rfl (by omega) rfl) ?_;refine dq rfl (EH rfl rfl rfl rfl rfl) ?_;refine gh ?_;have z:wFu 0 (y.val.take (k+1)) 0=Nf .u32 (wFu 0 (y.val.take k) 0) (LV .u32 ((y.val.getD k 0).toNat:Int) (Int.toNat (8*(k:Int)))):=by
   rw[List.take_succ_eq_append_getElem i,VI,show y.val.getD k 0=y.val[k]by simp[getD,i],List.length_take,show Int.toNat (8*(k:Int))=8*(0+min k y.val.length)by omega]
  rw[<-z];refine BB (k+1) (by show k+1<=4;omega)
 obtain rfl:k=4:=by omega
 refine gg ?_;refine DW [0,1,2,3,4,5,6,7,8,9,10,11,12,13,14,115,16] [(w,cE [.string (AK f),iU (wFu 0 (y.val.take 4) 0)] 143)] ?_;refine gj (λn=>?_) λn=>?_
 ·refine gj (λm=>?_) λm=>?_
  ·refine gg ?_;refine dq rfl (qC (LT f _)) ?_;refine gj (λj=>?_) λj=>?_
   ·refine gr ?_;exact⟨⟨f,_,true,rfl,.inl ⟨rfl,by rw[d];exact iP ⟨n,m,j⟩⟩⟩,rfl⟩
   refine gr ?_;exact⟨⟨f,_,false,rfl,.inr ⟨rfl,by rw[d];exact iN λk=>j k.2.2⟩⟩,rfl⟩
  refine gr ?_;exact⟨⟨f,_,false,rfl,.inr ⟨rfl,by rw[d];exact iN λk=>m k.2.1⟩⟩,rfl⟩
 refine gr ?_;exact⟨⟨f,_,false,rfl,.inr ⟨rfl,by rw[d];exact iN λk=>n k.1⟩⟩,rfl⟩
def NsV(l:List LZ)(s:List Int)(v w:Value)(M:Mem):Prop:=∃a c a2 c2,v=.slice a l.length c/\w=.slice a2 s.length c2/\l.length<=c/\s.length<=c2/\SM M a (l.flatMap HJ)/\SM M a2 (Al s)/\l.length<=15625/\s.length=l.length/\∀j∈s,u32 j
theorem NsV.nil:NsV [] [] (sN) (sN) M:=⟨none,0,none,0,rfl,rfl,lR,lR,SM.nil,SM.nil,zL,rfl,by simp⟩
def NsR(r:Option (List LZ×List Int))(u:Value)(M':Mem):Prop:=∃l s v w e,u=.tuple #[v,w,iL e]/\NsV l s v w M'/\Rs r e ((l,s)=·)
theorem NsR.no{r:Option (List LZ×List Int)}{e:Int}(h:e≠0)(a:r=none):NsR r (.tuple #[sN,sN,iL e]) M:=⟨[],[],_,_,e,rfl,NsV.nil,.no h a⟩
structure NmI where
 k:Nat
 l:List LZ
 s:List Int
 v:Value
 R:Lc
 w:Value
 S:Lc
 M:Mem
variable{A:Lc}{E:Ent}{w:World}
theorem St.sel{B C:Lc}(h:St E M A w)(a:A.Perm (B++C)):St E M B w:=(h.perm a).fewer (List.sublist_append_left _ _)
variable{its:List It}
theorem wUo{a:Option (List LZ×List Int)}(hk:k<its.length):(its.take (k+1)).foldl WJ a=WJ ((its.take k).foldl WJ a) its[k]:=by
 rw[List.take_succ_eq_append_getElem hk,List.foldl_append];rfl
theorem V4{a:Option (List LZ×List Int)}(hk:k<its.length)(h:WJ ((its.take k).foldl WJ a) its[k]=none):its.foldl WJ a=none:=by
 conv=>lhs;rw[<-List.take_append_drop (k+1) its]
 rw[List.foldl_append,wUo hk,h];exact E6 (λ_=>rfl) _
theorem NL(p:Po)(x:V5)(M:Mem)(h:PW M x p)(v i:Int)(hi:u32 i):Sg 143 #[DM p x,iU v,iU i] M [] λu M' L'=>NsR (DG p v i) u M'/\L'=[]:=by
 refine sB func143 ntmps143 ?_;intro W;refine ga λb3=>?_;refine gc (Es p x M h v i) ?_;rintro _ M1 a0 ⟨z,e,rfl,hz⟩;refine gA λb9=>?_;refine gj (λO=>?_) λO=>?_
 ·refine gr ?_;exact⟨.no O (by unfold DG;rw[hz.err O];rfl),rfl⟩
 obtain⟨rfl,_,hz,rfl⟩:=hz.val O;obtain⟨z1,zd,z3,z4⟩:=z;cases zd with
 |false=>
  refine gr ?_
  exact⟨.no (by decide) (by unfold DG;rw[hz];rfl),rfl⟩
 |true=>
 have F:DG p v i=(S7 p v (Ro i 0) (Ro i 31)).bind λl=>l.foldl WJ (some ([],[])):=by unfold DG;rw[hz];rfl
 refine gg ?_;refine lq (Aw rfl rfl rfl rfl (CJ.loc rfl)) ?_;refine gg ?_;refine DW [0,1,2,3,4,5,106,7,8,9,10,11] [GJ b3 x p.gen p.root p.next] ?_;refine gg ?_;refine dq rfl (qC (Pk i 0 Hz _)) ?_;refine gg ?_;refine dq rfl (qC (Pk i 31 (by unfold u32;decide) _)) ?_;refine gg ?_;refine dh rfl (hC (F2 p x M1 (h.mono a0) v (Ro i 0) (Ro i 31))) ?_;rintro _ M2 _ ⟨az,R,rfl,⟨s,rfl,ha⟩,rfl⟩;refine⟨az,by simp,?_⟩;generalize s.v=sv at ha⊢;obtain⟨a,c,ps,rfl,hc,aj,ae,am⟩:=ha;refine gg ?_;refine gj (λN=>?_) λN=>?_
 ·refine gr ?_;exact⟨.no N (by rw[F,NY N];rfl),rfl⟩
 rw[Hx N,bS]at F;have ap:=(vrn_fine (p:=p) (q:=v) (a:=Ro i 0) (b:=Ro i 31)).2;generalize Mo p v (Ro i 0) (Ro i 31)=its at *;refine gh ?_;refine Cy (α:=NmI) (λz=>[(6,sN),(7,sN),(8,iL 0),(12,z.v),(13,z.w),(46,.slice a its.length c),(47,iL its.length),(48,iL z.k)]) (λz=>z.M) (λz=>z.R++z.S) (λz=>z.k<=its.length/\(its.take z.k).foldl WJ (some ([],[]))=some (z.l,z.s)/\Own z.v z.R 143 2 z.l.length (z.l.flatMap HJ)/\Own z.w z.S 3 1 z.s.length (Al z.s)/\z.l.length<=z.k/\z.s.length=z.l.length/\(∀j∈z.s,u32 j)/\MLe M2 z.M) (λz=>its.length-z.k) ⟨0,[],[],sN,[],sN,[],M2⟩ ⟨zL,rfl,Own.nil _ _,Own.nil _ _,lR,rfl,by simp,mR⟩ ?_;rintro⟨k,l,s,v1,R,w1,S,Mk⟩ ⟨hk,Y,U,D,ao,ad,T,L⟩;try dsimp only at hk Y U D ao ad T L⊢
 have ac:=aj.mono L;have af:=λp hp=>(am p hp).mono L;obtain⟨oa,oc,rfl⟩:=U.form;obtain⟨wa,wc,rfl⟩:=D.form;refine gj (λa1=>?_) λa1=>?_
 ·have G:k<its.length:=by omega
  obtain⟨sb,so,e0,hx⟩:=ac.open (by intro e;have:=cA length e;rw[Af Ad 5 Ae,length_nil]at this;have h2:=cA length ae;rw[List.length_map]at h2;omega);cases e0;obtain⟨K,J,aq,ai,ah⟩:=Av hx ae af G;have aw:BS Mk (.slice K its[k].val.length J) its[k].val:=⟨K,J,rfl,ai,ah⟩;have V:=ap.2 its[k] (getElem_mem G);refine gg ?_;refine lq (A0 (cs:=EL its[k] K J) rfl rfl rfl rfl rfl (λi v hv=>(aq i v hv).cj _)) ?_;refine ga λB=>?_;refine gc (Wl its[k] _ Mk aw (by have:=V.1;grind[Bv])) ?_;rintro _ Z ay ⟨d,n,ok,rfl,H⟩;refine gA λo=>?_;rcases H with⟨rfl,H⟩|⟨rfl,H⟩
  ·refine gg ?_;refine lq (wVy rfl rfl rfl rfl rfl (by kernel_rfl) (R:=R) (by simp;grind) (TP l oa oc d (Ef Z R) (wWc U).2 (by omega))) ?_;have ab:WJ (some (l,s)) its[k]=if l.any (λy=>decide (y.1=d))then none else some (l++[(d,n)],s++[its[k].key.off]):=by
    unfold WJ;rw[bS,H,bS]
   refine gj (λX=>?_) λX=>?_
   ·refine gr ?_;exact⟨.no (by decide) (by rw[F];exact V4 G (by rw[Y,ab,<-Pg,iP (dT X)])),rfl⟩
   have aa:WJ (some (l,s)) its[k]=some (l++[(d,n)],s++[its[k].key.off]):=by
    rw[ab,<-Pg,iN (by simpa using X)]
   refine gg ?_;refine AX [(B,cE (EL its[k] K J) 162),(o,cE (HJ (d,n)) 143)] (by kernel_rfl) (by simp) ?_;refine gk [0,1,4,5,6,7] ?_;refine Er (i:=8) rfl (by kernel_rfl) (by kernel_rfl) rfl rfl (Eo rfl rfl rfl (by rw[IntKind.wrap_i64];have:=V.2.1.2.2;omega)) ?_;refine D1 (α:=Value×Lc×Nat) (λx=>Own x.1 x.2.1 143 2 (l.length+1) (l.flatMap HJ++HJ (d,n))) (λx=>[(69,x.1),(70,.slice wa s.length wc),(75,.slice (some ⟨x.2.2,0,none⟩) 1 1),(6,sN),(7,sN),(8,iL 0),(46,.slice (sA sb so) its.length c),(47,iL its.length),(48,iL k)]) (λ_=>Z) (λx=>x.2.1++(S++[(x.2.2,cE [iL its[k].key.off] 3),(B,cE (EL its[k] K J) 162),(o,cE (HJ (d,n)) 143)])) 3 #[true,true,true,true,true,true,true,true,true,true,false,false,false] ?_ ?_
   ·rintro ⟨Q,I,bs⟩ f;dsimp only at f⊢;refine aO 10 ?_;refine sh rfl (AY (R:=S) (m:=1) (news:=[iL its[k].key.off]) rfl rfl rfl rfl D rfl (λi v h=>CJ.loc (by simpa using h)) rfl rfl (by simp[Value.oneCell']) (by omega) (by decide)) ?_;rintro v3 _ _ ⟨rfl,S2,rfl,ag,_⟩;refine aG (mR) ?_;refine gk [11,12] ?_;refine Fx (by kernel_rfl) ?_;refine gh ?_;refine BB ⟨k+1,l++[(d,n)],s++[its[k].key.off],Q,I,v3,S2,Z⟩ ⟨by show k+1<=_;omega,by rw[wUo G,Y];exact aa,by dsimp only;rw[length_append,List.flatMap_append];simpa using f,by dsimp only;rw[length_append];unfold Al at ag ⊢;rw[List.map_append];exact ag,by simp;omega,by simp;omega,λj hj=>(mA hj).elim (T j) λhj=>by rw[mS hj];exact V.2.1.2.2,L.trans ay⟩ (hs:=λw D=>St.sel (C:=[(bs,cE [iL its[k].key.off] 3),(B,cE (EL its[k] K J) 162),(o,cE (HJ (d,n)) 143)]) D BA)
   intro E;refine Be [2,9] (by kernel_rfl) rfl ⟨?_,?_,trivial⟩
   ·refine sh rfl (Ab (cs:=[_,_]) rfl rfl rfl (by rfl) (by rfl) (by rfl)) ?_;rintro _ _ _ ⟨P,rfl,rfl,rfl⟩;refine aG (mR) ?_;refine Be [3,9] (by kernel_rfl) rfl ⟨?_,?_,trivial⟩
    ·refine sh rfl (AY (R:=R) (m:=1) (news:=HJ (d,n)) rfl rfl rfl rfl U rfl (λi v h=>CJ.loc (by simpa using h)) rfl rfl (by simp[Value.oneCell']) (by omega) (by decide)) ?_;rintro Q _ _ ⟨rfl,I,rfl,f,_⟩;refine aG (mR) ?_;refine aO 9 ?_;refine sh rfl (Ab (cs:=[_]) rfl rfl rfl (by rfl) (by rfl) (by rfl)) ?_;rintro _ _ _ ⟨g,rfl,rfl,rfl⟩;refine aG (mR) ?_;refine Cl (M2:=Z) (L2:=I++(S++[(g,cE [iL its[k].key.off] 3),(B,cE (EL its[k] K J) 162),(o,cE (HJ (d,n)) 143)])) (λw D=>St.sel (C:=[(P,cE [.string (AK d),iU n] 143)]) D BA) (mR) (by simp) (aR E (Q,I,g) f)
    refine sh rfl (Ab (cs:=[_]) rfl rfl rfl (by rfl) (by rfl) (by rfl)) ?_;rintro _ _ _ ⟨g,rfl,rfl,rfl⟩;refine aG (mR) ?_;refine aO 3 ?_;refine sh rfl (AY (R:=R) (m:=1) (news:=HJ (d,n)) rfl rfl rfl rfl U rfl (λi v h=>CJ.loc (by simpa using h)) rfl rfl (by simp[Value.oneCell']) (by omega) (by decide)) ?_;rintro Q _ _ ⟨rfl,I,rfl,f,_⟩;refine aG (mR) ?_;refine Cl (M2:=Z) (L2:=I++(S++[(g,cE [iL its[k].key.off] 3),(B,cE (EL its[k] K J) 162),(o,cE (HJ (d,n)) 143)])) (λw D=>St.sel (C:=[(P,cE [.string (AK d),iU n] 143)]) D BA) (mR) (by simp) (aR E (Q,I,g) f)
   refine sh rfl (Ab (cs:=[_]) rfl rfl rfl (by rfl) (by rfl) (by rfl)) ?_;rintro _ _ _ ⟨g,rfl,rfl,rfl⟩;refine aG (mR) ?_;refine aO 2 ?_;refine sh rfl (Ab (cs:=[_,_]) rfl rfl rfl (by rfl) (by rfl) (by rfl)) ?_;rintro _ _ _ ⟨P,rfl,rfl,rfl⟩;refine aG (mR) ?_;refine aO 3 ?_;refine sh rfl (AY (R:=R) (m:=1) (news:=HJ (d,n)) rfl rfl rfl rfl U rfl (λi v h=>CJ.loc (by simpa using h)) rfl rfl (by simp[Value.oneCell']) (by omega) (by decide)) ?_;rintro Q _ _ ⟨rfl,I,rfl,f,_⟩;refine aG (mR) ?_;refine Cl (M2:=Z) (L2:=I++(S++[(g,cE [iL its[k].key.off] 3),(B,cE (EL its[k] K J) 162),(o,cE (HJ (d,n)) 143)])) (λw D=>St.sel (C:=[(P,cE [.string (AK d),iU n] 143)]) D BA) (mR) (by simp) (aR E (Q,I,g) f)
  refine gr ?_;exact⟨.no (by decide) (by rw[F];exact V4 G (by rw[Y];unfold WJ;rw[bS,H];rfl)),rfl⟩
 obtain rfl:k=its.length:=by omega
 rw[take_length]at Y;refine gg ?_;refine BF U (by simp) ?_;intro M4 a4 c4 a2 e4 av al;cases e4;refine BF D (by simp) ?_;intro M5 a5 c5 ax e5 au ak;cases e5;refine gr ?_;exact⟨⟨l,s,_,_,0,rfl,⟨oa,oc,wa,wc,rfl,rfl,av,au,al.mono ax,ak,by omega,ad,T⟩,.yes _ (by rw[F];exact Y) rfl⟩,rfl⟩
theorem Hd(p:Po)(x:V5)(M:Mem)(h:PW M x p)(v i:Int)(f:u32 i):Sg 75 #[DM p x,iU v,iU i] M [] λu j k=>(∃l s w e,u=.tuple #[w,iL e]/\(∃a,NsV l s w a j)/\Rs (DG p v i) e ((l,s)=·))/\k=[]:=by
 refine sB func75 ntmps75 ?_;intro W;refine ga λm=>?_;refine gc (NL p x M h v i f) ?_;rintro _ n g ⟨l,sl,b,a,e,rfl,c,d⟩;refine gr ?_;exact⟨⟨l,sl,b,e,rfl,⟨a,c⟩,d⟩,rfl⟩
def AsR(r:Option (List LZ×List Int))(s:List By)(u:Value)(M':Mem):Prop:=∃l sl v w e,u=.tuple #[v,w,iL (XV l λy=>decide (y.1=s)),iL e]/\NsV l sl v w M'/\Rs r e ((l,sl)=·)
theorem ML(p:Po)(x:V5)(M:Mem)(h:PW M x p)(v i:Int)(y:u32 i)(s:List By):Sg 278 #[DM p x,iU v,iU i,.string (AK s)] M [] λu C D=>AsR (LW p v i s) s u C/\D=[]:=by
 refine sB func278 ntmps278 ?_;intro W;refine ga λJ=>?_;refine gc (NL p x M h v i y) ?_;rintro _ j B ⟨l,sl,F,E,e,rfl,g,k⟩;obtain⟨a,c,K,I,rfl,rfl,H,z,d,w,G,o,n⟩:=id g;refine gj (λb=>?_) λb=>?_
 ·subst b;obtain⟨_,_,m,rfl⟩:=k.val (by simp);refine gQ (LT s j) ?_;refine gQ (TP l a c s j d (by omega)) ?_;refine gr ?_;refine⟨⟨l,sl,_,_,wPi s,rfl,g,?_⟩,rfl⟩;by_cases f:wPi s=0
  ·rw [f];exact .yes _ (by unfold LW;rw[m,bS,iP f]) rfl
  exact .no f (by unfold LW;rw[m,bS,iN f])
 refine gQ (TP l a c s j d (by omega)) ?_;refine gr ?_;exact⟨⟨l,sl,_,_,e,rfl,g,.no b (by unfold LW;rw[k.err b];rfl)⟩,rfl⟩
def NuR(r:Option Int)(u:Value):Prop:=∃n e,u=.tuple #[iU n,iL e]/\Rs r e (n=·)
theorem QU(p:Po)(x:V5)(M:Mem)(h:PW M x p)(v i:Int)(E:u32 i)(s:List By):Sg 185 #[DM p x,iU v,iU i,.string (AK s)] M [] λu V J=>NuR (Lo p v i s) u/\J=[]:=by
 refine sB func185 ntmps185 ?_;intro W;refine ga λS=>?_;refine gc (ML p x M h v i E s) ?_;rintro _ U G ⟨l,sl,L,K,e,rfl,w,m⟩;obtain⟨a,c,T,R,rfl,rfl,Q,F,g,C,P,B,z⟩:=id w;refine gj (λb=>?_) λb=>?_
 ·refine gr ?_;exact⟨⟨0,e,rfl,.no b (by unfold Lo;rw[m.err b];rfl)⟩,rfl⟩
 obtain⟨rfl,_,D,rfl⟩:=m.val b;have d:Lo p v i s=(EP l s).map λk=>(l.getD k ([],0)).2:=by unfold Lo;rw[D];rfl
 cases f:l.findIdx? (λy=>decide (y.1=s))with
 |none=>
  rw[Qq f]
  refine gu ?_
  exact⟨⟨0,6,rfl,.no (by decide) (by rw[d];unfold EP;rw[f];rfl)⟩,rfl⟩
 |some k=>
  obtain⟨H,n⟩:=ixI_neg.2 k f
  rw[H]
  obtain⟨O,N,I,o⟩:=g.open (by intro e;have:=cA length e;rw[Af HJ 2 FQ,length_nil]at this;omega)
  cases I
  have j:=Bx HJ 2 FQ o (List.getElem?_eq_getElem n)
  refine gt ?_
  refine lq (Aw rfl rfl rfl rfl ((j 1 _ rfl).cj _)) ?_
  refine gr ?_
  exact⟨⟨l[k].2,0,rfl,.yes _ (by rw[d];unfold EP;rw[f];simp[getD,n]) rfl⟩,rfl⟩
theorem wTa(s:List Int)(a:Option Addr)(c:Nat)(M:Mem)(hs:SM M a (Al s))(z:s.length<=1000000):Sg 281 #[.slice a s.length c] M [] λu _ _=>u=iL (Hn s):=by
 refine sB func281 ntmps281 ?_;intro W;refine gh ?_;refine Cy (α:=Nat) (λk=>[(0,.slice a s.length c),(5,.slice a s.length c),(6,iL s.length),(7,iL k)]) (λ_=>M) (λ_=>[]) (λk=>k<=s.length/\∀j,j<k->s.getD j 0=(j:Int)) (λk=>s.length-k) 0 ⟨zL,λ_ h=>aD h (Nat.not_lt_zero _)⟩ ?_;rintro k ⟨l,g⟩;try dsimp only at l g⊢
 refine gj (λm=>?_) λm=>?_
 ·have d:k<s.length:=by omega
  obtain⟨y,w,o,i⟩:=hs.open (by intro e;have:=cA length e;rw[Ay,length_nil]at this;omega);cases o;refine gg ?_;refine lq (Aw rfl rfl rfl rfl ((i _ _ (by rw[mO];exact TA d)).cj _)) ?_;refine gj (λb=>?_) λb=>?_
  ·refine gr ?_;refine cA (λn:Nat=>iL n) ?_;unfold Hn;rw[List.find?_range_eq_some.2 ⟨by simpa using b,List.mem_range.2 d,λj f=>by simpa using g j f⟩];rfl
  refine gh ?_;refine BB (k+1) ⟨by show k+1<=s.length;omega,λj f=>by
   by_cases e:j=k
   ·subst e;exact nN b
   exact g j (by omega)⟩
 refine gr ?_;obtain rfl:k=s.length:=by omega
 refine cA (λn:Nat=>iL n) ?_;unfold Hn;rw[List.find?_range_eq_none.2 λj f=>by simpa using g j f];rfl
theorem wVj(n:Int)(k:Nat)(hk:k<=3):DV .u32 n (8*k)=n / 256 ^ k:=by
 have h:k=0\/k=1\/k=2\/k=3:=by omega
 unfold DV;rcases h with rfl|rfl|rfl|rfl<;>exact Int.fdiv_eq_ediv_of_nonneg _ (by decide)
theorem wFb(p:Po)(x:V5)(M:Mem)(h:PW M x p)(v i:Int)(Z:u32 v)(V:u32 i)(s:List By)(n:Int):Sg 191 #[DM p x,iU v,iU i,.string (AK s),iU n] M [] λu M' L'=>PoR (Hi p v i s n) u M'/\L'=[]:=by
 refine sB func191 ntmps191 ?_;intro W;refine JM λb5 ag=>?_;refine gc (ML p x M h v i V s) ?_;rintro _ M1 K ⟨l,sl,w1,w2,e,rfl,Y,T⟩;obtain⟨a,c,a2,c2,rfl,rfl,hc,af,ac,E,hl,ab,aa⟩:=id Y;refine gj (λd=>?_) λd=>?_
 ·refine gr ?_;exact⟨.no d (by unfold Hi;rw[T.err d];rfl),rfl⟩
 obtain⟨rfl,_,f,rfl⟩:=T.val d;have b:Hi p v i s n=if (EP l s).isSome\/32<=sl.length\/n<1\/1048576<n then none else EC p v ⟨Ro i (Hn sl),0,Pd 4 n++s⟩:=by unfold Hi;rw[f];rfl
 refine gj (λC=>?_) λC=>?_
 ·refine gr ?_;exact⟨.no (by decide) (by rw[b,iP (.inl (by unfold EP;cases G:l.findIdx? (λy=>decide (y.1=s))with|none=>rw[Qq G]at C;omega|some k=>rfl))]),rfl⟩
 have F:EP l s=none:=by unfold EP;exact ixI_neg.1.1 (by omega)
 refine gj (λN=>?_) λN=>?_
 ·refine gr ?_;exact⟨.no (by decide) (by rw[b,iP (.inr (.inl (by omega)))]),rfl⟩
 refine gj (λB=>?_) λB=>?_
 ·refine gr ?_;exact⟨.no (by decide) (by rw[b,iP (.inr (.inr (.inl B)))]),rfl⟩
 refine gj (λL=>?_) λL=>?_
 ·refine gr ?_;exact⟨.no (by decide) (by rw[b,iP (.inr (.inr (.inr (by omega))))]),rfl⟩
 have w:wPi s=0:=by
  unfold LW at f;obtain⟨_,_,f⟩:=oB f;split at f
  ·assumption
  cases f
 have o:0<s.length/\s.length<=8:=by unfold wPi at w;split at w<;>omega
 rw[iN (by rw[F];simp;omega)]at b;refine gg ?_;refine lq (Bo (Bm rfl rfl rfl) (by rw[Fc])) ?_;refine gg ?_;refine lq (DE rfl rfl rfl rfl (by omega) rfl) ?_;refine lq (Bo (Bm rfl rfl rfl) (by rw[Fc])) ?_;refine gg ?_;refine lq (DE rfl rfl rfl rfl (by omega) rfl) ?_;refine lq (Bo (Bm rfl rfl rfl) (by rw[Fc])) ?_;refine gg ?_;refine lq (DE rfl rfl rfl rfl (by omega) rfl) ?_;refine lq (Bo (Bm rfl rfl rfl) (by rw[Fc])) ?_;refine lq (Zn (cs:=[_,_,_,_]) rfl rfl rfl rfl) ?_;refine gA λO=>?_;have I:(bU n:By)::bU (DV .u32 n (Int.toNat 8))::bU (DV .u32 n (Int.toNat 16))::bU (DV .u32 n (Int.toNat 24))::[]=Pd 4 n:=by
  rw[show Int.toNat 8=8*1 from rfl,show Int.toNat 16=8*2 from rfl,show Int.toNat 24=8*3 from rfl,wVj _ _ (by decide),wVj _ _ (by decide),wVj _ _ (by decide)];unfold Pd;simp[range,List.range.loop]
 refine DW [0,1,2,3,4,5,6,7,108,9,110,11,12,113,14] [GJ b5 x p.gen p.root p.next,(O,cE [iB ((bU n).toNat:Int),iB ((bU (DV .u32 n (Int.toNat 8))).toNat:Int),iB ((bU (DV .u32 n (Int.toNat 16))).toNat:Int),iB ((bU (DV .u32 n (Int.toNat 24))).toNat:Int)] 385)] ?_;refine gg ?_;refine dq rfl (qC (wTa sl a2 c2 M1 E (by omega))) ?_;have ae:Hn sl<=sl.length:=by
  unfold Hn;cases G:(range sl.length).find? λ(n:Nat)=>decide (sl.getD n 0≠(n:Int))with
  |none=>exact lR
  |some m=>exact Nat.le_of_lt (List.mem_range.1 (List.mem_of_find?_eq_some G))
 refine gg ?_;refine dq rfl (qC (Pk i (Hn sl) (by unfold u32;omega) _)) ?_;refine gg ?_;refine dq rfl (PM rfl rfl rfl) ?_;refine gg ?_;refine dh rfl (HF.fz (wEf (l:=s) (xs:=Aa (Pd 4 n)) rfl rfl rfl rfl (by rw[Ac,GZ]) (λi u S=>by rw[<-I]at S;exact CJ.loc (by simpa [Aa]using S)) rfl o.1 (by omega) (by decide))) ?_;rintro _ X _ ⟨z,rfl,Q,P,rfl,D,j⟩;refine⟨z,by simp,?_⟩;refine gg ?_;have H:BS X (Sl.v ⟨Q,4+s.length,P⟩) (Pd 4 n++s):=⟨Q,P,by rw[length_append,GZ],by rw[length_append,GZ];exact D,by unfold Aa at j ⊢;rw[List.map_append];exact j⟩;refine dh rfl (hC (GH p x X (h.mono (K.trans z)) v Z ⟨Ro i (Hn sl),0,Pd 4 n++s⟩ _ H ⟨by unfold Ro;dsimp only;omega,V,by unfold Ro;dsimp only;omega⟩)) ?_;rintro _ M3 _ ⟨J,R,rfl,U,rfl⟩;refine⟨J,by simp,?_⟩;obtain⟨y,g,r1,n1,e,rfl,ad⟩:=id U;refine gr ?_;exact⟨by rw[b];exact U,rfl⟩
theorem YC(p:Po)(x:V5)(M:Mem)(h:PW M x p)(v i:Int)(F:u32 v)(K:u32 i)(s:List By):Sg 210 #[DM p x,iU v,iU i,.string (AK s)] M [] λu S T=>PoR (Ei p v i s) u S/\T=[]:=by
 refine sB func210 ntmps210 ?_;intro W;refine JM λP b8=>?_;refine gc (ML p x M h v i K s) ?_;rintro _ Q z ⟨l,sl,V,U,e,rfl,E,B⟩;obtain⟨a,c,a2,c2,rfl,rfl,hc,L,H,o,hl,G,n⟩:=id E;refine gj (λb=>?_) λb=>?_
 ·refine gr ?_;exact⟨.no b (by unfold Ei;rw[B.err b];rfl),rfl⟩
 obtain⟨rfl,_,J,rfl⟩:=B.val b;have f:Ei p v i s=(EP l s).bind λk=>Pu p v (Ro i (sl.getD k 0)):=by unfold Ei;rw[J];rfl
 cases m:l.findIdx? (λy=>decide (y.1=s))with
 |none=>
  rw[Qq m]
  refine gu ?_
  exact⟨.no (by decide) (by rw[f];unfold EP;rw[m];rfl),rfl⟩
 |some k=>
  obtain⟨N,hk⟩:=ixI_neg.2 k m
  rw[N]
  have d:k<sl.length:=by omega
  obtain⟨Y,X,O,D⟩:=o.open (by intro e;have:=cA length e;rw[Ay,length_nil]at this;omega)
  cases O
  have j:u32 (sl.getD k 0):=n _ (by rw[show sl.getD k 0=sl[k]by simp[getD,d]];exact getElem_mem d)
  refine gt ?_
  refine DW [0,1,2,3,4,5,6,7,108,9,10,111,12] [GJ P x p.gen p.root p.next] ?_
  refine gg ?_
  refine dq rfl (Aw rfl rfl rfl rfl ((D _ _ (by rw[mO];exact TA d)).cj _)) ?_
  refine dq rfl (qC (Pk i (sl.getD k 0) j _)) ?_
  refine gg ?_
  refine dh rfl (hC (Na p x Q (h.mono z) v F (Ro i (sl.getD k 0)))) ?_;rintro _ M2 _ ⟨w,R,rfl,C,rfl⟩
  refine⟨w,by simp,?_⟩
  obtain⟨y,g,Z,n1,e,rfl,I⟩:=id C
  refine gr ?_
  exact⟨by rw[f];unfold EP;rw[m];exact C,rfl⟩
end Go.Proofs.YtjheijhahehnmaaGreatDoor
