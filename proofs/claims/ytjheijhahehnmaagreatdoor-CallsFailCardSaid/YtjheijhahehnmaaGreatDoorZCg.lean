/- Walks: package dir. No statement of the seat is proved here. -/
import Derived.Test.YtjheijhahehnmaaGreatDoorZCe
import Derived.Lib.ConvBytes
import Derived.Lib.AppendStr
import Derived.Lib.AtoiErrMem
namespace Go.Proofs.YtjheijhahehnmaaGreatDoor
open Go.Proofs.Tryz
open List (length_drop length length_nil take_length length_append getElem_mem getD range)
set_option linter.unusedSimpArgs false
set_option linter.unusedVariables false
set_option linter.unusedSectionVars false
set_option maxHeartbeats 40000000
set_option maxRecDepth 8000
open Go.RowKit
abbrev GG(b:Nat)(x:V5)(g r1 n:Int):Nat×Obj:=(b,cE (Bo x g r1 n) 32)
abbrev DH(p:Po)(x:V5):Value:=.agg (Bo x p.gen p.root p.next).toArray
def InR(r:Option Ino)(u:Value):Prop:=∃y e,u=.tuple #[.agg (Sa y).toArray,.int .i64 e]/\Rs r e (y=·)
def PoS(r:Option Po)(M:Mem)(y:V5)(g r1 n e:Int):Prop:=Rs r e λq=>PW M y q/\g=q.gen/\r1=q.root/\n=q.next
variable{M:Mem}{e g:Int}{y:V5}
theorem PoS.mono{r:Option Po}{M':Mem}{r1 n:Int}(h:PoS r M y g r1 n e)(b:MLe M M'):PoS r M' y g r1 n e:=h.imp id λ⟨i,a,f,d,c⟩=>⟨i,a,f,d.mono b,c⟩
theorem PoS.po{r:Option Po}{r1 n:Int}(h:PoS r M y g r1 n e):PoR r (.tuple #[.agg (Bo y g r1 n).toArray,.int .i64 e]) M:=⟨y,g,r1,n,e,rfl,h⟩
theorem PoR.no{r:Option Po}(h:e≠0)(a:r=none):PoR r (.tuple #[.agg (Bo PP 0 0 0).toArray,.int .i64 e]) M:=⟨PP,0,0,0,e,rfl,.no h a⟩
theorem PW.r{x:V5}{p:Po}{r:Option Po}(h:PW M x p)(a:r=some p):PoR r (.tuple #[DH p x,.int .i64 0]) M:=⟨x,_,_,_,0,rfl,.yes p a ⟨h,rfl,rfl,rfl⟩⟩
variable{xs:List By}
theorem BS.cut{a:Option Addr}{c l r:Nat}(h:SM M a (Aa xs))(g:xs.length<=c)(f:l<=r)(e:r<=xs.length)(b:l<c):BS M (.slice (HE a l c 1) (r-l) (c-l)) ((xs.drop l).take (r-l)):=by
 have d:((xs.drop l).take (r-l)).length=r-l:=by rw[List.length_take,length_drop];omega
 refine⟨_,_,by rw[d],by omega,?_⟩;have:=h.part (s:=1) b (r-l);rw[Nat.mul_one]at this;unfold Aa at this⊢;rw[List.map_take,List.map_drop];exact this
theorem Qs{v:Value}(h:BS M v xs)(d:xs.length<=1000000):SpecL prog 189 #[v] M [] λu _ _=>u=.int .i64 (Fc xs):=by
 obtain⟨a,c,rfl,e,b⟩:=h;exact(Wg a c xs M b d).mono λ_ _ _ h=>h.1
theorem RH(p:Po)(x:V5)(M:Mem)(h:PW M x p)(q:Int)(k:Ky):SpecL prog 188 #[DH p x,.int .u32 q,.agg (AA k).toArray] M [] λu a b=>VfP p q k u a/\b=[]:=XV p x M h.pt h.dead q k
theorem one8(b:By):decide ((b.toNat:Int)=1)=decide (b=1):=by
 have:(b.toNat:Int)=1↔b=1:=by
  constructor
  ·intro h;apply UInt8.toNat_inj.1;have:b.toNat=1:=by omega
   exact this
  intro h;subst h;rfl
 simp[this]
variable{s:Sto}
theorem TH:∀{l:Nat}{xs:List It},(∀x∈xs,BB x=false/\Bj x.key)->∀y∈Ax s l xs,BB y=false/\Bj y.key
 |0,xs,h,y,a=>by
  obtain⟨x,c,a⟩:=List.mem_flatMap.1 a;rw[show Bc s 0 x=[x]from rfl,List.mem_singleton]at a;subst a;exact h y c
 |l+1,xs,h,y,a=>by
  obtain⟨x,c,a⟩:=List.mem_flatMap.1 a;refine TH (l:=l) (xs:=kid s x) (λz b=>?_) y a;unfold kid at b;split at b
  ·rename_i d;have:=FK d z b;exact⟨this.1,this.2.1⟩
  cases b
theorem NE{root:Int}{y:It}(a:y∈AT s root):BB y=false/\Bj y.key:=by
 unfold AT at a;split at a
 ·rename_i c;exact TH (λz b=>by have:=FK c z b;exact⟨this.1,this.2.1⟩) y a
 cases a
theorem Z5{p:Po}{q:Int}(h:Lq p q=0):BG p q=0/\(AQ p.st (As p q).root).2=0:=by
 unfold Lq at h;split at h
 ·rename_i a;exact⟨a,h⟩
 rename_i a;exact absurd h a
variable{a:Ky}
theorem vrn_fine{p:Po}{q:Int}{b:Ky}:Srt (MS p q a b)/\(MS p q a b).length<=15625/\∀y∈MS p q a b,BB y=false/\Bj y.key/\btw a b y=true:=by
 unfold MS;split
 ·rename_i h;have c:=(Z5 h).2;rw[wKr c];refine⟨(wCo c).filter _,by rw[<-wKr c];exact wTh c a b,λy e=>?_⟩;obtain⟨d,f⟩:=List.mem_filter.1 e;exact⟨(NE d).1,(NE d).2,f⟩
 exact⟨List.Pairwise.nil,by simp,by simp⟩
variable{k:Ky}
theorem Vl{p:Po}{q:Int}{y:It}(h:TN p q k=some y):y.val.length<=12/\y.key=k/\Bj y.key:=by
 unfold TN at h;split at h
 ·rename_i d;obtain⟨c,b⟩:=Xf (Z5 d).2 h;obtain⟨e,a⟩:=NE c;exact⟨by grind[BB],b,a⟩
 cases h
theorem wNu(y:It)(n:Value)(M:Mem)(h:BS M n y.val):SpecL prog 207 #[.agg #[.int .u8 y.key.kind,.int .u32 y.key.id,.int .u32 y.key.off,.int .i64 y.ref,n]] M [] λu H F=>InR (Ku y) u/\F=[]:=by
 obtain⟨a,c,rfl,s,f⟩:=h;by_cases B:y.val.length=7
 ·obtain ⟨b,o,rfl,j⟩:=f.open (by intro e;have:=congrArg length e;rw[Ad,length_nil]at this;omega);refine sB func207 ntmps207 ?_;intro W;refine Ke λm E=>?_;refine D7 [0,1,2,3,4,5,6,7,8,9,10,11,12,13,14,15,16,17,18,19,20,21,22,23,24] [(m,cE [.int .u8 y.key.kind,.int .u32 y.key.id,.int .u32 y.key.off,.int .i64 y.ref,.slice (some ⟨b,o,none⟩) y.val.length c] 162)] ?_;refine gt ?_;refine dq rfl (Au rfl rfl rfl rfl ((j 0 _ (Ca (by omega))).cj _)) ?_;refine gj (λC=>?_) λC=>?_
  ·refine gr ?_;exact⟨⟨⟨0,false,0,0⟩,8,rfl,.no (by decide) (by grind[Ku])⟩,rfl⟩
  refine gj (λw=>?_) λw=>?_
  ·refine gr ?_;exact⟨⟨⟨0,false,0,0⟩,8,rfl,.no (by decide) (by grind[Ku])⟩,rfl⟩
  refine gg ?_;refine dq rfl (qC (Dw _ _)) ?_;refine gg ?_;refine dq rfl (VX (ns:=[y.key.kind,y.key.id,y.key.off]) (ms:=[2,y.key.id,0]) rfl rfl rfl rfl rfl rfl ⟨rfl,rfl⟩) ?_;refine gg ?_;by_cases g:[y.key.kind,y.key.id,y.key.off]=[2,y.key.id,0]
  ·have z:y.key=FZ y.key.id:=by simp at g;unfold FZ;rw[<-g.1,<-g.2]
   rw[decide_eq_false (by simpa using g)];refine gg ?_;refine D7 [0,1,2,3,4,5,6,7,8,9,10,11,12,13,14,15,16,117,118] [(m,cE [.int .u8 y.key.kind,.int .u32 y.key.id,.int .u32 y.key.off,.int .i64 y.ref,.slice (some ⟨b,o,none⟩) y.val.length c] 162)] ?_;refine gg ?_;refine dq rfl (Au rfl rfl rfl rfl ((j 0 _ (Ca (by omega))).cj _)) ?_;refine gh ?_;refine dq rfl (CL rfl rfl rfl (.no _) (.of (v:=3) rfl (by omega) rfl) (.of (v:=1) rfl (by omega) rfl) (by omega) (by simp)) ?_;refine gg ?_;refine dq rfl (qC (Qs (BS.cut (l:=1) (r:=3) f s (by omega) (by omega) (by omega)) (by simp;omega))) ?_;refine gg ?_;refine dq rfl (CL rfl rfl rfl (.no _) (.no _) (.of (v:=3) rfl (by omega) rfl) (by omega) (by simp)) ?_;refine gg ?_;refine dq rfl (qC (Qs (BS.cut (l:=3) (r:=y.val.length) f s (by omega) (by omega) (by omega)) (by simp;omega))) ?_;refine gg ?_;refine dh rfl (AX rfl rfl) ?_;rintro _ _ _ ⟨G,rfl,rfl,rfl⟩;refine⟨MLe.refl _,by simp,?_⟩;refine gg ?_;have D:(y.val.drop 3).take (y.val.length-3)=y.val.drop 3:=by rw[<-length_drop,take_length]
   have i:Ku y=if inoE ⟨y.key.id,decide (((y.val.getD 0 0).toNat:Int)=1),Fc ((y.val.drop 1).take (3-1)),Fc ((y.val.drop 3).take (y.val.length-3))⟩=0 then some ⟨y.key.id,decide (((y.val.getD 0 0).toNat:Int)=1),Fc ((y.val.drop 1).take (3-1)),Fc ((y.val.drop 3).take (y.val.length-3))⟩else none:=by
    unfold Ku;rw[if_neg (λk=>k.elim (absurd B) λk=>k.elim (λk=>by omega) λk=>k.elim w (absurd z)),one8,D]
   refine gQ (N0 ⟨y.key.id,decide (((y.val.getD 0 0).toNat:Int)=1),Fc ((y.val.drop 1).take (3-1)),Fc ((y.val.drop 3).take (y.val.length-3))⟩ M) ?_;refine gj (λd=>?_) λd=>?_
   ·refine gr ?_;exact⟨⟨⟨0,false,0,0⟩,_,rfl,.no d (by rw[i,if_neg d])⟩,rfl⟩
   refine gr ?_;exact⟨⟨_,_,rfl,.yes _ (by rw[i,if_pos (Classical.not_not.1 d)]) rfl⟩,rfl⟩
  rw[decide_eq_true g];refine gr ?_;exact⟨⟨⟨0,false,0,0⟩,8,rfl,.no (by decide) (by unfold Ku;rw[if_pos (by right;right;right;intro e;apply g;rw[e];rfl)])⟩,rfl⟩
 refine sB func207 ntmps207 ?_;intro W;refine Ke λm E=>?_;refine D7 [0,1,2,3,4,5,6,7,8,9,10,11,12,13,14,15,16,17,18,19,20,21,22,23,24] [(m,cE [.int .u8 y.key.kind,.int .u32 y.key.id,.int .u32 y.key.off,.int .i64 y.ref,.slice a y.val.length c] 162)] ?_;refine gu ?_;exact⟨⟨⟨0,false,0,0⟩,8,rfl,.no (by decide) (by grind[Ku])⟩,rfl⟩
theorem EG(p:Po)(x:V5)(M:Mem)(h:PW M x p)(v i:Int):SpecL prog 136 #[DH p x,.int .u32 v,.int .u32 i] M [] λu d w=>InR (De p v i) u/\w=[]:=by
 refine sB func136 ntmps136 ?_;intro W;refine Mo λn E=>?_;refine AV ([GG n x p.gen p.root p.next]) (by kernel_rfl) (by simp) ?_;refine gk [0,1,2] ?_;refine Et (i:=3) rfl (by kernel_rfl) (by kernel_rfl) rfl rfl (qC (Dw i _)) ?_;refine wNk 4 8 [5,6,7] [109,10] (λd m=>RH p x d (h.mono m) v (FZ i)) ?_;rintro _ o l ⟨y,s,e,rfl,g,c⟩;refine gz λD=>?_;refine gg ?_;refine gj (λa=>?_) λa=>?_
 ·refine gr ?_;exact⟨⟨⟨0,false,0,0⟩,e,rfl,.no a (by unfold De;rw[(c.resolve_left λk=>a k.1).2];rfl)⟩,rfl⟩
 refine gc (wNu y s.v o g) ?_;rintro u F j f;have b:InR (De p v i) u:=by
  unfold De;rw[(c.resolve_right λk=>a k.1).2];exact f
 obtain⟨z,C,rfl,B⟩:=id b;refine gr ?_;exact⟨b,rfl⟩
abbrev scl(y:V5)(g r n v e:Int):List Value:=[y.b.v,y.w.v,y.n.v,y.l.v,.int .u32 g,.int .i64 r,.int .u32 n,y.d.v,.int .u32 v,.int .i64 e]
abbrev wYj(b:Nat)(y:V5)(g r n v e:Int):Nat×Obj:=(b,cE (scl y g r n v e) 182)
theorem JP(r:Option Po)(y:V5)(g r1 n e:Int)(M:Mem)(h:PoS r M y g r1 n e)(v:Int)(s:u32 v)(a:It)(j:Value)(o:BS M j a.val)(hk:Bj a.key)(b:Nat):
  SpecL prog 105 #[pB b,.agg #[.int .u8 a.key.kind,.int .u32 a.key.id,.int .u32 a.key.off,.int .i64 a.ref,j]] M [wYj b y g r1 n v e] λu D E=>∃m f c d i,E=[wYj b m f c d v i]/\PoS (r.bind λq=>EQ q v a) D m f c d i:=by
 refine sB func105 ntmps105 ?_;intro W;refine gA λC=>?_;refine gj (λk=>?_) λk=>?_
 ·subst k;obtain⟨_,p,rfl,B,rfl,rfl,rfl⟩:=h.val (by simp);refine gg ?_;refine Gt [17,20] [1,14,17,18,19,20] [0,1,2,3,4,5,6,7,8,9,10,111,12,13,14,15,16,117,18,19,120] M [(C,cE [.int .u8 a.key.kind,.int .u32 a.key.id,.int .u32 a.key.off,.int .i64 a.ref,j] 162),wYj b y p.gen p.root p.next v 0] [] ?_;refine gg ?_;refine dh rfl (hC (G2 p y M B v s a j o hk)) ?_;rintro _ F _ ⟨l,R,rfl,⟨z,f,c,d,i,rfl,w⟩,rfl⟩;refine⟨l,by simp,?_⟩;refine gg ?_;refine Kn rfl rfl rfl (BY rfl rfl rfl) ?_;refine gg ?_;refine YU ?_;refine zd [wYj b z f c d v i] rfl ?_;exact⟨z,f,c,d,i,rfl,w⟩
 refine gg ?_;refine YU ?_;refine zd [wYj b y g r1 n v e] rfl ?_;exact⟨y,g,r1,n,e,rfl,.no k (by rw[h.err k];rfl)⟩
theorem P3(r:Option Po)(y:V5)(g r1 n e:Int)(M:Mem)(h:PoS r M y g r1 n e)(v:Int)(b:Nat):
  SpecL prog 108 #[pB b] M [wYj b y g r1 n v e] λu c f=>PoR r u c:=by
 refine sB func108 ntmps108 ?_;intro W;refine gA λd=>?_;refine gj (λa=>?_) λa=>?_
 ·refine gg ?_;refine D7 [0,1,2,3,4,105,6] [wYj b y g r1 n v e] ?_;refine gr ?_;exact .no a (h.err a)
 obtain rfl:=Classical.not_not.1 a;refine gr ?_;exact h.po
theorem Gm(p:Po)(x:V5)(M:Mem)(h:PW M x p)(q:Int)(a b:Ky):SpecL prog 103 #[DH p x,.int .u32 q,.agg (AA a).toArray,.agg (AA b).toArray] M [] λu c d=>(∃s:Sl,u=.tuple #[s.v,.int .i64 (Lq p q)]/\NS c s.v (MS p q a b))/\d=[]:=Vh p x M h.pt h.dead q a b
theorem Pp{p:Po}{q:Int}{b:Ky}(h:Lq p q≠0):TL p q a b=none:=if_neg h
theorem HV{p:Po}{q:Int}{b:Ky}(h:¬Lq p q≠0):TL p q a b=some (MS p q a b):=if_pos (Classical.not_not.1 h)
theorem Y1(p:Po)(x:V5)(M:Mem)(h:PW M x p)(v:Int)(C:u32 v):SpecL prog 56 #[DH p x,.int .u32 v] M [] λu M' L'=>PoR (NU p v) u M'/\L'=[]:=by
 refine sB func56 ntmps56 ?_;intro W;refine Mo λb2 b4=>?_;refine D7 [0,1,2,3,104,5,6,7,8,9] [GG b2 x p.gen p.root p.next] ?_;refine gg ?_;refine dq rfl (qC (Dw 0 _)) ?_;refine gg ?_;refine dq rfl (qC (Dw 1 _)) ?_;refine gg ?_;refine dh rfl (hC (Gm p x M h v (FZ 0) (FZ 1))) ?_;rintro _ M1 _ ⟨g,R,rfl,⟨s,rfl,D⟩,rfl⟩;refine⟨g,by simp,?_⟩;obtain⟨sa,sn,sc⟩:=s;obtain⟨a,c,ps,e,D⟩:=D;cases e;refine gg ?_;refine gj (λd=>?_) λd=>?_
 ·refine gr ?_;exact⟨.no d (by unfold NU;rw[Pp d];rfl),rfl⟩
 refine gj (λb=>?_) λb=>?_
 ·refine gr ?_;exact⟨.no (by decide) (by unfold NU;rw[HV d,Option.bind_some,if_neg (by intro e;rw[e]at b;simp at b)]),rfl⟩
 refine gg ?_;refine lh (Bt (cs:=scl x p.gen p.root p.next v 0) rfl rfl rfl rfl) ?_;rintro _ _ _ ⟨f,rfl,rfl,rfl⟩;refine gg ?_;refine gc (K2 ⟨1,true,1,0⟩ M1) ?_;rintro _ E B ⟨J,rfl,y⟩;have o:Bj (L4 ⟨1,true,1,0⟩).key:=Fp (i:=1) (by unfold u32;omega);have n:PoS (some p) E x p.gen p.root p.next 0:=.yes p rfl ⟨h.mono (g.trans B),rfl,rfl,rfl⟩;refine gC (JP (some p) x p.gen p.root p.next 0 E n v C (L4 ⟨1,true,1,0⟩) J.v y o f) ?_;rintro _ M3 _ V ⟨H,Z,N,Q,e3,rfl,m⟩;refine gc (QW 2 M3) ?_;rintro _ M4 z ⟨I,rfl,w⟩;refine gC (JP _ H Z N Q e3 M4 (m.mono z) v C (S4 2) I.v w (Fp HX) f) ?_;rintro _ M5 _ U ⟨G,Y,L,P,e5,rfl,k⟩;refine gC (P3 _ G Y L P e5 M5 k v f) ?_;rintro _ M6 R T ⟨F,X,K,O,e6,rfl,j⟩;refine gr ?_;exact⟨by unfold NU;rw[HV d,Option.bind_some,if_pos (by cases S:MS p v (FZ 0) (FZ 1)with|nil=>rfl|cons a l=>rw[S]at b;simp at b)];exact⟨F,X,K,O,e6,rfl,j⟩,rfl⟩
def PoI(r:Option (Po×Int))(u:Value)(M':Mem):Prop:=∃(y:V5)(g r1 n i e:Int),u=.tuple #[.agg (Bo y g r1 n).toArray,.int .u32 i,.int .i64 e]/\Rs r e λq=>PW M' y q.1/\g=q.1.gen/\r1=q.1.root/\n=q.1.next/\i=q.2
theorem PoI.no{r:Option (Po×Int)}(h:e≠0)(a:r=none):PoI r (.tuple #[.agg (Bo PP 0 0 0).toArray,.int .u32 0,.int .i64 e]) M:=⟨PP,0,0,0,0,e,rfl,.no h a⟩
theorem wGn(p:Po)(x:V5)(M:Mem)(h:PW M x p)(v:Int)(L:u32 v)(d:Bool):SpecL prog 118 #[DH p x,.int .u32 v,.bool d] M [] λu K L'=>PoI (Jh p v d) u K/\L'=[]:=by
 refine sB func118 ntmps118 ?_;intro W;refine Mo λb3 b6=>?_;refine AV ([GG b3 x p.gen p.root p.next]) (by kernel_rfl) (by simp) ?_;refine gk [0,1] ?_;refine Et (i:=2) rfl (by kernel_rfl) (by kernel_rfl) rfl rfl (qC (Dw 0 _)) ?_;refine wNk 3 7 [4,5,6] [108,9] (λK hM=>RH p x K (h.mono hM) v (FZ 0)) ?_;rintro _ M1 G ⟨y,⟨sa,sn,sc⟩,e,rfl,D,N⟩;refine gz λb9=>?_;have C:=D;obtain⟨a,c,e9,D⟩:=D;cases e9;refine gg ?_;refine gj (λg=>?_) λg=>?_
 ·refine gr ?_;exact⟨.no g (by unfold Jh;rw[(N.resolve_left λk=>g k.1).2];rfl),rfl⟩
 have w:=(N.resolve_right λk=>g k.1).2;have b:(y.val.length≠4\/y.ref≠0\/Fc y.val<2\/1048576<Fc y.val)->Jh p v d=none:=λk=>by unfold Jh;rw[w,Option.bind_some,if_pos k]
 refine gQ (Qs C (by have:=(Vl w).1;omega)) ?_;refine gj (λn=>?_) λn=>?_
 ·refine gr ?_;exact⟨.no (by decide) (b (by dsimp only at n;omega)),rfl⟩
 dsimp only at n;refine gj (λJ=>?_) λJ=>?_
 ·refine gr ?_;exact⟨.no (by decide) (b (by omega)),rfl⟩
 refine gj (λI=>?_) λI=>?_
 ·refine gr ?_;exact⟨.no (by decide) (b (by omega)),rfl⟩
 refine gj (λH=>?_) λH=>?_
 ·refine gr ?_;exact⟨.no (by decide) (b (by omega)),rfl⟩
 refine gj (λh5=>?_) λh5=>?_
 ·refine gr ?_;exact⟨.no (by decide) (b (by omega)),rfl⟩
 refine gg ?_;refine lh (Bt (cs:=scl x p.gen p.root p.next v 0) rfl rfl rfl rfl) ?_;rintro _ _ _ ⟨j,rfl,rfl,rfl⟩;refine gg ?_;refine lq (ED rfl rfl rfl (by rw[IntKind.wrap_u32];omega)) ?_;refine gc (K2 ⟨Fc y.val,d,1,0⟩ M1) ?_;rintro _ M2 F ⟨T,rfl,B⟩;refine gC (JP (some p) x p.gen p.root p.next 0 M2 (.yes p rfl ⟨h.mono (G.trans F),rfl,rfl,rfl⟩) v L (L4 ⟨Fc y.val,d,1,0⟩) T.v B (Fp (by unfold u32;dsimp only;omega)) j) ?_;rintro _ M3 _ ac ⟨Q,g3,X,n3,e3,rfl,s⟩;refine gc (QW (Fc y.val+1) M3) ?_;rintro _ M4 E ⟨S,rfl,z⟩;refine gC (JP _ Q g3 X n3 e3 M4 (s.mono E) v L (S4 (Fc y.val+1)) S.v z (Fp HX) j) ?_;rintro _ M5 _ ab ⟨P,g5,V,Z,e5,rfl,o⟩;refine gC (P3 _ P g5 V Z e5 M5 o v j) ?_;rintro _ M6 R aa ⟨O,g6,U,Y,e6,rfl,l⟩;have m:Jh p v d=(((some p).bind λq=>EQ q v (L4 ⟨Fc y.val,d,1,0⟩)).bind λq=>EQ q v (S4 (Fc y.val+1))).map λr=>(r,Fc y.val):=by
  unfold Jh;rw[w,Option.bind_some,if_neg (by omega),Option.map_bind];rfl
 refine gg ?_;refine gj (λf=>?_) λf=>?_
 ·refine gr ?_;exact⟨.no f (by rw[m,l.err f];rfl),rfl⟩
 refine gh ?_;refine lq (ED rfl rfl rfl (by rw[IntKind.wrap_u32];omega)) ?_;refine gr ?_;obtain⟨rfl,q,hq,n,J,I,H⟩:=l.val f;exact⟨⟨O,g6,U,Y,_,0,rfl,.yes (q,Fc y.val) (by rw[m,hq];rfl) ⟨n,J,I,H,rfl⟩⟩,rfl⟩
section
variable{P:Program}{ops:Array Oper}{N:Fs}{F:Fr}{E:Ent}{M:Mem}{L:Lc}{o:Oper}
theorem PU(a b:ByteArray):(a.toList==b.toList)=decide (a=b):=by
 have h:∀z:ByteArray,z.toList=z.data.toList:=λz=>by
  show ByteArray.toList z=_;simp[ByteArray.toList_eq]
 rw[h,h];by_cases e:a=b
 ·subst e;simp
 rw[decide_eq_false e];simp only[beq_eq_false_iff_ne,ne_eq];intro c;exact e (by cases a;cases b;congr 1;exact Array.toList_inj.1 c)
theorem Vt{a b:List By}:AD a=AD b↔a=b:=⟨λh=>by unfold AD at h;simpa using congrArg (λz:ByteArray=>z.data.toList) h,λh=>by rw[h]⟩
theorem Pw{x y:Operand}{t d:TypeId}{a b:List By}(h:gd ops F o=some true)(g:o.op=.binOp .eql t x y d)(f:ev F x=some (.string (AD a)))(e:ev F y=some (.string (AD b)))[i:Und P t .string]:QF P ops N F M L o (.bool (decide (a=b))):=Bv h λj c w _=>by
 have:(binOp .eql t (.string (AD a)) (.string (AD b))).run P w=.ok (.bool (decide (a=b))) w:=by
  rw[show decide (a=b)=decide (AD a=AD b)by simp[Vt]];simp[binOp,Op.stringOp,<-PU]
 simp only[execOp,g,c.ev f,c.ev e]
 simp[eqGuard,this]
theorem SR{x:Operand}{t:TypeId}{l:List By}(d:gd ops F o=some true)(c:o.op=.call { callee:=.builtin .len,args:=#[x],argTypes:=#[t] })
  (a:ev F x=some (.string (AD l))) [b:Und P t .string]:QF P ops N F M L o (.int .i64 l.length):=Bv d λg f w _=>by
 have e:((AD l).size:Int)=l.length:=by unfold AD;simp[ByteArray.size]
 rw[<-e]
 simp[execOp,c,resolve,invoke,builtin,Builtin.len_,f.ev a,run_underlying b.h,goInt]
theorem wYv{x:Operand}{xs:List Operand}{T:Array TypeId}{f:FuncId}{first c vs i:List Value}{v:Value}{R:Lc}(J:gd ops F o=some true)
  (G:o.op=.call { callee:=.value x,args:=xs.toArray,argTypes:=T }) (B:ev F x=some (.func (.func f) first.toArray c.toArray)) (C:evs F xs=some vs) (g:first++vs++c=i) (hgo:Dn P f=true)
  (j:∀p∈R,p∈L) (hs:SpecL P f i.toArray (Ev M R) [] (λu _ _=>u=v)):QF P ops N F M L o v:=λa y=>
 .inl ⟨Fq y J,λw s=>by
  have n:∀(R:Lc),(∀p∈R,p∈L)->∀b o,Ev M R b=some o->w.heap[b]? =some o:=λR=>by
   induction R with
   |nil=>intro _ b o m;exact s.agree b o m
   |cons p R z=>
    intro j b o m
    have d:(if b=p.1 then some p.2 else Ev M R b)=some o:=m
    by_cases e:b=p.1
    ·rw [if_pos e]at d;cases d;rw[e];exact s.locs p (j p (List.mem_cons_self ..))
    rw[if_neg e]at d;exact z (λq D=>j q (List.mem_cons_of_mem _ D)) b o d
  have l:St ⟨w,([]:Lc).map (·.1),Ev M R⟩ (Ev M R) [] w:=
   {os:=rfl,tape:=rfl,output:=rfl,size:=Nat.le_refl _,same:=λ_ _ _=>rfl,fresh:=λ_ _=>rfl,agree:=n R j
    locs:=λp E=>by cases E
    nodup:=by simp }
  rw[KI G y B C g hgo w]
  refine⟨Below.refl _ _,(hs w l).mono λe K I=>?_⟩
  obtain⟨u,Q,O,rfl,rfl,h⟩:=I
  exact⟨rfl,⟨h.os,h.tape,h.output,h.size,λk H=>h.same k H (by simp)⟩⟩⟩
theorem wLf{x:Operand}{s d e:TypeId}{v:Value}{l:List By}(j:BS M v l)(i:gd ops F o=some true)(h:o.op=.convert s d x)(g:ev F x=some v)[hs:Und P s (.slice e)][k:Und P e (.int .u8)][m:Und P d .string]:QF P ops N F M L o (.string (AD l)):=by
 obtain⟨a,c,rfl,n,f⟩:=j;rw[<-BT];exact Qd (P:=P) (N:=N) (L:=L) (xs:=l.map λb=>(b.toNat:Int)) i h g (by simp) (by simpa [Aa,List.map_map,Function.comp_def]using f.sj L)
theorem wVe{x:Operand}{s d e:TypeId}{st:ByteArray}(D:gd ops F o=some true)(z:o.op=.convert s d x)(m:ev F x=some (.string st))[hs:Und P s .string][H:Und P d (.slice e)][G:Und P e (.int .u8)]:
  HF P ops N F E M L o (λv O Q=>M=O/\∃b c j,v=.slice (some ⟨b,0,none⟩) st.data.toList.length c/\Q=(b,j)::L/\st.data.toList.length<=c/\∃(cs:List Value)(fz:Nat×Nat),j=.cells cs.toArray e fz/\cs.take st.data.toList.length=Aa st.data.toList):=CP D λa w J f=>by
 have u:=Lib.run_convert_string_bytes (P:=P) w s d e st hs.h H.h G.h
 have I:=Lib.bytesWorld_at_new w e st
 have n:=Lib.bytesWorld_size w e st
 have i:Below w.heap.size w (Lib.bytesWorld w e st):=(Lib.bytesWorld_below w e st)
 refine⟨_,Lib.bytesWorld w e st,M,(w.heap.size,.cells (Lib.bytesCells w e st) e ((Lib.bytesCells w e st).size,(Lib.bytesCells w e st).size+1))::L,.inl ?_,?_,rfl,w.heap.size,grownCap w st.size 0 e,_,by rw[Array.length_toList],rfl,by rw[Array.length_toList];exact grownCap_ge w st.size 0 e,(Lib.bytesCells w e st).toList,_,rfl,?_⟩
 ·simp [execOp,z,J.ev m,u]
 ·have l:=St.closed _ _ _ _ _ f i
  refine { l with locs:=λp g=>?_,nodup:=?_ }
  ·rcases List.mem_cons.1 g with rfl|g
   ·refine ⟨I,.inl f.size,?_⟩
    cases B:M w.heap.size with
    |none=>rfl
    |some y=>exact absurd (Bw (f.agree _ _ B)) (by omega)
   exact l.locs p g
  rw[List.map_cons,List.nodup_cons]
  refine⟨λh=>?_,f.nodup⟩
  obtain⟨p,g,K⟩:=List.mem_map.1 h
  have k:=Bw (f.locs p g).1
  rw[K]at k
  exact absurd k (Nat.lt_irrefl _)
 unfold Lib.bytesCells
 have C:(st.data.map λb=>Value.int .u8 b.toNat).toList=Aa st.data.toList:=by unfold Aa;rw[Array.toList_map]
 rw[Array.toList_append,C]
 exact List.take_left' (by rw[Ad])
theorem wAo{t e:TypeId}{n:Nat}{ps:List (Nat×Operand)}{vs:List (Nat×Value)}{s g b j:Nat}{z z2 cs:List Value}(G:gd ops F o=some true)(C:o.op=.build t ps.toArray)(y:evp F ps=some vs)[B:Und P t (.array n e)][D:Lay P t s g z][H:Lay P e b j z2]
  (I:Gl (λi=>some (i*b,b)) z vs=some cs):QF P ops N F M L o (.agg cs.toArray):=Bv G λa J w _=>by
 obtain⟨R,Q,E,_,_,u,c⟩:=D.info
 obtain⟨m,l,f,d,_⟩:=H.info
 have k:=J.evp y
 have O:((ps.toArray).map λx=>(x.1,a.eval x.2)).toList=vs:=by rw[<-k];simp
 have K:=MB _ _ _ _ I
 simp only[execOp,C]
 simp[Instr.build,zeroValue,typeInfo,E,u,c,run_underlying B.h,sizeOf,f,d,O,k,K]
theorem HF.fz{W:World}{j:Mem}{e:TypeId}{size n:Nat}{xs:List Value}(h:HF P ops N F ⟨W,[],j⟩ M L o λv b d=>M=b/\∃R,d=R++L/\Own v R e size n xs):HF P ops N F ⟨W,[],j⟩ M L o λv b d=>MLe M b/\d=L/\∃a c,v=.slice a n c/\n<=c/\SM b a xs:=λa w i g=>
 ⟨(h a w i g).1,λQ=>Oper.wpIn_mono (λG E ⟨v,b,d,e,y,B⟩=>by
  obtain⟨rfl,R,rfl,z⟩:=B
  obtain⟨D,C,f,u,s,m,l,k⟩:=z.freeze (by simp) y
  exact⟨v,D,L,e,k,u,rfl,C,f,s,m,l⟩) ((h a w i g).2 Q)⟩
theorem wGt{x y:Operand}{t u e:TypeId}{m:Addr}{c n:Nat}{z xs:List Value}{l:List By}(hg:gd ops F o=some true)
  (ho:o.op=.call { callee:=.builtin .append,args:=#[x,y],argTypes:=#[t,u] }) (hx:ev F x=some (.slice (some m) n n)) (hy:ev F y=some (.string (AD l))) [ht:Und P t (.slice e)] [K:Und P u .string] [Z:Lay P e 1 c z]
  (k:xs.length=n) (D:∀i v,xs[i]? =some v->CJ M L m.block (m.off+i) v) (W:m.spot=none) (hm:0<l.length) (H:n+l.length<=1000000000) (V:c<=100000):
  HF P ops N F E M L o (λv' M' L'=>M=M'/\∃R',L'=R'++L/\Own v' R' e 1 (n+l.length) (xs++Aa l)):=CP hg λa w ha X=>by
 obtain⟨ti,B,hi,S,R,hz,J⟩:=Z.info
 have I:B.cells.size=1:=by rw[J];simpa using Z.len
 have f:(AD l).size=l.length:=by simp[AD,ByteArray.size]
 have O:Lib.strCells (AD l)=Aa l:=by simp[Lib.strCells,AD,Aa]
 have add:∀(s:Addr),s.spot=none->∀j,s.add j=⟨s.block,s.off+j,none⟩:=λs Y j=>by
  obtain⟨b,of,sp⟩:=s;simp only at Y;subst Y;unfold Addr.add;split<;>simp_all
 have hb:(n+l.length)*c<=1000000000*100000:=Nat.mul_le_mul H V
 have Q:=Lib.run_append_grow_string (P:=P) w t u o.type e ti B ht.h K.h hi hz m n n xs (by rw[S,k];omega) (λj u K=>by rw[add m W];exact(D j u K).cell X.js) (AD l) (by rw[f];omega) (by rw[f];omega) (by rw[f];exact growslice_fits (by omega) (by rw[R];omega))
 rw[f,O]at Q
 have T:=grownCap_ge w (n+l.length) n e
 have U:grownCap w (n+l.length) n e<=maxLen:=grownCap_le_maxLen w (n+l.length) n e (by unfold maxLen;omega)
 have g:(xs++Aa l).length=(n+l.length)*1:=by rw[length_append,k,Ad];omega
 have G:(xs.toArray++(Aa l).toArray++Builtin.zeroCells B.cells (grownCap w (n+l.length) n e-(n+l.length))).size=grownCap w (n+l.length) n e*1:=by
  simp only[Array.size_append,List.size_toArray,size_zeroCells,I,k,Ad];omega
 have C:(xs.toArray++(Aa l).toArray++Builtin.zeroCells B.cells (grownCap w (n+l.length) n e-(n+l.length))).toList.take ((n+l.length)*1)=xs++Aa l:=by
  simp only[Array.toList_append,List.append_assoc];rw[<-List.append_assoc,<-g];exact List.take_left
 generalize xs.toArray++(Aa l).toArray++Builtin.zeroCells B.cells (grownCap w (n+l.length) n e-(n+l.length))=d at Q G C
 have hd:St E M L w.drew:={ X with }
 refine⟨_,w.drew.alloc (.cells d e),M,[(w.drew.heap.size,.cells d e (0,0))]++L,.inl ?_,hd.alloc (.cells d e),rfl,[(w.heap.size,.cells d e (0,0))],rfl,⟨g,.inr ⟨w.heap.size,_,d,rfl,rfl,T,U,G,C⟩⟩⟩
 simp[execOp,ho,resolve,invoke,builtin,ha.ev hx,ha.ev hy,Q]
end
variable{M:Mem}{a:Option Addr}{cs:List Value}
theorem SM.take(h:SM M a cs)(k:Nat):SM M a (cs.take k):=by
 rcases h with h|⟨b,d,e,f⟩
 ·exact .inl (by rw[h,List.take_nil])
 exact .inr ⟨b,d,e,λi u c=>f i u (by rw[List.getElem?_take]at c;split at c;exact c;cases c)⟩
variable{R:Lc}{e:TypeId}
theorem wYy{n c size:Nat}{xs:List Value}(b:Own (.slice a n c) R e size n xs):n<=c/\SM (Ev M R) a xs:=by
 have f:(R.map (·.1)).Nodup:=by
  rcases b.2 with⟨_,_,rfl⟩|⟨g,l,k,_,rfl,_⟩<;>simp
 obtain⟨o,m,j,i,h⟩:=b.lent (M:=Ev M R) λp d=>Gp f d;cases j;exact⟨i,h⟩
def YY{α:Type}(xs:List α)(p:α->Bool):Int:=match xs.findIdx? p with|some k=>(k:Int)|none=> -1
variable{α:Type}{xs:List α}
theorem wNr{p:α->Bool}(h:∀j (a:j<xs.length),p xs[j]=false):YY xs p= -1:=by
 unfold YY;rw[List.findIdx?_eq_none_iff.2 λx b=>by obtain⟨j,a,rfl⟩:=List.getElem_of_mem b;exact h j a]
variable{k:Nat}
theorem wNs{p:α->Bool}(hk:k<xs.length)(h:p xs[k]=true)(b:∀j (a:j<xs.length),j<k->p xs[j]=false):YY xs p=k:=by
 unfold YY;rw[List.findIdx?_eq_some_iff_getElem.2 ⟨hk,h,λj a=>by rw[b j (by omega) a];simp⟩]
theorem ixI_neg{p:α->Bool}:(YY xs p<0↔xs.findIdx? p=none)/\∀k,xs.findIdx? p=some k->YY xs p=k/\k<xs.length:=by
 unfold YY;cases h:xs.findIdx? p with
 |none=>simp
 |some k=>
  obtain⟨a,_⟩:=List.findIdx?_eq_some_iff_getElem.1 h
  exact⟨by simp,λj b=>by cases b;exact⟨rfl,a⟩⟩
theorem QR{p:α->Bool}(h:xs.findIdx? p=none):YY xs p= -1:=by unfold YY;rw[h]
theorem PC{p:α->Bool}:decide (0<=YY xs p)=xs.any p:=by
 unfold YY;cases h:xs.findIdx? p with
 |none=>
  have:=List.findIdx?_eq_none_iff.1 h
  rw[List.any_eq_false.2 λx a=>by rw[this x a];decide];rfl
 |some k=>
  obtain⟨b,c,_⟩:=List.findIdx?_eq_some_iff_getElem.1 h
  rw[List.any_eq_true.2 ⟨xs[k],getElem_mem b,c⟩]
  exact decide_eq_true (by dsimp only;omega)
theorem wRr(xs:List By)(a:Option Addr)(c:Nat)(f:FuncId)(p:By->Bool)(M:Mem)(hs:SM M a (Aa xs))(hgo:Dn prog f=true)(w:∀b:By,SpecL prog f #[.int .u8 b.toNat] M [] λu _ _=>u=.bool (p b))(D:xs.length<=1000000):
  SpecL prog 169 #[.slice a xs.length c,.func (.func f) #[] #[]] M [] λv _ _=>v=.int .i64 (YY xs p):=by
 refine sB func169 ntmps169 ?_;intro W;refine gh ?_;refine CC (α:=Nat) (λk=>[(0,.slice a xs.length c),(1,.func (.func f) #[] #[]),(7,.int .i64 xs.length),(8,.int .i64 k)]) (λ_=>M) (λ_=>[]) (λk=>k<=xs.length/\∀j (i:j<xs.length),j<k->p xs[j]=false) (λk=>xs.length-k) 0 ⟨Nat.zero_le _,λ_ _ h=>absurd h (Nat.not_lt_zero _)⟩ ?_;rintro k ⟨o,l⟩;try dsimp only at o l⊢
 refine gj (λy=>?_) λy=>?_
 ·refine gh ?_;have d:k<xs.length:=by omega
  obtain⟨C,B,z,n⟩:=hs.open (by intro e;have:=congrArg length e;simp[Aa]at this;subst this;simp at d);cases z;refine gg ?_;refine lq (Au rfl rfl rfl rfl ((n _ (.int .u8 (xs[k].toNat:Int)) (by rw[Nat.mul_one,show xs[k]=xs.getD k 0 by simp[getD,d]];exact Ca d)).cj _)) ?_;refine BP rfl rfl (CZ rfl rfl rfl rfl rfl hgo (w xs[k])) (λg=>?_) (λg=>?_)
  ·refine gr ?_;rw[wNs d g l]
  refine gh ?_;refine BD (k+1) ⟨by show k+1<=xs.length;omega,λj i s=>by
   by_cases e:j=k
   ·subst e;exact g
   exact l j i (by omega)⟩
 refine gr ?_;have m:k=xs.length:=by omega
 subst m;rw[wNr λj i=>l j i i]
theorem TG(xs:List By)(a:Option Addr)(c:Nat)(d:FuncId)(p:By->Bool)(M:Mem)(hs:SM M a (Aa xs))(hgo:Dn prog d=true)(f:∀b:By,SpecL prog d #[.int .u8 b.toNat] M [] λu _ _=>u=.bool (p b))(e:xs.length<=1000000):
  SpecL prog 98 #[.slice a xs.length c,.func (.func d) #[] #[]] M [] λv _ _=>v=.bool (xs.any p):=by
 refine sB func98 ntmps98 ?_;intro W;refine gq (wRr xs a c d p M hs hgo f e) ?_;refine gr ?_;rw[<-PC]
abbrev H6(x:MN):List Value:=[.string (AD x.1),.int .u32 x.2]
theorem Gb(x:MN):(H6 x).length=2:=rfl
theorem Wj(xs:List MN)(a:Option Addr)(c:Nat)(d:FuncId)(g:Value)(p:MN->Bool)(M:Mem)(hs:SM M a (xs.flatMap H6))(hgo:Dn prog d=true)(C:∀b:MN,SpecL prog d #[.agg (H6 b).toArray,g] M [] λu _ _=>u=.bool (p b))(H:xs.length<=1000000):
  SpecL prog 279 #[.slice a xs.length c,.func (.func d) #[] #[g]] M [] λv _ _=>v=.int .i64 (YY xs p):=by
 refine sB func279 ntmps279 ?_;intro W;refine gh ?_;refine CC (α:=Nat) (λk=>[(0,.slice a xs.length c),(1,.func (.func d) #[] #[g]),(7,.int .i64 xs.length),(8,.int .i64 k)]) (λ_=>M) (λ_=>[]) (λk=>k<=xs.length/\∀j (m:j<xs.length),j<k->p xs[j]=false) (λk=>xs.length-k) 0 ⟨Nat.zero_le _,λ_ _ h=>absurd h (Nat.not_lt_zero _)⟩ ?_;rintro k ⟨z,n⟩;try dsimp only at z n⊢
 refine gj (λD=>?_) λD=>?_
 ·refine gh ?_;have l:k<xs.length:=by omega
  obtain⟨G,F,E,w⟩:=hs.open (by intro e;have:=congrArg length e;rw[Aj H6 2 Gb,length_nil]at this;omega);cases E;have s:=Bs H6 2 Gb w (List.getElem?_eq_getElem l);refine gh ?_;refine lq (A1 (cs:=H6 xs[k]) rfl rfl rfl rfl rfl (λi v y=>(s i v y).cj _)) ?_;refine BP rfl rfl (CZ rfl rfl rfl rfl rfl hgo (C xs[k])) (λf=>?_) (λf=>?_)
  ·refine gr ?_;rw[wNs l f n]
  refine gh ?_;refine BD (k+1) ⟨by show k+1<=xs.length;omega,λj m B=>by
   by_cases e:j=k
   ·subst e;exact f
   exact n j m (by omega)⟩
 refine gr ?_;have o:k=xs.length:=by omega
 subst o;rw[wNr λj m=>n j m m]
theorem wFh(xs:List MN)(a:Option Addr)(c:Nat)(d:FuncId)(e:Value)(p:MN->Bool)(M:Mem)(hs:SM M a (xs.flatMap H6))(hgo:Dn prog d=true)(g:∀b:MN,SpecL prog d #[.agg (H6 b).toArray,e] M [] λu _ _=>u=.bool (p b))(f:xs.length<=1000000):
  SpecL prog 186 #[.slice a xs.length c,.func (.func d) #[] #[e]] M [] λv _ _=>v=.bool (xs.any p):=by
 refine sB func186 ntmps186 ?_;intro W;refine gq (Wj xs a c d e p M hs hgo g f) ?_;refine gr ?_;rw[<-PC]
theorem wMk(s:List By)(v:MN)(b:Nat)(M:Mem)(a:M b=some (cE [.string (AD s)] 9)):
  SpecL prog 288 #[.agg (H6 v).toArray,pB b] M [] λu _ _=>u=.bool (decide (v.1=s)):=by
 refine sB func288 ntmps288 ?_;intro W;refine gA λc=>?_;refine lq (Au rfl rfl rfl rfl (CM.cj ⟨_,_,_,a,rfl⟩ _)) ?_;refine gg ?_;refine lq (Pw rfl rfl rfl rfl) ?_;refine gr ?_;rfl
theorem Ux(l:List MN)(a:Option Addr)(c:Nat)(s:List By)(M:Mem)(hs:SM M a (l.flatMap H6))(f:l.length<=1000000):SpecL prog 215 #[.slice a l.length c,.string (AD s)] M [] λu _ _=>u=.int .i64 (YY l λy=>decide (y.1=s)):=by
 refine sB func215 ntmps215 ?_;intro W;refine gA λd=>?_;refine Az d (by simp) ?_;intro e b g;refine gq (Wj l a c _ _ _ e (hs.mono b) (by kernel_rfl) (λv=>wMk s v d e g) f) ?_;refine gr ?_;rfl
theorem wQm(b:By)(M:Mem):SpecL prog 97 #[.int .u8 b.toNat] M [] λu _ _=>u=.bool (wBa b):=by
 refine sB func97 ntmps97 ?_;intro W;refine gj (λd=>?_) λd=>?_
 ·refine gr ?_;exact congrArg _ (decide_eq_true (by omega)).symm
 refine gj (λc=>?_) λc=>?_
 ·refine gr ?_;exact congrArg _ (decide_eq_true (by omega)).symm
 refine gj (λa=>?_) λa=>?_
 ·refine gr ?_;exact congrArg _ (decide_eq_true (by omega)).symm
 refine gr ?_;exact congrArg _ (decide_eq_false (by omega)).symm
theorem MI(s:List By)(M:Mem):SpecL prog 54 #[.string (AD s)] M [] λu _ _=>u=.int .i64 (wSf s):=by
 refine sB func54 ntmps54 ?_;intro W;refine gg ?_;refine lq (SR rfl rfl rfl) ?_;refine gj (λl=>?_) λl=>?_
 ·refine gr ?_;exact congrArg _ (if_pos (.inl (by omega))).symm
 refine gg ?_;refine lq (SR rfl rfl rfl) ?_;refine gj (λj=>?_) λj=>?_
 ·refine gr ?_;exact congrArg _ (if_pos (.inr (.inl (by omega)))).symm
 refine gg ?_;refine lh (wVe rfl rfl rfl) ?_;rintro _ _ _ ⟨rfl,b,c,n,rfl,rfl,h,cs,fz,rfl,a⟩;have f:(AD s).data.toList=s:=by simp[AD]
 rw[f]at h a;simp only[f];refine Az b (by simp) ?_;intro e i m;have d:SM e (some ⟨b,0,none⟩) (Aa s):=by
  have:=(SM.of_block m).take s.length;rw[a]at this;exact this
 refine gQ (TG s _ c _ wBa e d (by kernel_rfl) (λb=>wQm b e) (by omega)) ?_;cases g:s.any wBa with
 |true=>
  refine gr ?_
  exact congrArg _ (if_pos (.inr (.inr g))).symm
 |false=>
  refine gr ?_
  exact congrArg _ (if_neg (λk=>k.elim (λk=>by omega) λk=>k.elim (λk=>by omega) λk=>by rw[g]at k;cases k)).symm
theorem PF(i n:Int)(a:u32 n)(M:Mem):SpecL prog 213 #[.int .u32 i,.int .i64 n] M [] λu _ _=>u=.agg (AA (RZ i n)).toArray:=by
 refine sB func213 ntmps213 ?_;intro W;refine ga λb=>?_;refine lq (ED rfl rfl rfl (by rw[IntKind.wrap_u32];unfold u32 at a;omega)) ?_;refine gr ?_;rfl
theorem WJ(c:By):∀(xs:List By)(j:Nat)(a:Int),wJj j (xs++[c]) a=ND .u32 (wJj j xs a) (MK .u32 (c.toNat:Int) (8*(j+xs.length)))
 |[],j,a=>rfl
 |x::xs,j,a=>by
  rw[List.cons_append,wJj,WJ c xs,wJj,List.length_cons,show j+1+xs.length=j+(xs.length+1)by omega]
def EnP(r:Option MN)(u:Value):Prop:=∃nm i b,u=.tuple #[.agg (H6 (nm,i)).toArray,.bool b]/\((b=true/\r=some (nm,i))\/(b=false/\r=none))
theorem Xr(y:It)(D:Value)(M:Mem)(h:BS M D y.val)(N:y.val.length<=1000000):SpecL prog 214 #[.agg #[.int .u8 y.key.kind,.int .u32 y.key.id,.int .u32 y.key.off,.int .i64 y.ref,D]] M [] λu P L=>EnP (ZA y) u/\L=[]:=by
 obtain⟨a,c,rfl,I,s⟩:=h;refine sB func214 ntmps214 ?_;intro W;refine Mo λO F=>?_;refine gj (λJ=>?_) λJ=>?_
 ·refine gr ?_;exact⟨⟨[],0,false,rfl,.inr ⟨rfl,by unfold ZA;rw[if_pos (.inl (by omega))]⟩⟩,rfl⟩
 refine gj (λE=>?_) λE=>?_
 ·refine gr ?_;exact⟨⟨[],0,false,rfl,.inr ⟨rfl,by unfold ZA;rw[if_pos (.inr E)]⟩⟩,rfl⟩
 obtain⟨b,o,rfl,B⟩:=s.open (by intro e;have:=congrArg length e;rw[Ad,length_nil]at this;omega);have g:=BS.cut (l:=4) s I (r:=y.val.length) (by omega) (by omega) (by omega);have K:(y.val.drop 4).take (y.val.length-4)=y.val.drop 4:=by rw[<-length_drop,take_length]
 rw[K]at g;generalize G:y.val.drop 4=f at g;have d:ZA y=(λx=>if 1<=x/\x<=1048576/\wSf f=0 then some (f,x)else none) (wJj 0 (y.val.take 4) 0):=by unfold ZA;rw[if_neg (by omega),G]
 refine gg ?_;refine lq (CL rfl rfl rfl (.no _) (.no _) (.of (v:=4) rfl (by omega) rfl) (by omega) (by simp)) ?_;refine gg ?_;refine lq (wLf g rfl rfl rfl) ?_;refine ga λw=>?_;refine lq (Bh (CL rfl rfl rfl (.no _) (.of (v:=4) rfl (by omega) rfl) (.no _) (by omega) (by simp)) (v':=.slice (some ⟨b,o,none⟩) 4 c) (by rw[AU];rfl)) ?_;refine gh ?_;refine CC (α:=Nat) (λk=>[(2,pB F),(3,.bool false),(4,pB w),(24,.slice (some ⟨b,o,none⟩) 4 c),(25,.int .i64 4),(26,.int .i64 k)]) (λ_=>M) (λk=>[(w,cE [.string (AD f),.int .u32 (wJj 0 (y.val.take k) 0)] 143),(F,cE [.string (AD []),.int .u32 0] 143)]) (λk=>k<=4) (λk=>4-k) 0 (by decide) ?_ (hs:=λ_ h=>h.fewer (List.sublist_append_left [_,_] [_]));rintro k H;try dsimp only at H⊢
 refine gj (λC=>?_) λC=>?_
 ·have i:k<y.val.length:=by omega
  refine gg ?_;refine lq (Au rfl rfl rfl rfl ((B _ (.int .u8 ((y.val.getD k 0).toNat:Int)) (by rw[Nat.mul_one];exact Ca i)).cj _)) ?_;refine gg ?_;refine Gt [9] [9] [0,1,2,3,4,5,6,7,8,109] M [(w,cE [.string (AD f),.int .u32 (wJj 0 (y.val.take k) 0)] 143)] [] ?_;refine gg ?_;refine dq rfl (ED rfl rfl rfl (by rw[IntKind.wrap_u32];have:=(y.val.getD k 0).toNat_lt;omega)) ?_;refine gg ?_;refine dq rfl (DR rfl rfl rfl rfl (by omega) rfl) ?_;refine dq rfl (EW rfl rfl rfl rfl rfl) ?_;refine gh ?_;have z:wJj 0 (y.val.take (k+1)) 0=ND .u32 (wJj 0 (y.val.take k) 0) (MK .u32 ((y.val.getD k 0).toNat:Int) (Int.toNat (8*(k:Int)))):=by
   rw[List.take_succ_eq_append_getElem i,WJ,show y.val.getD k 0=y.val[k]by simp[getD,i],List.length_take,show Int.toNat (8*(k:Int))=8*(0+min k y.val.length)by omega]
  rw[<-z];refine BD (k+1) (by show k+1<=4;omega)
 obtain rfl:k=4:=by omega
 refine gg ?_;refine D7 [0,1,2,3,4,5,6,7,8,9,10,11,12,13,14,115,16] [(w,cE [.string (AD f),.int .u32 (wJj 0 (y.val.take 4) 0)] 143)] ?_;refine gj (λn=>?_) λn=>?_
 ·refine gj (λm=>?_) λm=>?_
  ·refine gg ?_;refine dq rfl (qC (MI f _)) ?_;refine gj (λj=>?_) λj=>?_
   ·refine gr ?_;exact⟨⟨f,_,true,rfl,.inl ⟨rfl,by rw[d];exact if_pos ⟨n,m,j⟩⟩⟩,rfl⟩
   refine gr ?_;exact⟨⟨f,_,false,rfl,.inr ⟨rfl,by rw[d];exact if_neg λk=>j k.2.2⟩⟩,rfl⟩
  refine gr ?_;exact⟨⟨f,_,false,rfl,.inr ⟨rfl,by rw[d];exact if_neg λk=>m k.2.1⟩⟩,rfl⟩
 refine gr ?_;exact⟨⟨f,_,false,rfl,.inr ⟨rfl,by rw[d];exact if_neg λk=>n k.1⟩⟩,rfl⟩
def NsV(l:List MN)(s:List Int)(v w:Value)(M:Mem):Prop:=∃a c a2 c2,v=.slice a l.length c/\w=.slice a2 s.length c2/\l.length<=c/\s.length<=c2/\SM M a (l.flatMap H6)/\SM M a2 (Al s)/\l.length<=15625/\s.length=l.length/\∀j∈s,u32 j
theorem NsV.nil:NsV [] [] (.slice none 0 0) (.slice none 0 0) M:=⟨none,0,none,0,rfl,rfl,Nat.le_refl _,Nat.le_refl _,SM.nil,SM.nil,Nat.zero_le _,rfl,by simp⟩
def NsR(r:Option (List MN×List Int))(u:Value)(M':Mem):Prop:=∃l s v w e,u=.tuple #[v,w,.int .i64 e]/\NsV l s v w M'/\Rs r e ((l,s)=·)
theorem NsR.no{r:Option (List MN×List Int)}{e:Int}(h:e≠0)(a:r=none):NsR r (.tuple #[.slice none 0 0,.slice none 0 0,.int .i64 e]) M:=⟨[],[],_,_,e,rfl,NsV.nil,.no h a⟩
structure NmI where
 k:Nat
 l:List MN
 s:List Int
 v:Value
 R:Lc
 w:Value
 S:Lc
 M:Mem
variable{A:Lc}{E:Ent}{w:World}
theorem St.sel{B C:Lc}(h:St E M A w)(a:A.Perm (B++C)):St E M B w:=(h.perm a).fewer (List.sublist_append_left _ _)
variable{its:List It}
theorem wXi{a:Option (List MN×List Int)}(hk:k<its.length):(its.take (k+1)).foldl XQ a=XQ ((its.take k).foldl XQ a) its[k]:=by
 rw[List.take_succ_eq_append_getElem hk,List.foldl_append];rfl
theorem Xd{a:Option (List MN×List Int)}(hk:k<its.length)(h:XQ ((its.take k).foldl XQ a) its[k]=none):its.foldl XQ a=none:=by
 conv=>lhs;rw[<-List.take_append_drop (k+1) its]
 rw[List.foldl_append,wXi hk,h];exact Fw (λ_=>rfl) _
theorem N7(p:Po)(x:V5)(M:Mem)(h:PW M x p)(v i:Int)(hi:u32 i):SpecL prog 143 #[DH p x,.int .u32 v,.int .u32 i] M [] λu M' L'=>NsR (DT p v i) u M'/\L'=[]:=by
 refine sB func143 ntmps143 ?_;intro W;refine ga λb3=>?_;refine gc (EG p x M h v i) ?_;rintro _ M1 a0 ⟨z,e,rfl,hz⟩;refine gA λb9=>?_;refine gj (λO=>?_) λO=>?_
 ·refine gr ?_;exact⟨.no O (by unfold DT;rw[hz.err O];rfl),rfl⟩
 obtain⟨rfl,_,hz,rfl⟩:=hz.val O;obtain⟨z1,zd,z3,z4⟩:=z;cases zd with
 |false=>
  refine gr ?_
  exact⟨.no (by decide) (by unfold DT;rw[hz];rfl),rfl⟩
 |true=>
 have F:DT p v i=(TL p v (RZ i 0) (RZ i 31)).bind λl=>l.foldl XQ (some ([],[])):=by unfold DT;rw[hz];rfl
 refine gg ?_;refine lq (Au rfl rfl rfl rfl (CJ.loc rfl)) ?_;refine gg ?_;refine D7 [0,1,2,3,4,5,106,7,8,9,10,11] [GG b3 x p.gen p.root p.next] ?_;refine gg ?_;refine dq rfl (qC (PF i 0 HX _)) ?_;refine gg ?_;refine dq rfl (qC (PF i 31 (by unfold u32;decide) _)) ?_;refine gg ?_;refine dh rfl (hC (Gm p x M1 (h.mono a0) v (RZ i 0) (RZ i 31))) ?_;rintro _ M2 _ ⟨az,R,rfl,⟨s,rfl,ha⟩,rfl⟩;refine⟨az,by simp,?_⟩;generalize s.v=sv at ha⊢;obtain⟨a,c,ps,rfl,hc,aj,ae,am⟩:=ha;refine gg ?_;refine gj (λN=>?_) λN=>?_
 ·refine gr ?_;exact⟨.no N (by rw[F,Pp N];rfl),rfl⟩
 rw[HV N,Option.bind_some]at F;have ap:=(vrn_fine (p:=p) (q:=v) (a:=RZ i 0) (b:=RZ i 31)).2;generalize MS p v (RZ i 0) (RZ i 31)=its at *;refine gh ?_;refine CC (α:=NmI) (λz=>[(6,.slice none 0 0),(7,.slice none 0 0),(8,.int .i64 0),(12,z.v),(13,z.w),(46,.slice a its.length c),(47,.int .i64 its.length),(48,.int .i64 z.k)]) (λz=>z.M) (λz=>z.R++z.S) (λz=>z.k<=its.length/\(its.take z.k).foldl XQ (some ([],[]))=some (z.l,z.s)/\Own z.v z.R 143 2 z.l.length (z.l.flatMap H6)/\Own z.w z.S 3 1 z.s.length (Al z.s)/\z.l.length<=z.k/\z.s.length=z.l.length/\(∀j∈z.s,u32 j)/\MLe M2 z.M) (λz=>its.length-z.k) ⟨0,[],[],.slice none 0 0,[],.slice none 0 0,[],M2⟩ ⟨Nat.zero_le _,rfl,Own.nil _ _,Own.nil _ _,Nat.le_refl _,rfl,by simp,MLe.refl _⟩ ?_;rintro⟨k,l,s,v1,R,w1,S,Mk⟩ ⟨hk,Y,U,D,ao,ad,T,L⟩;try dsimp only at hk Y U D ao ad T L⊢
 have ac:=aj.mono L;have af:=λp hp=>(am p hp).mono L;obtain⟨oa,oc,rfl⟩:=U.form;obtain⟨wa,wc,rfl⟩:=D.form;refine gj (λa1=>?_) λa1=>?_
 ·have G:k<its.length:=by omega
  obtain⟨sb,so,e0,hx⟩:=ac.open (by intro e;have:=congrArg length e;rw[Aj Ae 5 Ag,length_nil]at this;have h2:=congrArg length ae;rw[List.length_map]at h2;omega);cases e0;obtain⟨K,J,aq,ai,ah⟩:=Aw hx ae af G;have aw:BS Mk (.slice K its[k].val.length J) its[k].val:=⟨K,J,rfl,ai,ah⟩;have V:=ap.2 its[k] (getElem_mem G);refine gg ?_;refine lq (A1 (cs:=E1 its[k] K J) rfl rfl rfl rfl rfl (λi v hv=>(aq i v hv).cj _)) ?_;refine ga λB=>?_;refine gc (Xr its[k] _ Mk aw (by have:=V.1;grind[BB])) ?_;rintro _ Z ay ⟨d,n,ok,rfl,H⟩;refine gA λo=>?_;rcases H with⟨rfl,H⟩|⟨rfl,H⟩
  ·refine gg ?_;refine lq (wYv rfl rfl rfl rfl rfl (by kernel_rfl) (R:=R) (by simp;grind) (Ux l oa oc d (Ev Z R) (wYy U).2 (by omega))) ?_;have ab:XQ (some (l,s)) its[k]=if l.any (λy=>decide (y.1=d))then none else some (l++[(d,n)],s++[its[k].key.off]):=by
    unfold XQ;rw[Option.bind_some,H,Option.bind_some]
   refine gj (λX=>?_) λX=>?_
   ·refine gr ?_;exact⟨.no (by decide) (by rw[F];exact Xd G (by rw[Y,ab,<-PC,if_pos (decide_eq_true X)])),rfl⟩
   have aa:XQ (some (l,s)) its[k]=some (l++[(d,n)],s++[its[k].key.off]):=by
    rw[ab,<-PC,if_neg (by simpa using X)]
   refine gg ?_;refine AV [(B,cE (E1 its[k] K J) 162),(o,cE (H6 (d,n)) 143)] (by kernel_rfl) (by simp) ?_;refine gk [0,1,4,5,6,7] ?_;refine Et (i:=8) rfl (by kernel_rfl) (by kernel_rfl) rfl rfl (ED rfl rfl rfl (by rw[IntKind.wrap_i64];have:=V.2.1.2.2;omega)) ?_;refine Eg (α:=Value×Lc×Nat) (λx=>Own x.1 x.2.1 143 2 (l.length+1) (l.flatMap H6++H6 (d,n))) (λx=>[(69,x.1),(70,.slice wa s.length wc),(75,.slice (some ⟨x.2.2,0,none⟩) 1 1),(6,.slice none 0 0),(7,.slice none 0 0),(8,.int .i64 0),(46,.slice (some ⟨sb,so,none⟩) its.length c),(47,.int .i64 its.length),(48,.int .i64 k)]) (λ_=>Z) (λx=>x.2.1++(S++[(x.2.2,cE [.int .i64 its[k].key.off] 3),(B,cE (E1 its[k] K J) 162),(o,cE (H6 (d,n)) 143)])) 3 #[true,true,true,true,true,true,true,true,true,true,false,false,false] ?_ ?_
   ·rintro ⟨Q,I,bs⟩ f;dsimp only at f⊢;refine aO 10 ?_;refine sh rfl (AY (R:=S) (m:=1) (news:=[.int .i64 its[k].key.off]) rfl rfl rfl rfl D rfl (λi v h=>CJ.loc (by simpa using h)) rfl rfl (by simp[Value.oneCell']) (by omega) (by decide)) ?_;rintro v3 _ _ ⟨rfl,S2,rfl,ag,_⟩;refine aG (MLe.refl _) ?_;refine gk [11,12] ?_;refine FP (by kernel_rfl) ?_;refine gh ?_;refine BD ⟨k+1,l++[(d,n)],s++[its[k].key.off],Q,I,v3,S2,Z⟩ ⟨by show k+1<=_;omega,by rw[wXi G,Y];exact aa,by dsimp only;rw[length_append,List.flatMap_append];simpa using f,by dsimp only;rw[length_append];unfold Al at ag ⊢;rw[List.map_append];exact ag,by simp;omega,by simp;omega,λj hj=>(List.mem_append.1 hj).elim (T j) λhj=>by rw[List.mem_singleton.1 hj];exact V.2.1.2.2,L.trans ay⟩ (hs:=λw D=>St.sel (C:=[(bs,cE [.int .i64 its[k].key.off] 3),(B,cE (E1 its[k] K J) 162),(o,cE (H6 (d,n)) 143)]) D BE)
   intro E;refine Bf [2,9] (by kernel_rfl) rfl ⟨?_,?_,trivial⟩
   ·refine sh rfl (Ab (cs:=[_,_]) rfl rfl rfl (by rfl) (by rfl) (by rfl)) ?_;rintro _ _ _ ⟨P,rfl,rfl,rfl⟩;refine aG (MLe.refl _) ?_;refine Bf [3,9] (by kernel_rfl) rfl ⟨?_,?_,trivial⟩
    ·refine sh rfl (AY (R:=R) (m:=1) (news:=H6 (d,n)) rfl rfl rfl rfl U rfl (λi v h=>CJ.loc (by simpa using h)) rfl rfl (by simp[Value.oneCell']) (by omega) (by decide)) ?_;rintro Q _ _ ⟨rfl,I,rfl,f,_⟩;refine aG (MLe.refl _) ?_;refine aO 9 ?_;refine sh rfl (Ab (cs:=[_]) rfl rfl rfl (by rfl) (by rfl) (by rfl)) ?_;rintro _ _ _ ⟨g,rfl,rfl,rfl⟩;refine aG (MLe.refl _) ?_;refine Cp (M2:=Z) (L2:=I++(S++[(g,cE [.int .i64 its[k].key.off] 3),(B,cE (E1 its[k] K J) 162),(o,cE (H6 (d,n)) 143)])) (λw D=>St.sel (C:=[(P,cE [.string (AD d),.int .u32 n] 143)]) D BE) (MLe.refl _) (by simp) (aR E (Q,I,g) f)
    refine sh rfl (Ab (cs:=[_]) rfl rfl rfl (by rfl) (by rfl) (by rfl)) ?_;rintro _ _ _ ⟨g,rfl,rfl,rfl⟩;refine aG (MLe.refl _) ?_;refine aO 3 ?_;refine sh rfl (AY (R:=R) (m:=1) (news:=H6 (d,n)) rfl rfl rfl rfl U rfl (λi v h=>CJ.loc (by simpa using h)) rfl rfl (by simp[Value.oneCell']) (by omega) (by decide)) ?_;rintro Q _ _ ⟨rfl,I,rfl,f,_⟩;refine aG (MLe.refl _) ?_;refine Cp (M2:=Z) (L2:=I++(S++[(g,cE [.int .i64 its[k].key.off] 3),(B,cE (E1 its[k] K J) 162),(o,cE (H6 (d,n)) 143)])) (λw D=>St.sel (C:=[(P,cE [.string (AD d),.int .u32 n] 143)]) D BE) (MLe.refl _) (by simp) (aR E (Q,I,g) f)
   refine sh rfl (Ab (cs:=[_]) rfl rfl rfl (by rfl) (by rfl) (by rfl)) ?_;rintro _ _ _ ⟨g,rfl,rfl,rfl⟩;refine aG (MLe.refl _) ?_;refine aO 2 ?_;refine sh rfl (Ab (cs:=[_,_]) rfl rfl rfl (by rfl) (by rfl) (by rfl)) ?_;rintro _ _ _ ⟨P,rfl,rfl,rfl⟩;refine aG (MLe.refl _) ?_;refine aO 3 ?_;refine sh rfl (AY (R:=R) (m:=1) (news:=H6 (d,n)) rfl rfl rfl rfl U rfl (λi v h=>CJ.loc (by simpa using h)) rfl rfl (by simp[Value.oneCell']) (by omega) (by decide)) ?_;rintro Q _ _ ⟨rfl,I,rfl,f,_⟩;refine aG (MLe.refl _) ?_;refine Cp (M2:=Z) (L2:=I++(S++[(g,cE [.int .i64 its[k].key.off] 3),(B,cE (E1 its[k] K J) 162),(o,cE (H6 (d,n)) 143)])) (λw D=>St.sel (C:=[(P,cE [.string (AD d),.int .u32 n] 143)]) D BE) (MLe.refl _) (by simp) (aR E (Q,I,g) f)
  refine gr ?_;exact⟨.no (by decide) (by rw[F];exact Xd G (by rw[Y];unfold XQ;rw[Option.bind_some,H];rfl)),rfl⟩
 obtain rfl:k=its.length:=by omega
 rw[take_length]at Y;refine gg ?_;refine BK U (by simp) ?_;intro M4 a4 c4 a2 e4 av al;cases e4;refine BK D (by simp) ?_;intro M5 a5 c5 ax e5 au ak;cases e5;refine gr ?_;exact⟨⟨l,s,_,_,0,rfl,⟨oa,oc,wa,wc,rfl,rfl,av,au,al.mono ax,ak,by omega,ad,T⟩,.yes _ (by rw[F];exact Y) rfl⟩,rfl⟩
theorem Hx(p:Po)(x:V5)(M:Mem)(h:PW M x p)(v i:Int)(f:u32 i):SpecL prog 75 #[DH p x,.int .u32 v,.int .u32 i] M [] λu j k=>(∃l s w e,u=.tuple #[w,.int .i64 e]/\(∃a,NsV l s w a j)/\Rs (DT p v i) e ((l,s)=·))/\k=[]:=by
 refine sB func75 ntmps75 ?_;intro W;refine ga λm=>?_;refine gc (N7 p x M h v i f) ?_;rintro _ n g ⟨l,sl,b,a,e,rfl,c,d⟩;refine gr ?_;exact⟨⟨l,sl,b,e,rfl,⟨a,c⟩,d⟩,rfl⟩
def AsR(r:Option (List MN×List Int))(s:List By)(u:Value)(M':Mem):Prop:=∃l sl v w e,u=.tuple #[v,w,.int .i64 (YY l λy=>decide (y.1=s)),.int .i64 e]/\NsV l sl v w M'/\Rs r e ((l,sl)=·)
theorem Ni(p:Po)(x:V5)(M:Mem)(h:PW M x p)(v i:Int)(y:u32 i)(s:List By):SpecL prog 278 #[DH p x,.int .u32 v,.int .u32 i,.string (AD s)] M [] λu C D=>AsR (ML p v i s) s u C/\D=[]:=by
 refine sB func278 ntmps278 ?_;intro W;refine ga λJ=>?_;refine gc (N7 p x M h v i y) ?_;rintro _ j B ⟨l,sl,F,E,e,rfl,g,k⟩;obtain⟨a,c,K,I,rfl,rfl,H,z,d,w,G,o,n⟩:=id g;refine gj (λb=>?_) λb=>?_
 ·subst b;obtain⟨_,_,m,rfl⟩:=k.val (by simp);refine gQ (MI s j) ?_;refine gQ (Ux l a c s j d (by omega)) ?_;refine gr ?_;refine⟨⟨l,sl,_,_,wSf s,rfl,g,?_⟩,rfl⟩;by_cases f:wSf s=0
  ·rw [f];exact .yes _ (by unfold ML;rw[m,Option.bind_some,if_pos f]) rfl
  exact .no f (by unfold ML;rw[m,Option.bind_some,if_neg f])
 refine gQ (Ux l a c s j d (by omega)) ?_;refine gr ?_;exact⟨⟨l,sl,_,_,e,rfl,g,.no b (by unfold ML;rw[k.err b];rfl)⟩,rfl⟩
def NuR(r:Option Int)(u:Value):Prop:=∃n e,u=.tuple #[.int .u32 n,.int .i64 e]/\Rs r e (n=·)
theorem RB(p:Po)(x:V5)(M:Mem)(h:PW M x p)(v i:Int)(E:u32 i)(s:List By):SpecL prog 185 #[DH p x,.int .u32 v,.int .u32 i,.string (AD s)] M [] λu V J=>NuR (LN p v i s) u/\J=[]:=by
 refine sB func185 ntmps185 ?_;intro W;refine ga λS=>?_;refine gc (Ni p x M h v i E s) ?_;rintro _ U G ⟨l,sl,L,K,e,rfl,w,m⟩;obtain⟨a,c,T,R,rfl,rfl,Q,F,g,C,P,B,z⟩:=id w;refine gj (λb=>?_) λb=>?_
 ·refine gr ?_;exact⟨⟨0,e,rfl,.no b (by unfold LN;rw[m.err b];rfl)⟩,rfl⟩
 obtain⟨rfl,_,D,rfl⟩:=m.val b;have d:LN p v i s=(E5 l s).map λk=>(l.getD k ([],0)).2:=by unfold LN;rw[D];rfl
 cases f:l.findIdx? (λy=>decide (y.1=s))with
 |none=>
  rw[QR f]
  refine gu ?_
  exact⟨⟨0,6,rfl,.no (by decide) (by rw[d];unfold E5;rw[f];rfl)⟩,rfl⟩
 |some k=>
  obtain⟨H,n⟩:=ixI_neg.2 k f
  rw[H]
  obtain⟨O,N,I,o⟩:=g.open (by intro e;have:=congrArg length e;rw[Aj H6 2 Gb,length_nil]at this;omega)
  cases I
  have j:=Bs H6 2 Gb o (List.getElem?_eq_getElem n)
  refine gt ?_
  refine lq (Au rfl rfl rfl rfl ((j 1 _ rfl).cj _)) ?_
  refine gr ?_
  exact⟨⟨l[k].2,0,rfl,.yes _ (by rw[d];unfold E5;rw[f];simp[getD,n]) rfl⟩,rfl⟩
theorem wVt(s:List Int)(a:Option Addr)(c:Nat)(M:Mem)(hs:SM M a (Al s))(z:s.length<=1000000):SpecL prog 281 #[.slice a s.length c] M [] λu _ _=>u=.int .i64 (HI s):=by
 refine sB func281 ntmps281 ?_;intro W;refine gh ?_;refine CC (α:=Nat) (λk=>[(0,.slice a s.length c),(5,.slice a s.length c),(6,.int .i64 s.length),(7,.int .i64 k)]) (λ_=>M) (λ_=>[]) (λk=>k<=s.length/\∀j,j<k->s.getD j 0=(j:Int)) (λk=>s.length-k) 0 ⟨Nat.zero_le _,λ_ h=>absurd h (Nat.not_lt_zero _)⟩ ?_;rintro k ⟨l,g⟩;try dsimp only at l g⊢
 refine gj (λm=>?_) λm=>?_
 ·have d:k<s.length:=by omega
  obtain⟨y,w,o,i⟩:=hs.open (by intro e;have:=congrArg length e;rw[Ay,length_nil]at this;omega);cases o;refine gg ?_;refine lq (Au rfl rfl rfl rfl ((i _ _ (by rw[Nat.mul_one];exact Uj d)).cj _)) ?_;refine gj (λb=>?_) λb=>?_
  ·refine gr ?_;refine congrArg (λn:Nat=>Value.int .i64 n) ?_;unfold HI;rw[List.find?_range_eq_some.2 ⟨by simpa using b,List.mem_range.2 d,λj f=>by simpa using g j f⟩];rfl
  refine gh ?_;refine BD (k+1) ⟨by show k+1<=s.length;omega,λj f=>by
   by_cases e:j=k
   ·subst e;exact Classical.not_not.1 b
   exact g j (by omega)⟩
 refine gr ?_;obtain rfl:k=s.length:=by omega
 refine congrArg (λn:Nat=>Value.int .i64 n) ?_;unfold HI;rw[List.find?_range_eq_none.2 λj f=>by simpa using g j f];rfl
theorem wYg(n:Int)(k:Nat)(hk:k<=3):D6 .u32 n (8*k)=n / 256 ^ k:=by
 have h:k=0\/k=1\/k=2\/k=3:=by omega
 unfold D6;rcases h with rfl|rfl|rfl|rfl<;>exact Int.fdiv_eq_ediv_of_nonneg _ (by decide)
theorem wHp(p:Po)(x:V5)(M:Mem)(h:PW M x p)(v i:Int)(Z:u32 v)(V:u32 i)(s:List By)(n:Int):SpecL prog 191 #[DH p x,.int .u32 v,.int .u32 i,.string (AD s),.int .u32 n] M [] λu M' L'=>PoR (HC p v i s n) u M'/\L'=[]:=by
 refine sB func191 ntmps191 ?_;intro W;refine Ke λb5 ag=>?_;refine gc (Ni p x M h v i V s) ?_;rintro _ M1 K ⟨l,sl,w1,w2,e,rfl,Y,T⟩;obtain⟨a,c,a2,c2,rfl,rfl,hc,af,ac,E,hl,ab,aa⟩:=id Y;refine gj (λd=>?_) λd=>?_
 ·refine gr ?_;exact⟨.no d (by unfold HC;rw[T.err d];rfl),rfl⟩
 obtain⟨rfl,_,f,rfl⟩:=T.val d;have b:HC p v i s n=if (E5 l s).isSome\/32<=sl.length\/n<1\/1048576<n then none else EQ p v ⟨RZ i (HI sl),0,PA 4 n++s⟩:=by unfold HC;rw[f];rfl
 refine gj (λC=>?_) λC=>?_
 ·refine gr ?_;exact⟨.no (by decide) (by rw[b,if_pos (.inl (by unfold E5;cases G:l.findIdx? (λy=>decide (y.1=s))with|none=>rw[QR G]at C;omega|some k=>rfl))]),rfl⟩
 have F:E5 l s=none:=by unfold E5;exact ixI_neg.1.1 (by omega)
 refine gj (λN=>?_) λN=>?_
 ·refine gr ?_;exact⟨.no (by decide) (by rw[b,if_pos (.inr (.inl (by omega)))]),rfl⟩
 refine gj (λB=>?_) λB=>?_
 ·refine gr ?_;exact⟨.no (by decide) (by rw[b,if_pos (.inr (.inr (.inl B)))]),rfl⟩
 refine gj (λL=>?_) λL=>?_
 ·refine gr ?_;exact⟨.no (by decide) (by rw[b,if_pos (.inr (.inr (.inr (by omega))))]),rfl⟩
 have w:wSf s=0:=by
  unfold ML at f;obtain⟨_,_,f⟩:=Option.bind_eq_some_iff.1 f;split at f
  ·assumption
  cases f
 have o:0<s.length/\s.length<=8:=by unfold wSf at w;split at w<;>omega
 rw[if_neg (by rw[F];simp;omega)]at b;refine gg ?_;refine lq (Bh (Bn rfl rfl rfl) (by rw[FA])) ?_;refine gg ?_;refine lq (DR rfl rfl rfl rfl (by omega) rfl) ?_;refine lq (Bh (Bn rfl rfl rfl) (by rw[FA])) ?_;refine gg ?_;refine lq (DR rfl rfl rfl rfl (by omega) rfl) ?_;refine lq (Bh (Bn rfl rfl rfl) (by rw[FA])) ?_;refine gg ?_;refine lq (DR rfl rfl rfl rfl (by omega) rfl) ?_;refine lq (Bh (Bn rfl rfl rfl) (by rw[FA])) ?_;refine lq (wAo (cs:=[_,_,_,_]) rfl rfl rfl rfl) ?_;refine gA λO=>?_;have I:(bU n:By)::bU (D6 .u32 n (Int.toNat 8))::bU (D6 .u32 n (Int.toNat 16))::bU (D6 .u32 n (Int.toNat 24))::[]=PA 4 n:=by
  rw[show Int.toNat 8=8*1 from rfl,show Int.toNat 16=8*2 from rfl,show Int.toNat 24=8*3 from rfl,wYg _ _ (by decide),wYg _ _ (by decide),wYg _ _ (by decide)];unfold PA;simp[range,List.range.loop]
 refine D7 [0,1,2,3,4,5,6,7,108,9,110,11,12,113,14] [GG b5 x p.gen p.root p.next,(O,cE [.int .u8 ((bU n).toNat:Int),.int .u8 ((bU (D6 .u32 n (Int.toNat 8))).toNat:Int),.int .u8 ((bU (D6 .u32 n (Int.toNat 16))).toNat:Int),.int .u8 ((bU (D6 .u32 n (Int.toNat 24))).toNat:Int)] 385)] ?_;refine gg ?_;refine dq rfl (qC (wVt sl a2 c2 M1 E (by omega))) ?_;have ae:HI sl<=sl.length:=by
  unfold HI;cases G:(range sl.length).find? λ(n:Nat)=>decide (sl.getD n 0≠(n:Int))with
  |none=>exact Nat.le_refl _
  |some m=>exact Nat.le_of_lt (List.mem_range.1 (List.mem_of_find?_eq_some G))
 refine gg ?_;refine dq rfl (qC (PF i (HI sl) (by unfold u32;omega) _)) ?_;refine gg ?_;refine dq rfl (Qe rfl rfl rfl) ?_;refine gg ?_;refine dh rfl (HF.fz (wGt (l:=s) (xs:=Aa (PA 4 n)) rfl rfl rfl rfl (by rw[Ad,Hk]) (λi u S=>by rw[<-I]at S;exact CJ.loc (by simpa [Aa]using S)) rfl o.1 (by omega) (by decide))) ?_;rintro _ X _ ⟨z,rfl,Q,P,rfl,D,j⟩;refine⟨z,by simp,?_⟩;refine gg ?_;have H:BS X (Sl.v ⟨Q,4+s.length,P⟩) (PA 4 n++s):=⟨Q,P,by rw[length_append,Hk],by rw[length_append,Hk];exact D,by unfold Aa at j ⊢;rw[List.map_append];exact j⟩;refine dh rfl (hC (G2 p x X (h.mono (K.trans z)) v Z ⟨RZ i (HI sl),0,PA 4 n++s⟩ _ H ⟨by unfold RZ;dsimp only;omega,V,by unfold RZ;dsimp only;omega⟩)) ?_;rintro _ M3 _ ⟨J,R,rfl,U,rfl⟩;refine⟨J,by simp,?_⟩;obtain⟨y,g,r1,n1,e,rfl,ad⟩:=id U;refine gr ?_;exact⟨by rw[b];exact U,rfl⟩
theorem ZE(p:Po)(x:V5)(M:Mem)(h:PW M x p)(v i:Int)(F:u32 v)(K:u32 i)(s:List By):SpecL prog 210 #[DH p x,.int .u32 v,.int .u32 i,.string (AD s)] M [] λu S T=>PoR (Ey p v i s) u S/\T=[]:=by
 refine sB func210 ntmps210 ?_;intro W;refine Ke λP b8=>?_;refine gc (Ni p x M h v i K s) ?_;rintro _ Q z ⟨l,sl,V,U,e,rfl,E,B⟩;obtain⟨a,c,a2,c2,rfl,rfl,hc,L,H,o,hl,G,n⟩:=id E;refine gj (λb=>?_) λb=>?_
 ·refine gr ?_;exact⟨.no b (by unfold Ey;rw[B.err b];rfl),rfl⟩
 obtain⟨rfl,_,J,rfl⟩:=B.val b;have f:Ey p v i s=(E5 l s).bind λk=>PO p v (RZ i (sl.getD k 0)):=by unfold Ey;rw[J];rfl
 cases m:l.findIdx? (λy=>decide (y.1=s))with
 |none=>
  rw[QR m]
  refine gu ?_
  exact⟨.no (by decide) (by rw[f];unfold E5;rw[m];rfl),rfl⟩
 |some k=>
  obtain⟨N,hk⟩:=ixI_neg.2 k m
  rw[N]
  have d:k<sl.length:=by omega
  obtain⟨Y,X,O,D⟩:=o.open (by intro e;have:=congrArg length e;rw[Ay,length_nil]at this;omega)
  cases O
  have j:u32 (sl.getD k 0):=n _ (by rw[show sl.getD k 0=sl[k]by simp[getD,d]];exact getElem_mem d)
  refine gt ?_
  refine D7 [0,1,2,3,4,5,6,7,108,9,10,111,12] [GG P x p.gen p.root p.next] ?_
  refine gg ?_
  refine dq rfl (Au rfl rfl rfl rfl ((D _ _ (by rw[Nat.mul_one];exact Uj d)).cj _)) ?_
  refine dq rfl (qC (PF i (sl.getD k 0) j _)) ?_
  refine gg ?_
  refine dh rfl (hC (Nz p x Q (h.mono z) v F (RZ i (sl.getD k 0)))) ?_;rintro _ M2 _ ⟨w,R,rfl,C,rfl⟩
  refine⟨w,by simp,?_⟩
  obtain⟨y,g,Z,n1,e,rfl,I⟩:=id C
  refine gr ?_
  exact⟨by rw[f];unfold E5;rw[m];exact C,rfl⟩
end Go.Proofs.YtjheijhahehnmaaGreatDoor
