/- Walks: package name. No statement of the seat is proved here. -/
import Derived.Test.YtjheijhahehnmaaGreatDoorZCi
namespace Go.Proofs.YtjheijhahehnmaaGreatDoor
open Go.Proofs.Tryz
open List (length_drop length length_nil getElem_mem)
set_option linter.unusedSimpArgs false
set_option linter.unusedVariables false
set_option linter.unusedSectionVars false
set_option maxHeartbeats 40000000
set_option maxRecDepth 8000
open Go.RowKit
variable{z:Ino}
theorem MD{y:It}(h:Ku y=some z):inoE z=0/\z.id=y.key.id:=by
 unfold Ku at h;split at h
 ·cases h
 dsimp only at h;split at h
 ·cases h;exact⟨by assumption,rfl⟩
 cases h
theorem L5{p:Po}{v i:Int}(h:De p v i=some z):inoE z=0/\z.id=i:=by
 unfold De at h;obtain⟨y,d,c⟩:=Option.bind_eq_some_iff.1 h;obtain⟨b,a⟩:=MD c;exact⟨b,by rw[a,(Vl d).2.1];rfl⟩
theorem GR(h:inoE z=0):(1<=z.id/\z.id<=1048576)/\0<=z.size/\z.size<=4096/\1<=z.links/\z.links<=65535:=by
 unfold inoE at h;cases a:z.dir<;>simp only[a,if_true,Bool.false_eq_true,if_false]at h<;>(split at h<;>omega)
theorem wCc{p:Po}{v i:Int}(h:HK p v i=some z):De p v i=some z/\z.dir=false/\inoE z=0/\z.id=i:=by
 unfold HK at h;obtain⟨y,b,a⟩:=Option.bind_eq_some_iff.1 h;split at a
 ·cases a
 rename_i c;cases a;exact⟨b,by simpa using c,(L5 b).1,(L5 b).2⟩
theorem Kw(n:Int)(M:Mem):SpecL prog 125 #[.int .i64 n] M [] λu _ _=>u=.bool (decide (Eo n)):=by
 refine sB func125 ntmps125 ?_;intro W;refine gj (λb=>?_) λb=>?_
 ·refine gj (λa=>?_) λa=>?_
  ·refine gr ?_;exact congrArg _ (decide_eq_true ⟨by omega,by omega⟩).symm
  refine gr ?_;exact congrArg _ (decide_eq_false (by unfold Eo;omega)).symm
 refine gr ?_;exact congrArg _ (decide_eq_false (by unfold Eo;omega)).symm
theorem K6(p:Po)(x:V5)(M:Mem)(h:PW M x p)(v i:Int):SpecL prog 126 #[DH p x,Gs v i] M [] λu o d=>InR (HK p v i) u/\d=[]:=by
 refine sB func126 ntmps126 ?_;intro W;refine Zh λm l k=>?_;refine gc (EG p x M h v i) ?_;rintro _ n c ⟨z,e,rfl,b⟩;refine gA λj=>?_;refine gj (λa=>?_) λa=>?_
 ·refine gr ?_;exact⟨⟨⟨0,false,0,0⟩,e,rfl,.no a (by unfold HK;rw[b.err a];rfl)⟩,rfl⟩
 obtain⟨rfl,_,b,rfl⟩:=b.val a;obtain⟨z1,zd,g,f⟩:=z;cases zd with
 |false=>
  refine gr ?_
  exact⟨⟨_,0,rfl,.yes _ (by unfold HK;rw[b];rfl) rfl⟩,rfl⟩
 |true=>
  refine gr ?_
  exact⟨⟨⟨0,false,0,0⟩,240,rfl,.no (by decide) (by unfold HK;rw[b];rfl)⟩,rfl⟩
def TuR(r:Option (Po×Int))(u:Value)(M':Mem):Prop:=∃(y:V5)(g r1 n m e:Int),u=.tuple #[.agg (Bo y g r1 n).toArray,.int .i64 m,.int .i64 e]/\Rs r e λq=>PW M' y q.1/\g=q.1.gen/\r1=q.1.root/\n=q.1.next/\m=q.2
variable{M:Mem}{e g m:Int}{y:V5}
theorem TuR.no{r:Option (Po×Int)}(h:e≠0)(a:r=none){r1 n:Int}:TuR r (.tuple #[.agg (Bo y g r1 n).toArray,.int .i64 m,.int .i64 e]) M:=⟨y,g,r1,n,m,e,rfl,.no h a⟩
theorem PW.t{x:V5}{p:Po}{r:Option (Po×Int)}(h:PW M x p)(a:r=some (p,m)):TuR r (.tuple #[DH p x,.int .i64 m,.int .i64 0]) M:=⟨x,_,_,_,m,0,rfl,.yes (p,m) a ⟨h,rfl,rfl,rfl,rfl⟩⟩
theorem G5(p:Po)(x:V5)(M:Mem)(h:PW M x p)(v i:Int)(N:u32 v)(l:FuncId)(j:List Value)(f:Ino->Option (Po×Int))(hgo:Dn prog l=true)
  (Q:∀z B,MLe M B->HK p v i=some z->SpecL prog l (.agg (Sa z).toArray::j).toArray B [] λu E F=>TuR (f z) u E/\F=[]):
  SpecL prog 122 #[DH p x,Gs v i,.func (.func l) #[] j.toArray] M [] λu E F=>PoR (HD p v i f) u E/\F=[]:=by
 refine sB func122 ntmps122 ?_;intro W;refine Zh λb3 b4 b6=>?_;refine gc (K6 p x M h v i) ?_;rintro _ B w ⟨z,e,rfl,o⟩;refine gA λb8=>?_;refine gj (λd=>?_) λd=>?_
 ·refine gr ?_;exact⟨.no d (by unfold HD;rw[o.err d];rfl),rfl⟩
 obtain⟨rfl,_,o,rfl⟩:=o.val d;have a:HD p v i f=if BG p v=0/\(As p v).frz=false then (f z).bind λq=>if z.size<q.2 then FR q.1 v { z with size:=q.2 } else some q.1 else none:=by unfold HD;rw[o];rfl
 have L:=(wCc o).2.1;refine gc (Dx p x B (h.mono w).pt h.dead v) ?_;rintro _ Y C rfl;generalize As p v=I at a;obtain⟨v1,v2,J,v4⟩:=I;refine gA λV=>?_;refine gj (λc=>?_) λc=>?_
 ·refine gr ?_;exact⟨.no c (by rw[a,if_neg λk=>c k.1]),rfl⟩
 cases J with
 |true=>
  refine gr ?_
  exact⟨.no (by decide) (by rw[a,if_neg (by simp)]),rfl⟩
 |false=>
 rw[if_pos ⟨Classical.not_not.1 c,rfl⟩]at a;refine gg ?_;refine lq (Au rfl rfl rfl rfl (CJ.loc rfl)) ?_;refine gh ?_;refine lh (BV (L2:=_) rfl rfl rfl rfl rfl hgo (Q z Y (w.trans C) o)) ?_;rintro _ X _ ⟨T,R,rfl,⟨y,g,K,n,m,e,rfl,G⟩,rfl⟩;refine gA λU=>?_;refine gj (λb=>?_) λb=>?_
 ·refine gr ?_;exact⟨.no b (by rw[a,G.err b];rfl),rfl⟩
 obtain⟨rfl,⟨q,mm⟩,P,H,rfl,rfl,rfl,rfl⟩:=G.val b;rw[P,Option.bind_some]at a;dsimp only at a;refine gj (λD=>?_) λD=>?_
 ·rw [if_pos (by omega)]at a;refine gc (Np q y X H v N { z with size:=m }) ?_;rintro u M4 S s;obtain⟨Z,g,K,n1,e,rfl,O⟩:=id s;refine gr ?_;exact⟨by rw[a];exact s,rfl⟩
 refine gr ?_;exact⟨H.r (by rw[a,if_neg (by omega)]),rfl⟩
structure Rdi where
 k:Nat
 o:List By
 w:Value
 R:Lc
 M:Mem
theorem wPp{b c:List By}{x:Pc}(h:WZ b x=some c):c.length<=128:=by
 unfold WZ at h;obtain⟨w,d,a⟩:=Option.bind_eq_some_iff.1 h;split at a
 ·cases a;have:=SA d;rw[List.length_take,length_drop];omega
 cases a
def ByZ(r:Option (List By))(u:Value)(M':Mem):Prop:=∃a n c e,u=.tuple #[.slice a n c,.int .i64 e]/\Rs r e λl=>BS M' (.slice a n c) l
theorem Zr(p:Po)(x:V5)(M:Mem)(h:PW M x p)(v i a n:Int):SpecL prog 67 #[DH p x,Gs v i,.int .i64 a,.int .i64 n] M [] λu M' L'=>ByZ (K5 p v i a n) u M'/\L'=[]:=by
 refine sB func67 ntmps67 ?_;intro W;refine Mo λb4 b5=>?_;refine gQ (Kw a M) ?_;by_cases P:Eo a;rotate_left
 ·rw [decide_eq_false P];refine gr ?_;exact⟨⟨_,_,_,2,rfl,.no (by decide) (by unfold K5;rw[if_neg λk=>P k.1])⟩,rfl⟩
 rw[decide_eq_true P];refine gQ (Kw n M) ?_;by_cases O:Eo n;rotate_left
 ·rw [decide_eq_false O];refine gr ?_;exact⟨⟨_,_,_,2,rfl,.no (by decide) (by unfold K5;rw[if_neg λk=>O k.2])⟩,rfl⟩
 rw[decide_eq_true O];have j:K5 p v i a n=(HK p v i).bind λx=>(HP (min a x.size) (min n (x.size-min a x.size))).bind λl=>l.foldl (SQ p v i) (some []):=if_pos ⟨P,O⟩;refine gg ?_;refine gc (K6 p x M h v i) ?_;rintro _ M1 ac ⟨z,e,rfl,G⟩;refine gA λal=>?_;refine gj (λE=>?_) λE=>?_
 ·refine gr ?_;exact⟨⟨_,_,_,e,rfl,.no E (by rw[j,G.err E];rfl)⟩,rfl⟩
 obtain⟨rfl,_,G,rfl⟩:=G.val E;rw[G,Option.bind_some]at j;have ag:=(GR (wCc G).2.2.1).2;unfold Eo at P O;refine gg ?_;refine lq (VY rfl rfl rfl rfl) ?_;refine gg ?_;refine lq (VY rfl rfl rfl rfl) ?_;refine gc (Ny _ _ M1) ?_;rintro _ M2 ab ⟨l,la,lc,e,rfl,ah,U,hr⟩;refine gj (λD=>?_) λD=>?_
 ·refine gr ?_;exact⟨⟨_,_,_,e,rfl,.no D (by rw[j,hr.err D];rfl)⟩,rfl⟩
 obtain⟨rfl,_,g,rfl⟩:=hr.val D;rw[g,Option.bind_some]at j;have af:l.length<=32:=by
  unfold HP at g;split at g
  ·cases g
  cases g;exact GZ _ _ 32
 refine gh ?_;refine CC (α:=Rdi) (λz=>[(4,pB b4),(5,pB b5),(13,z.w),(53,.slice la l.length lc),(54,.int .i64 l.length),(55,.int .i64 z.k)]) (λz=>z.M) (λz=>z.R++[(b5,cE [.int .u32 v,.int .u32 i] 123),GG b4 x p.gen p.root p.next]) (λz=>z.k<=l.length/\(l.take z.k).foldl (SQ p v i) (some [])=some z.o/\Own z.w z.R 5 1 z.o.length (Aa z.o)/\z.o.length<=128*z.k/\MLe M2 z.M) (λz=>l.length-z.k) ⟨0,[],.slice none 0 0,[],M2⟩ ⟨Nat.zero_le _,rfl,Own.nil _ _,Nat.le_refl _,MLe.refl _⟩ ?_;rintro⟨k,o,w,R,Mk⟩ ⟨hk,K,Q,T,y⟩;try dsimp only at hk K Q T y⊢
 refine gj (λae=>?_) λae=>?_
 ·have s:k<l.length:=by omega
  obtain⟨sb,so,e0,hx⟩:=(U.mono y).open (by intro e;have:=congrArg length e;rw[Aj RY 3 J1,length_nil]at this;omega);cases e0;have g:=Bs RY 3 J1 hx (List.getElem?_eq_getElem s);have m:SQ p v i (some o) l[k]=(Fg p v i l[k].blk).bind λb=>(WZ b l[k]).map λc=>o++c:=rfl;generalize F:l[k]=c at g m;have Z:=(ac.trans ab).trans y;refine gg ?_;refine lq (A1 (cs:=RY c) rfl rfl rfl rfl rfl (λi v hv=>(g i v hv).cj _)) ?_;refine ga λak=>?_;refine gc (K7 p x Mk (h.mono Z) v i c.blk) ?_;rintro _ M3 aa ⟨s1,e1,rfl,I⟩;refine gj (λC=>?_) λC=>?_
  ·subst C;obtain⟨_,b,hb,Y⟩:=I.val (by simp);rw[hb,Option.bind_some]at m;refine gc (wDx s1 b c M3 Y) ?_;rintro _ M4 N ⟨s2,e2,rfl,H⟩;refine gj (λB=>?_) λB=>?_
   ·refine gr ?_;exact⟨⟨_,_,_,e2,rfl,.no B (by rw[j,Fj (f:=SQ p v i) (λ_=>rfl) s (by rw[K,F,m,H.err B];rfl)])⟩,rfl⟩
   obtain⟨rfl,d,hd,V⟩:=H.val B;obtain⟨ad,dc,rfl,aj,L⟩:=V;have ai:=wPp hd;refine gg ?_;refine lh (Eh (R:=R) (news:=Aa d) rfl rfl rfl rfl Q (by rw[Ad,Nat.mul_one]) L (by rfl) (BM _) (by omega) (by omega)) ?_;rintro w2 _ _ ⟨rfl,R2,rfl,J⟩;refine gh ?_;refine BD ⟨k+1,o++d,w2,R2,M4⟩ ⟨by show k+1<=_;omega,by rw[E4 s,K,F,m,hd];rfl,by dsimp only;unfold Aa at J ⊢;rw[List.length_append,List.map_append];exact J,by dsimp only;rw[List.length_append];omega,y.trans (aa.trans N)⟩
  refine gu ?_;exact⟨⟨_,_,_,e1,rfl,.no C (by rw[j,Fj (f:=SQ p v i) (λ_=>rfl) s (by rw[K,F,m,I.err C];rfl)])⟩,rfl⟩
 obtain⟨oa,oc,rfl⟩:=Q.form;refine gg ?_;refine BK Q (by simp) ?_;intro M4 a4 c4 N e4 X S;cases e4;refine gr ?_;exact⟨⟨_,_,_,0,rfl,.yes o (by rw[j,Hu (by omega) K]) ⟨_,_,rfl,X,S⟩⟩,rfl⟩
def U6:List Pc->Int
 |[]=>0
 |x::l=>(x.to-x.fr)+U6 l
theorem wAs:∀(l m:List Pc),U6 (l++m)=U6 l+U6 m
 |[],m=>by simp[U6]
 |x::l,m=>by rw[List.cons_append,U6,U6,wAs l m];omega
theorem TB(a n:Int)(c:0<=a)(b:0<=n):∀k:Nat,U6 (E6 a n k)=max (min (a+n) (128*k)-a) 0
 |0=>by simp[E6,U6];omega
 |k+1=>by
  rw[FU,wAs,TB a n c b k];unfold RE;split<;>simp only[U6]<;>omega
variable{a:Int}{l:List Pc}
theorem wHs{n:Int}(h:HP a n=some l):l.length<=32/\U6 l=n/\(∀c∈l,U7 c=0)/\0<=a/\a+n<=4096:=by
 unfold HP at h;split at h
 ·cases h
 cases h;exact⟨GZ _ _ 32,by rw[TB _ _ (by omega) (by omega)];omega,λc b=>(RD _ _ 32 c b).resolve_right (by decide),by omega,by omega⟩
structure Wri where
 k:Nat
 q:Po
 y:V5
 d:List By
 dv:Value
 M:Mem
theorem Zs(p:Po)(x:V5)(M:Mem)(h:PW M x p)(v i:Int)(Z:u32 v)(l:List Pc)(Y:Option Addr)(lc:Nat)(ae:SM M Y (l.flatMap RY))(am:l.length<=32)(K:∀c∈l,U7 c=0)(d:List By)(V:Value)(hd:BS M V d)(D:(d.length:Int)=U6 l):
  SpecL prog 124 #[DH p x,Gs v i,.slice Y l.length lc,V] M [] λu M' L'=>PoR ((l.foldl (Mx v i) (some (p,d))).map (·.1)) u M'/\L'=[]:=by
 refine sB func124 ntmps124 ?_;intro W;refine Zh λb4 b5 b8=>?_;refine CC (α:=Wri) (λz=>[(3,z.dv),(4,pB b4),(5,pB b5),(8,pB b8),(14,.slice Y l.length lc),(15,.int .i64 l.length),(16,.int .i64 z.k)]) (λz=>z.M) (λz=>[GG b8 PP 0 0 0,(b5,cE [.int .u32 v,.int .u32 i] 123),GG b4 z.y z.q.gen z.q.root z.q.next]) (λz=>z.k<=l.length/\(l.take z.k).foldl (Mx v i) (some (p,d))=some (z.q,z.d)/\PW z.M z.y z.q/\BS z.M z.dv z.d/\(z.d.length:Int)=U6 (l.drop z.k)/\MLe M z.M) (λz=>l.length-z.k) ⟨0,p,x,d,V,M⟩ ⟨Nat.zero_le _,rfl,h,hd,D,MLe.refl _⟩ ?_;rintro⟨k,q,y,d,V,Mk⟩ ⟨hk,H,U,N,D,E⟩;try dsimp only at hk H U N D E⊢
 obtain⟨ad,X,rfl,O,L⟩:=id N;refine gj (λak=>?_) λak=>?_
 ·have j:k<l.length:=by omega
  obtain⟨sb,so,e0,hx⟩:=(ae.mono E).open (by intro e;have:=congrArg length e;rw[Aj RY 3 J1,length_nil]at this;omega);cases e0;have P:=Bs RY 3 J1 hx (List.getElem?_eq_getElem j);have Q:=K l[k] (getElem_mem j);have ag:=KP Q;have a:Mx v i (some (q,d)) l[k]=(Fg q v i l[k].blk).bind λb=>(V3 b l[k] (d.take (l[k].to-l[k].fr).toNat)).bind λc=>(Ek q v i l[k].blk c).map λq=>(q,d.drop (l[k].to-l[k].fr).toNat):=rfl;have af:U6 (l.drop k)=(l[k].to-l[k].fr)+U6 (l.drop (k+1)):=by rw[List.drop_eq_getElem_cons j];rfl
  have ao:0<=U6 (l.drop (k+1)):=by
   have:∀m:List Pc,(∀c∈m,U7 c=0)->0<=U6 m:=λm=>by
    induction m with
    |nil=>intro _;exact Int.le_refl _
    |cons c m ih=>intro hm;have:=KP (hm c (by simp));have:=ih λc hc=>hm c (by simp[hc]);rw[U6];omega
   exact this _ λc hc=>K c (List.mem_of_mem_drop hc)
  generalize n:l[k]=c at P Q ag a af;refine gg ?_;refine lq (A1 (cs:=RY c) rfl rfl rfl rfl rfl (λi v Z=>(P i v Z).cj _)) ?_;refine ga λal=>?_;refine gc (K7 q y Mk U v i c.blk) ?_;rintro _ M1 G ⟨s1,e1,rfl,J⟩;refine gj (λw=>?_) λw=>?_;rotate_left
  ·refine gu ?_;exact⟨.no w (by rw[Fj (f:=Mx v i) (λ_=>rfl) j (by rw[H,n,a,J.err w];rfl)];rfl),rfl⟩
  subst w;obtain⟨_,b,hb,ah⟩:=J.val (by simp);rw[hb,Option.bind_some]at a;have B:=BS.cut (l:=0) (r:=(c.to-c.fr).toNat) (L.mono G) O (by omega) (by omega) (by omega);rw[List.drop_zero,Nat.sub_zero,Nat.sub_zero,AU]at B;refine gg ?_;refine D7 [0,1,2,3,4,5,6,7,8,109,10,11,12,13,14] [(al,cE (RY c) 211)] ?_;refine gg ?_;refine dq rfl (Bh (CL rfl rfl rfl (.no _) (.of (v:=(c.to-c.fr).toNat) rfl (by omega) (by omega)) (.no _) (by omega) (by simp)) (v':=.slice ad (c.to-c.fr).toNat X) (by rw[AU];rfl)) ?_;refine gg ?_;refine dh rfl (hC (KG s1 _ b _ c M1 ah B)) ?_;rintro _ M2 _ ⟨F,R,rfl,⟨s2,e2,rfl,I⟩,rfl⟩;refine⟨F,by simp,?_⟩;refine gj (λs=>?_) λs=>?_;rotate_left
  ·refine gu ?_;exact⟨.no s (by rw[Fj (f:=Mx v i) (λ_=>rfl) j (by rw[H,n,a,I.err s];rfl)];rfl),rfl⟩
  subst s;obtain⟨_,b2,ai,S⟩:=I.val (by simp);rw[ai,Option.bind_some]at a;refine gc (Jq q y M2 (U.mono (G.trans F)) v i c.blk Z b2 _ S) ?_;rintro _ M3 aj ⟨z,g,r1,n1,e,rfl,hr⟩;refine gj (λo=>?_) λo=>?_
  ·refine gr ?_;exact⟨.no o (by rw[Fj (f:=Mx v i) (λ_=>rfl) j (by rw[H,n,a,hr.err o];rfl)];rfl),rfl⟩
  obtain⟨rfl,q2,aa,ab,rfl,rfl,rfl⟩:=hr.val o;rw[aa,Option.map_some]at a;have T:=(G.trans F).trans aj;have C:BS M3 (.slice (HE ad (c.to-c.fr).toNat X 1) (d.length-(c.to-c.fr).toNat) (X-(c.to-c.fr).toNat)) (d.drop (c.to-c.fr).toNat):=by
   by_cases ac:(c.to-c.fr).toNat<X
   ·have:=BS.cut (l:=(c.to-c.fr).toNat) (r:=d.length) (L.mono T) O (by omega) (by omega) ac;rwa[show (d.drop (c.to-c.fr).toNat).take (d.length-(c.to-c.fr).toNat)=d.drop (c.to-c.fr).toNat by rw[<-length_drop,List.take_length]]at this
   have e1:d.drop (c.to-c.fr).toNat=[]:=List.drop_eq_nil_of_le (by omega);rw[e1];exact⟨_,_,by rw[length_nil,show d.length-(c.to-c.fr).toNat=0 by omega],Nat.zero_le _,SM.nil⟩
  refine gg ?_;refine lq (CL rfl rfl rfl (.no _) (.no _) (.of (v:=(c.to-c.fr).toNat) rfl (by omega) (by omega)) (by omega) (by simp)) ?_;refine gh ?_;refine BD ⟨k+1,q2,z,d.drop (c.to-c.fr).toNat,_,M3⟩ ⟨by show k+1<=_;omega,by rw[E4 j,H,n];exact a,ab,C,by dsimp only;rw[length_drop];omega,E.trans T⟩
 refine gr ?_;exact⟨U.r (by rw[Hu (by omega) H];rfl),rfl⟩
variable{b:Nat}
theorem wXb{r n:Int}(h:M b=some (cE (Bo y g r n) 32))(L:Lc):∀i v,(Bo y g r n)[i]? =some v->CJ M L b (0+i) v:=λi v a=>(AG h (by rw[Nat.zero_add];exact a)).cj L
theorem ldV{v i:Int}(h:M b=some (cE [.int .u32 v,.int .u32 i] 123))(L:Lc):∀j u,([.int .u32 v,.int .u32 i]:List Value)[j]? =some u->CJ M L b (0+j) u:=λj u a=>(AG h (by rw[Nat.zero_add];exact a)).cj L
theorem Up(p:Po)(x:V5)(M:Mem)(h:PW M x p)(v i:Int)(S:u32 v)(l:List Pc)(n:Option Addr)(I:Nat)(B:SM M n (l.flatMap RY))(d:List By)(L:Value)(J:BS M L d)(a:Int)(C:HP a d.length=some l)(z:Ino)(R Q P O N:Nat)
  (E:M R=some (cE [L] 26)) (K:M Q=some (cE (Bo x p.gen p.root p.next) 32)) (e3:M P=some (cE [.int .u32 v,.int .u32 i] 123)) (e4:M O=some (cE [.slice n l.length I] 202)) (Z:M N=some (cE [.int .i64 a] 3)):
  SpecL prog 123 #[.agg (Sa z).toArray,pB R,pB Q,pB P,pB O,pB N] M [] λu M' L'=>TuR (if d=[]then some (p,0)else (l.foldl (Mx v i) (some (p,d))).map λo=>(o.1,a+d.length)) u M'/\L'=[]:=by
 obtain⟨c,s,w,ha,X⟩:=wHs C;obtain⟨ad,dc,rfl,V,U⟩:=id J;refine sB func123 ntmps123 ?_;intro W;refine Mo λb6 b7=>?_;refine lq (Au rfl rfl rfl rfl ((AG E rfl).cj _)) ?_;refine gj (λk=>?_) λk=>?_
 ·have b:d=[]:=List.length_eq_zero_iff.1 (by omega);refine gg ?_;refine lq (A1 (cs:=Bo x p.gen p.root p.next) rfl rfl rfl rfl rfl (wXb K _)) ?_;refine gr ?_;exact⟨h.t (if_pos b),rfl⟩
 have b:d≠[]:=λe=>k (by rw[e];rfl);refine gg ?_;refine lq (A1 (cs:=Bo x p.gen p.root p.next) rfl rfl rfl rfl rfl (wXb K _)) ?_;refine lq (A1 (cs:=[.int .u32 v,.int .u32 i]) rfl rfl rfl rfl rfl (ldV e3 _)) ?_;refine lq (Au rfl rfl rfl rfl ((AG e4 rfl).cj _)) ?_;refine lq (Au rfl rfl rfl rfl ((AG E rfl).cj _)) ?_;refine gc (Zs p x M h v i S l n I B c w d _ J s.symm) ?_;rintro _ M1 f ⟨y,g,G,H,e,rfl,T⟩;refine ga λF=>?_;refine D7 [0,1,2,3,4,5,106,7,8] [GG F y g G H] ?_;refine gg ?_;refine dq rfl (Au rfl rfl rfl rfl ((AG (f _ _ Z) rfl).cj _)) ?_;refine dq rfl (Au rfl rfl rfl rfl ((AG (f _ _ E) rfl).cj _)) ?_;refine gr ?_;refine⟨⟨y,g,G,H,_,e,rfl,?_⟩,rfl⟩;rw[if_neg b];rcases T with⟨D,j⟩|⟨D,q,j,m⟩
 ·obtain j:=Option.map_eq_none_iff.1 j;exact .no D (by rw[j];rfl)
 obtain⟨o,Y,rfl⟩:=Option.map_eq_some_iff.1 j;subst D;exact .yes (o.1,a+d.length) (by rw[Y];rfl) ⟨m.1,m.2.1,m.2.2.1,m.2.2.2,rfl⟩
theorem Uo(p:Po)(x:V5)(M:Mem)(h:PW M x p)(v i:Int)(N:u32 v)(a:Int)(d:List By)(Q:Value)(P:BS M Q d):SpecL prog 66 #[DH p x,Gs v i,.int .i64 a,Q] M [] λu M' L'=>PoR (Gk p v i a d) u M'/\L'=[]:=by
 obtain⟨ad,dc,rfl,Y,X⟩:=id P;refine sB func66 ntmps66 ?_;intro W;refine gA5 λL K J I b8=>?_;refine gc (Ny a d.length M) ?_;rintro _ M1 G ⟨l,T,S,e,rfl,V,E,O⟩;refine gA λs=>?_;refine gj (λk=>?_) λk=>?_
 ·refine gr ?_;exact⟨.no k (by unfold Gk;rw[O.err k];rfl),rfl⟩
 obtain⟨rfl,_,B,rfl⟩:=O.val k;have F:Gk p v i a d=HD p v i λ_=>if d=[]then some (p,0)else (l.foldl (Mx v i) (some (p,d))).map λo=>(o.1,a+d.length):=by unfold Gk;rw[B];rfl
 refine gh ?_;refine Az I (by simp) ?_;intro M2 D Z;refine Az L (by simp) ?_;intro M3 n e4;refine Az K (by simp) ?_;intro M4 j e5;refine Az s (by simp) ?_;intro M5 f H;refine Az J (by simp) ?_;intro M6 c e6;have m:=((((G.trans D).trans n).trans j).trans f).trans c;have C:=((((D).trans n).trans j).trans f).trans c;refine gc (G5 p x M6 (h.mono m) v i N _ [pB I,pB L,pB K,pB s,pB J] _ (by kernel_rfl) (λz R b _=>Up p x R (h.mono (m.trans b)) v i N l T S (E.mono (C.trans b)) d _ (P.mono (m.trans b)) a B z I L K s J (b _ _ (c _ _ (f _ _ (j _ _ (n _ _ Z))))) (b _ _ (c _ _ (f _ _ (j _ _ e4)))) (b _ _ (c _ _ (f _ _ e5))) (b _ _ (c _ _ H)) (b _ _ e6))) ?_;rintro u R b w;obtain⟨y,g,r1,n1,e,rfl,U⟩:=id w;refine gr ?_;exact⟨by rw[F];exact w,rfl⟩
theorem W6(p:Po)(x:V5)(M:Mem)(h:PW M x p)(v i:Int)(s:u32 v)(n:Int)(z:Ino)(F E D:Nat)
  (f:M F=some (cE [.int .i64 n] 3)) (C:M E=some (cE (Bo x p.gen p.root p.next) 32)) (B:M D=some (cE [.int .u32 v,.int .u32 i] 123)):
  SpecL prog 129 #[.agg (Sa z).toArray,pB F,pB E,pB D] M [] λu N O=>TuR (if z.size<=n then some (p,n)else (HY p v i n).bind λq=>(FR q v { z with size:=n }).map λr=>(r,0)) u N/\O=[]:=by
 refine sB func129 ntmps129 ?_;intro W;refine Mo λR Q=>?_;refine lq (Au rfl rfl rfl rfl ((AG f rfl).cj _)) ?_;refine gj (λb=>?_) λb=>?_
 ·refine gg ?_;refine D7 [0,1,102,3,4] [] ?_;refine dq rfl (A1 (cs:=Bo x p.gen p.root p.next) rfl rfl rfl rfl rfl (wXb C _)) ?_;refine dq rfl (Au rfl rfl rfl rfl ((AG f rfl).cj _)) ?_;refine gr ?_;exact⟨h.t (if_pos b),rfl⟩
 refine gg ?_;refine lq (A1 (cs:=Bo x p.gen p.root p.next) rfl rfl rfl rfl rfl (wXb C _)) ?_;refine lq (A1 (cs:=[.int .u32 v,.int .u32 i]) rfl rfl rfl rfl rfl (ldV B _)) ?_;refine lq (Au rfl rfl rfl rfl ((AG f rfl).cj _)) ?_;refine gc (SG p x M h v i s n) ?_;rintro _ L c ⟨y,g,r1,o,e,rfl,w⟩;refine gA λP=>?_;refine gj (λa=>?_) λa=>?_
 ·refine gr ?_;exact⟨TuR.no (y:=PP) (g:=0) (r1:=0) (n:=0) (m:=0) a (by rw[if_neg b,w.err a];rfl),rfl⟩
 obtain⟨rfl,q,I,J,rfl,rfl,rfl⟩:=w.val a;refine gg ?_;refine lq (Au rfl rfl rfl rfl ((AG (c _ _ f) rfl).cj _)) ?_;refine gh ?_;refine lq (Au rfl rfl rfl rfl ((AG (c _ _ B) rfl).cj _)) ?_;refine gc (Np q y L J v s { z with size:=n }) ?_;rintro _ S K ⟨G,g,r1,o,e,rfl,l⟩;refine gr ?_;refine⟨⟨G,g,r1,o,0,e,rfl,?_⟩,rfl⟩;rw[if_neg b,I,Option.bind_some];rcases l with⟨k,j⟩|⟨k,H,j,d⟩
 ·exact .no k (by rw[j];rfl)
 subst k;exact .yes (H,0) (by rw[j];rfl) ⟨d.1,d.2.1,d.2.2.1,d.2.2.2,rfl⟩
theorem W5(p:Po)(x:V5)(M:Mem)(h:PW M x p)(v i:Int)(s:u32 v)(n:Int):SpecL prog 68 #[DH p x,Gs v i,.int .i64 n] M [] λu G H=>PoR (Rb p v i n) u G/\H=[]:=by
 refine sB func68 ntmps68 ?_;intro W;refine gA4 λo m l K=>?_;refine gQ (Kw n M) ?_;by_cases j:Eo n;rotate_left
 ·rw [decide_eq_false j];refine gr ?_;exact⟨.no (by decide) (if_neg j),rfl⟩
 rw[decide_eq_true j];refine gg ?_;refine Az l (by simp) ?_;intro N k C;refine Az o (by simp) ?_;intro L f E;refine Az m (by simp) ?_;intro F b D;have d:=(k.trans f).trans b;refine gc (G5 p x F (h.mono d) v i s _ [pB l,pB o,pB m] _ (by kernel_rfl) (λz w a _=>W6 p x w (h.mono (d.trans a)) v i s n z l o m (a _ _ (b _ _ (f _ _ C))) (a _ _ (b _ _ E)) (a _ _ D))) ?_;rintro u w a c;obtain⟨y,g,I,J,e,rfl,B⟩:=id c;refine gr ?_;exact⟨by unfold Rb;rw[if_pos j];exact c,rfl⟩
theorem Zu(p:Po)(x:V5)(M:Mem)(h:PW M x p)(v i:Int)(E:u32 v)(a b:Int)(G: -1000000<=a/\b<=1000000)(z:Ino)(w s o n:Nat)
  (m:M w=some (cE [.int .i64 a] 3)) (l:M s=some (cE [.int .i64 b] 3)) (k:M o=some (cE (Bo x p.gen p.root p.next) 32)) (I:M n=some (cE [.int .u32 v,.int .u32 i] 123)):
  SpecL prog 132 #[.agg (Sa z).toArray,pB w,pB s,pB o,pB n] M [] λu J K=>TuR (if min b z.size<=a then some (p,0)else (SF p v i a (min b z.size)).map λr=>(r,0)) u J/\K=[]:=by
 refine sB func132 ntmps132 ?_;intro W;refine Mo λO N=>?_;refine lq (Au rfl rfl rfl rfl ((AG m rfl).cj _)) ?_;refine lq (Au rfl rfl rfl rfl ((AG l rfl).cj _)) ?_;refine gg ?_;refine lq (VY rfl rfl rfl rfl) ?_;refine gj (λc=>?_) λc=>?_
 ·refine gg ?_;refine lq (A1 (cs:=Bo x p.gen p.root p.next) rfl rfl rfl rfl rfl (wXb k _)) ?_;refine gr ?_;exact⟨h.t (if_pos c),rfl⟩
 refine gg ?_;refine lq (A1 (cs:=Bo x p.gen p.root p.next) rfl rfl rfl rfl rfl (wXb k _)) ?_;refine lq (A1 (cs:=[.int .u32 v,.int .u32 i]) rfl rfl rfl rfl rfl (ldV I _)) ?_;refine lq (Au rfl rfl rfl rfl ((AG m rfl).cj _)) ?_;refine lq (Au rfl rfl rfl rfl ((AG l rfl).cj _)) ?_;refine gg ?_;refine lq (VY rfl rfl rfl rfl) ?_;refine gc (wDi p x M h v i E a (min b z.size) (by omega)) ?_;rintro _ P H ⟨y,g,B,D,e,rfl,F⟩;refine ga λL=>?_;refine gr ?_;refine⟨⟨y,g,B,D,0,e,rfl,?_⟩,rfl⟩;rw[if_neg c];rcases F with⟨j,f⟩|⟨j,C,f,d⟩
 ·exact .no j (by rw[f];rfl)
 subst j;exact .yes (C,0) (by rw[f];rfl) ⟨d.1,d.2.1,d.2.2.1,d.2.2.2,rfl⟩
theorem Zt(p:Po)(x:V5)(M:Mem)(h:PW M x p)(v i:Int)(E:u32 v)(a b:Int):SpecL prog 69 #[DH p x,Gs v i,.int .i64 a,.int .i64 b] M [] λu O P=>PoR (Xc p v i a b) u O/\P=[]:=by
 refine sB func69 ntmps69 ?_;intro W;refine gA5 λD C B w S=>?_;refine gQ (Kw a M) ?_;by_cases o:Eo a;rotate_left
 ·rw [decide_eq_false o];refine gr ?_;exact⟨.no (by decide) (if_neg λk=>o k.1),rfl⟩
 rw[decide_eq_true o];refine gQ (Kw b M) ?_;by_cases n:Eo b;rotate_left
 ·rw [decide_eq_false n];refine gr ?_;exact⟨.no (by decide) (if_neg λk=>n k.2.1),rfl⟩
 rw[decide_eq_true n];refine gj (λH=>?_) λH=>?_
 ·refine gr ?_;exact⟨.no (by decide) (if_neg λk=>by omega),rfl⟩
 refine gg ?_;refine Az B (by simp) ?_;intro V s J;refine Az w (by simp) ?_;intro U m I;refine Az D (by simp) ?_;intro T f L;refine Az C (by simp) ?_;intro N d K;have l:=((s.trans m).trans f).trans d;refine gc (G5 p x N (h.mono l) v i E _ [pB B,pB w,pB D,pB C] _ (by kernel_rfl) (λz F c _=>Zu p x F (h.mono (l.trans c)) v i E a b (by unfold Eo at o n;omega) z B w D C (c _ _ (d _ _ (f _ _ (m _ _ J)))) (c _ _ (d _ _ (f _ _ I))) (c _ _ (d _ _ L)) (c _ _ K))) ?_;rintro u F c j;obtain⟨y,g,Q,R,e,rfl,G⟩:=id j;refine gr ?_;exact⟨by unfold Xc;rw[if_pos ⟨o,n,by omega⟩];exact j,rfl⟩
theorem PH(a b:Nat)(h:a<4294967296/\b<4294967296):ND .i64 (a:Int) (b:Int)=((a ||| b:Nat):Int):=by
 have c:a ||| b<2 ^ 32:=Nat.or_lt_two_pow (by omega) (by omega);have e:(BitVec.ofInt 64 (a:Int) ||| BitVec.ofInt 64 (b:Int)).toNat=a ||| b:=by
  rw[BitVec.toNat_or,BitVec.ofInt_natCast,BitVec.ofInt_natCast,BitVec.toNat_ofNat,BitVec.toNat_ofNat,Nat.mod_eq_of_lt (by omega),Nat.mod_eq_of_lt (by omega)]
 show IntKind.i64.wrap ((BitVec.ofInt 64 (a:Int) ||| BitVec.ofInt 64 (b:Int)).toNat:Int)=_;rw[e,IntKind.wrap_i64];omega
theorem wZa(a b c:Nat):((a ||| b) ||| c)%128=0↔a%128=0/\b%128=0/\c%128=0:=by
 have h:∀x y:Nat,(x ||| y)%128=0↔x%128=0/\y%128=0:=λx y=>by
  rw[show 128=2 ^ 7 from rfl,Nat.or_mod_two_pow];exact Nat.or_eq_zero_iff
 rw[h,h,and_assoc]
theorem Zp(p:Po)(x:V5)(M:Mem)(h:PW M x p)(f k v i:Int)(L:u32 v)(b a n:Int)(U:0<=b/\b<=4096)(V:0<=a/\a<=4096)(T:0<=n/\n<=4096)(z:Ino)(J I H G F E:Nat)
  (o:M J=some (cE [.int .i64 n] 3)) (D:M I=some (cE (Bo x p.gen p.root p.next) 32)) (Q:M H=some (cE [.int .u32 f,.int .u32 k] 123)) (P:M G=some (cE [.int .i64 b] 3)) (O:M F=some (cE [.int .u32 v,.int .u32 i] 123)) (C:M E=some (cE [.int .i64 a] 3)):
  SpecL prog 134 #[.agg (Sa z).toArray,pB J,pB I,pB H,pB G,pB F,pB E] M [] λu R S=>TuR (if n=0 then some (p,0)else (LD p f k (b / 128) v i (a / 128) (n / 128)).map λq=>(q,a+n)) u R/\S=[]:=by
 refine sB func134 ntmps134 ?_;intro W;refine Mo λY X=>?_;refine lq (Au rfl rfl rfl rfl ((AG o rfl).cj _)) ?_;refine gj (λc=>?_) λc=>?_
 ·refine gg ?_;refine lq (A1 (cs:=Bo x p.gen p.root p.next) rfl rfl rfl rfl rfl (wXb D _)) ?_;refine gr ?_;exact⟨h.t (if_pos c),rfl⟩
 refine gg ?_;refine lq (A1 (cs:=Bo x p.gen p.root p.next) rfl rfl rfl rfl rfl (wXb D _)) ?_;refine lq (A1 (cs:=[.int .u32 f,.int .u32 k]) rfl rfl rfl rfl rfl (ldV Q _)) ?_;refine lq (Au rfl rfl rfl rfl ((AG P rfl).cj _)) ?_;refine lq (wTp rfl rfl rfl rfl (by omega) (by omega) (by omega)) ?_;refine lq (A1 (cs:=[.int .u32 v,.int .u32 i]) rfl rfl rfl rfl rfl (ldV O _)) ?_;refine lq (Au rfl rfl rfl rfl ((AG C rfl).cj _)) ?_;refine lq (wTp rfl rfl rfl rfl (by omega) (by omega) (by omega)) ?_;refine lq (Au rfl rfl rfl rfl ((AG o rfl).cj _)) ?_;refine lq (wTp rfl rfl rfl rfl (by omega) (by omega) (by omega)) ?_;refine gc (Xm p x M h f k (b / 128) v i (a / 128) (n / 128) L (by omega) (by omega)) ?_;rintro _ Z d ⟨y,g,w,B,e,rfl,N⟩;refine ga λs=>?_;refine D7 [0,1,2,3,4,105,6,7] [GG s y g w B] ?_;refine gg ?_;refine dq rfl (Au rfl rfl rfl rfl ((AG (d _ _ C) rfl).cj _)) ?_;refine dq rfl (Au rfl rfl rfl rfl ((AG (d _ _ o) rfl).cj _)) ?_;refine gr ?_;refine⟨⟨y,g,w,B,_,e,rfl,?_⟩,rfl⟩;rw[if_neg c];rcases N with⟨m,l⟩|⟨m,K,l,j⟩
 ·exact .no m (by rw[l];rfl)
 subst m;exact .yes (K,a+n) (by rw[l];rfl) ⟨j.1,j.2.1,j.2.2.1,j.2.2.2,rfl⟩
theorem Zo(p:Po)(x:V5)(M:Mem)(h:PW M x p)(j l v i:Int)(hv:u32 v)(b a n:Int):SpecL prog 70 #[DH p x,Gs j l,.int .i64 b,Gs v i,.int .i64 a,.int .i64 n] M [] λu M' L'=>PoR (W7 p j l b v i a n) u M'/\L'=[]:=by
 refine sB func70 ntmps70 ?_;intro W;refine gA4 λb6 b7 b8 b9=>?_;refine Zh λs o ag=>?_;refine gQ (Kw b M) ?_;by_cases L:Eo b;rotate_left
 ·rw [decide_eq_false L];refine gr ?_;exact⟨.no (by decide) (if_neg λk=>L k.1),rfl⟩
 rw[decide_eq_true L];refine gQ (Kw a M) ?_;by_cases K:Eo a;rotate_left
 ·rw [decide_eq_false K];refine gr ?_;exact⟨.no (by decide) (if_neg λk=>K k.2.1),rfl⟩
 rw[decide_eq_true K];refine gQ (Kw n M) ?_;by_cases J:Eo n;rotate_left
 ·rw [decide_eq_false J];refine gr ?_;exact⟨.no (by decide) (if_neg λk=>J k.2.2.1),rfl⟩
 rw[decide_eq_true J];have ab:=L;have aa:=K;have Z:=J;unfold Eo at ab aa Z;refine gQ (Kw (b+n) M) ?_;by_cases P:Eo (b+n);rotate_left
 ·rw [decide_eq_false P];refine gr ?_;exact⟨.no (by decide) (if_neg λk=>P k.2.2.2.1),rfl⟩
 rw[decide_eq_true P];refine gQ (Kw (a+n) M) ?_;by_cases O:Eo (a+n);rotate_left
 ·rw [decide_eq_false O];refine gr ?_;exact⟨.no (by decide) (if_neg λk=>O k.2.2.2.2.1),rfl⟩
 rw[decide_eq_true O];obtain⟨bn,rfl⟩:∃k:Nat,b=k:=⟨b.toNat,by omega⟩;obtain⟨w,rfl⟩:∃k:Nat,a=k:=⟨a.toNat,by omega⟩;obtain⟨f,rfl⟩:∃k:Nat,n=k:=⟨n.toNat,by omega⟩;have C:(((bn ||| w) ||| f:Nat):Int)%128=0↔(bn:Int)%128=0/\(w:Int)%128=0/\(f:Int)%128=0:=by
  have:=wZa bn w f;omega
 refine gg ?_;refine lq (Bh (EW rfl rfl rfl rfl rfl) (by rw[PH _ _ (by omega)])) ?_;refine gg ?_;refine lq (Bh (EW rfl rfl rfl rfl rfl) (by rw[PH _ _ ⟨Nat.or_lt_two_pow (n:=32) (by omega) (by omega),by omega⟩])) ?_;refine lq (wYq rfl rfl rfl rfl (by omega) (by omega)) ?_;refine gj (λY=>?_) λY=>?_
 ·refine gr ?_;exact⟨.no (by decide) (if_neg λk=>Y (C.2 k.2.2.2.2.2)),rfl⟩
 have X:=C.1 (Classical.not_not.1 Y);have m:W7 p j l bn v i w f=(HK p j l).bind λ_=>HD p v i λ_=>if (f:Int)=0 then some (p,0)else (LD p j l (bn / 128) v i (w / 128) (f / 128)).map λq=>(q,(w:Int)+f):=if_pos ⟨L,K,J,P,O,X.1,X.2.1,X.2.2⟩
 refine gg ?_;refine gc (K6 p x M h j l) ?_;rintro _ M1 V ⟨z,e,rfl,N⟩;refine gA λaf=>?_;refine gj (λd=>?_) λd=>?_
 ·refine gr ?_;exact⟨.no d (by rw[m,N.err d];rfl),rfl⟩
 obtain⟨rfl,_,N,rfl⟩:=N.val d;rw[N,Option.bind_some]at m;refine gg ?_;refine Az o (by simp) ?_;intro M2 U ac;refine Az b6 (by simp) ?_;intro M3 T e6;refine Az b7 (by simp) ?_;intro M4 S e7;refine Az b8 (by simp) ?_;intro M5 R e8;refine Az b9 (by simp) ?_;intro M6 Q e9;refine Az s (by simp) ?_;intro M7 E ad;have F:=Q.trans E;have G:=R.trans F;have H:=S.trans G;have I:=T.trans H;have D:=V.trans (U.trans I);refine gc (G5 p x M7 (h.mono D) v i hv _ [pB o,pB b6,pB b7,pB b8,pB b9,pB s] _ (by kernel_rfl) (λz M8 c _=>Zp p x M8 (h.mono (D.trans c)) j l v i hv bn w f (by omega) (by omega) (by omega) z o b6 b7 b8 b9 s (c _ _ (I _ _ ac)) (c _ _ (H _ _ e6)) (c _ _ (G _ _ e7)) (c _ _ (F _ _ e8)) (c _ _ (E _ _ e9)) (c _ _ ad))) ?_;rintro u M8 c B;obtain⟨y,g,r1,n1,e,rfl,ae⟩:=id B;refine gr ?_;exact⟨by rw[m];exact B,rfl⟩
def StS(M:Mem)(u:Value)(f:Po->Option Po):Prop:=∃fid caps,u=.func (.func fid) #[] caps.toArray/\Dn prog fid=true/\∀(p:Po)(x:V5)(M1:Mem),MLe M M1->PW M1 x p->SpecL prog fid (DH p x::caps).toArray M1 [] λu M2 L2=>PoR (f p) u M2/\L2=[]
variable{M:Mem}{f:Po->Option Po}{u:Value}
theorem StS.mono{M':Mem}(h:StS M u f)(d:MLe M M'):StS M' u f:=by
 obtain⟨c,a,i,g,e⟩:=h;exact⟨c,a,i,g,λp x j b=>e p x j (d.trans b)⟩
def stS(a:Option Po)(f:Value×(Po->Option Po)):Option Po:=a.bind f.2
theorem EK(p:Po)(x:V5)(M:Mem)(h:PW M x p)(l:List (Value×(Po->Option Po)))(a:Option Addr)(c:Nat)(hs:SM M a (l.map (·.1)))(J:∀q∈l,StS M q.1 q.2)(Y:l.length<=1000):SpecL prog 119 #[DH p x,.slice a l.length c] M [] λu Q S=>PoR (l.foldl stS (some p)) u Q/\S=[]:=by
 refine sB func119 ntmps119 ?_;intro W;refine Mo λG F=>?_;refine CC (α:=Hld) (λz=>[(2,pB G),(4,pB F),(10,.slice a l.length c),(11,.int .i64 l.length),(12,.int .i64 z.k)]) (λz=>z.M) (λz=>[GG F PP 0 0 0,GG G z.y z.q.gen z.q.root z.q.next]) (λz=>z.k<=l.length/\(l.take z.k).foldl stS (some p)=some z.q/\PW z.M z.y z.q/\MLe M z.M) (λz=>l.length-z.k) ⟨0,p,x,M⟩ ⟨Nat.zero_le _,rfl,h,MLe.refl _⟩ ?_;rintro⟨k,q,y,O⟩ ⟨K,j,o,d⟩;try dsimp only at K j o d⊢
 refine gj (λC=>?_) λC=>?_
 ·have b:k<l.length:=by omega
  obtain⟨U,T,N,I⟩:=hs.open (by intro e;have:=congrArg length e;rw[List.length_map,length_nil]at this;omega);cases N;obtain⟨D,i,L,w,m⟩:=J l[k] (getElem_mem b);refine gg ?_;refine lq (Au rfl rfl rfl rfl (((I _ (.func (.func D) #[] i.toArray) (by rw[Nat.mul_one,<-L];simp[b])).mono d).cj _)) ?_;refine gh ?_;refine lh (BV (L2:=_) rfl rfl rfl rfl rfl w (m q y O d o)) ?_;rintro _ P _ ⟨B,R,rfl,⟨z,g,V,X,e,rfl,E⟩,rfl⟩;refine gA λZ=>?_;refine gj (λf=>?_) λf=>?_
  ·refine gr ?_;exact⟨.no f (Fj (λ_=>rfl) b (by rw[j];exact E.err f)),rfl⟩
  obtain⟨rfl,H,n,s,rfl,rfl,rfl⟩:=E.val f;refine gh ?_;refine BD ⟨k+1,H,z,P⟩ ⟨by show k+1<=_;omega,by rw[E4 b,j];exact n,s,d.trans B⟩
 refine gr ?_;exact⟨o.r (Hu (by omega) j),rfl⟩
theorem wFi(s:List By)(v:MN)(b:Nat)(M:Mem)(a:M b=some (cE [.string (AD s)] 9)):
  SpecL prog 187 #[.agg (H6 v).toArray,pB b] M [] λu _ _=>u=.bool (decide (v.1=s)):=by
 refine sB func187 ntmps187 ?_;intro W;refine gA λc=>?_;refine lq (Au rfl rfl rfl rfl (CM.cj ⟨_,_,_,a,rfl⟩ _)) ?_;refine gg ?_;refine lq (Pw rfl rfl rfl rfl) ?_;refine gr ?_;rfl
theorem Jj(p:Po)(x:V5)(M:Mem)(h:PW M x p)(v i:Int)(L:u32 i)(s:List By)(b:Bool):SpecL prog 117 #[DH p x,Gs v i,.string (AD s),.bool b] M [] λu M' S=>(∃e:Int,u=.int .i64 e/\(e=0↔Fe p v i s b=true))/\S=[]:=by
 refine sB func117 ntmps117 ?_;intro W;refine Zh λZ Y D=>?_;refine gc (Hx p x M h v i L) ?_;rintro _ R O ⟨l,sl,w,e,rfl,⟨T,G⟩,z⟩;obtain⟨a,c,a2,X,rfl,rfl,V,N,j,J,U,I,H⟩:=G;refine gj (λg=>?_) λg=>?_;rotate_left
 ·refine gu ?_;exact⟨⟨e,rfl,by rw[show Fe p v i s b=false by unfold Fe ML;rw[z.err g];rfl];simp[g]⟩,rfl⟩
 subst g;obtain⟨_,_,B,rfl⟩:=z.val (by simp);refine gQ (MI s R) ?_;refine gj (λf=>?_) λf=>?_
 ·refine gr ?_;exact⟨⟨_,rfl,by rw[show Fe p v i s b=false by unfold Fe ML;rw[B,Option.bind_some,if_neg f]];simp[f]⟩,rfl⟩
 have d:Fe p v i s b=((E5 l s).isNone&&(decide (l.length<32)||b)):=by unfold Fe ML;rw[B,Option.bind_some,if_pos (Classical.not_not.1 f)]
 have m:(E5 l s).isNone= !l.any λy=>decide (y.1=s):=by
  unfold E5;cases C:l.findIdx? (λy=>decide (y.1=s))with
  |none=>rw[List.any_eq_false.2 λx F=>by rw[List.findIdx?_eq_none_iff.1 C x F];decide];rfl
  |some k=>
   obtain⟨K,P,_⟩:=List.findIdx?_eq_some_iff_getElem.1 C
   rw[List.any_eq_true.2 ⟨l[k],getElem_mem K,P⟩];rfl
 rw[m]at d;refine gg ?_;refine Az D (by simp) ?_;intro E n Q;refine gQ (wFh l a c _ _ _ E (j.mono n) (by kernel_rfl) (λv=>wFi s v D E Q) (by omega)) ?_;generalize (l.any λy=>decide (y.1=s))=an at d⊢;cases an with
 |true=>
  refine gr ?_
  exact⟨⟨251,rfl,by rw[d];simp⟩,rfl⟩
 |false=>
  refine gj (λo=>?_) λo=>?_
  ·cases b with
   |false=>
    refine gr ?_
    exact⟨⟨4,rfl,by rw[d];simp;omega⟩,rfl⟩
   |true=>
    refine gr ?_
    exact⟨⟨0,rfl,by rw[d];simp⟩,rfl⟩
  refine gr ?_
  exact⟨⟨0,rfl,by rw[d];simp;omega⟩,rfl⟩
theorem Jn(p:Po)(x:V5)(M:Mem)(h:PW M x p)(v i:Int)(g:u32 i)(s:List By):SpecL prog 138 #[DH p x,Gs v i,.string (AD s)] M [] λu C l=>InR (Gv p v i s) u/\l=[]:=by
 refine sB func138 ntmps138 ?_;intro W;refine Zh λy w o=>?_;refine gc (RB p x M h v i g s) ?_;rintro _ k c ⟨n,e,rfl,d⟩;refine gj (λa=>?_) λa=>?_
 ·refine gr ?_;exact⟨⟨⟨0,false,0,0⟩,e,rfl,.no a (by unfold Gv;rw[d.err a];rfl)⟩,rfl⟩
 obtain⟨rfl,_,f,rfl⟩:=d.val a;refine gc (EG p x k (h.mono c) v n) ?_;rintro u B j b;obtain⟨z,e,rfl,m⟩:=id b;refine gr ?_;exact⟨by unfold Gv;rw[f];exact b,rfl⟩
theorem J4(v i:Int)(w:u32 v)(B:u32 i)(s:List By)(n:Int)(M:Mem):SpecL prog 120 #[Gs v i,.string (AD s),.int .u32 n] M [] λu F G=>StS F u (λp=>HC p v i s n)/\G=[]:=by
 refine sB func120 ntmps120 ?_;intro W;refine Zh λo m l=>?_;refine AF o (by simp) ?_;intro P D d;refine AF m (by simp) ?_;intro O f k;refine AF l (by simp) ?_;intro N c j;refine gr ?_;refine⟨⟨190,[pB o,pB m,pB l],rfl,by kernel_rfl,λp x E a h=>?_⟩,rfl⟩;have d:=a _ _ (c _ _ (f _ _ d));have k:=a _ _ (c _ _ k);have j:=a _ _ j;refine sB func190 ntmps190 ?_;intro W;refine Mo λK J=>?_;refine lq (Au rfl rfl rfl rfl ((AG d rfl).cj _)) ?_;refine gh ?_;refine lq (Au rfl rfl rfl rfl ((AG d rfl).cj _)) ?_;refine lq (Au rfl rfl rfl rfl ((AG k rfl).cj _)) ?_;refine lq (Au rfl rfl rfl rfl ((AG j rfl).cj _)) ?_;refine gc (wHp p x E h v i w B s n) ?_;rintro u L C b;obtain⟨y,g,H,I,e,rfl,z⟩:=id b;refine gr ?_;exact⟨b,rfl⟩
theorem FI(v i:Int)(l:u32 v)(n:u32 i)(s:List By)(M:Mem):SpecL prog 139 #[Gs v i,.string (AD s)] M [] λu B C=>StS B u (λp=>Ey p v i s)/\C=[]:=by
 refine sB func139 ntmps139 ?_;intro W;refine Mo λk j=>?_;refine AF k (by simp) ?_;intro J w c;refine AF j (by simp) ?_;intro I d f;refine gr ?_;refine⟨⟨209,[pB k,pB j],rfl,by kernel_rfl,λp x z b h=>?_⟩,rfl⟩;have c:=b _ _ (d _ _ c);have f:=b _ _ f;refine sB func209 ntmps209 ?_;intro W;refine Mo λG F=>?_;refine lq (Au rfl rfl rfl rfl ((AG c rfl).cj _)) ?_;refine gh ?_;refine lq (Au rfl rfl rfl rfl ((AG c rfl).cj _)) ?_;refine lq (Au rfl rfl rfl rfl ((AG f rfl).cj _)) ?_;refine gc (ZE p x z h v i l n s) ?_;rintro u H o a;obtain⟨y,g,D,E,e,rfl,m⟩:=id a;refine gr ?_;exact⟨a,rfl⟩
theorem Qt(v:Int)(c:u32 v)(z:Ino)(M:Mem):SpecL prog 137 #[.int .u32 v,.agg (Sa z).toArray] M [] λu w B=>StS w u (λp=>FR p v z)/\B=[]:=by
 refine sB func137 ntmps137 ?_;intro W;refine Mo λl k=>?_;refine AF l (by simp) ?_;intro I o i;refine AF k (by simp) ?_;intro H d f;refine gr ?_;refine⟨⟨208,[pB l,pB k],rfl,by kernel_rfl,λp x s b h=>?_⟩,rfl⟩;have i:=b _ _ (d _ _ i);have f:=b _ _ f;refine sB func208 ntmps208 ?_;intro W;refine Mo λF E=>?_;refine lq (Au rfl rfl rfl rfl ((AG i rfl).cj _)) ?_;refine lq (A1 (cs:=Sa z) rfl rfl rfl rfl rfl (λj u c=>(AG f (by rw[Nat.zero_add];exact c)).cj _)) ?_;refine gc (Np p x s h v c z) ?_;rintro u G n a;obtain⟨y,g,C,D,e,rfl,m⟩:=id a;refine gr ?_;exact⟨a,rfl⟩
theorem Qx(v i:Int)(l:u32 v)(M:Mem):SpecL prog 141 #[.int .u32 v,.int .u32 i] M [] λu w z=>StS w u (λp=>Ji p v i)/\z=[]:=by
 refine sB func141 ntmps141 ?_;intro W;refine Mo λk j=>?_;refine AF k (by simp) ?_;intro H o f;refine AF j (by simp) ?_;intro G c d;refine gr ?_;refine⟨⟨211,[pB k,pB j],rfl,by kernel_rfl,λp x s b h=>?_⟩,rfl⟩;have f:=b _ _ (c _ _ f);have d:=b _ _ d;refine sB func211 ntmps211 ?_;intro W;refine Mo λE D=>?_;refine lq (Au rfl rfl rfl rfl ((AG f rfl).cj _)) ?_;refine lq (Au rfl rfl rfl rfl ((AG d rfl).cj _)) ?_;refine gc (Za p x s h v i l) ?_;rintro u F n a;obtain⟨y,g,B,C,e,rfl,m⟩:=id a;refine gr ?_;exact⟨a,rfl⟩
theorem StS.form(h:StS M u f):∃b a,u=.func (.func b) #[] a:=by
 obtain⟨b,a,c,_⟩:=h;exact⟨b,_,c⟩
theorem YF(p:Po)(x:V5)(M:Mem)(h:PW M x p)(v i:Int)(P:u32 v)(S:u32 i)(s:List By)(d:Bool):SpecL prog 63 #[DH p x,Gs v i,.string (AD s),.bool d] M [] λu T U=>PoI (LL p v i s d) u T/\U=[]:=by
 refine sB func63 ntmps63 ?_;intro W;refine Zh λb4 b5 b8=>?_;refine gc (Jj p x M h v i S s false) ?_;rintro _ M1 I ⟨e,rfl,C⟩;refine gj (λj=>?_) λj=>?_
 ·refine gr ?_;exact⟨.no j (if_neg λk=>j (C.2 k)),rfl⟩
 have a:LL p v i s d=(Jh p v d).bind λq=>(HC q.1 v i s q.2).map λr=>(r,q.2):=if_pos (C.1 (Classical.not_not.1 j));refine gh ?_;refine gc (wGn p x M1 (h.mono I) v P d) ?_;rintro _ M2 aa ⟨y,g,L,O,m,e,rfl,Q⟩;refine gA λJ=>?_;refine gj (λf=>?_) λf=>?_
 ·refine gr ?_;exact⟨.no f (by rw[a,Q.err f];rfl),rfl⟩
 obtain⟨rfl,⟨q,mm⟩,hq,hp,rfl,rfl,rfl,rfl⟩:=Q.val f;rw[hq,Option.bind_some]at a;dsimp only at a;refine gg ?_;refine D7 [0,1,2,3,104,105,106,7,8,9,110,11] [GG J y q.gen q.root q.next,(b5,cE [.int .u32 v,.int .u32 i] 123)] ?_;refine gg ?_;refine dh rfl (hC (J4 v i P S s m M2)) ?_;rintro _ M3 _ ⟨D,R,rfl,o,rfl⟩;refine⟨D,by simp,?_⟩;obtain⟨E,l,rfl⟩:=o.form;refine dh rfl (HF.fz1 (K:=λw b X=>w=.slice (some ⟨b,0,none⟩) 1 1/\X=cE [.func (.func E) #[] l] 200) (HF.imp (Ab (cs:=[_]) rfl rfl rfl (by rfl) (by rfl) (by rfl)) λv T U ⟨b,h1,h2,h3⟩=>⟨b,_,⟨h1,rfl⟩,h2,h3⟩)) ?_;rintro _ M4 _ ⟨n,rfl,bs,_,⟨rfl,rfl⟩,es⟩;refine⟨n,by simp,?_⟩;refine dh rfl (hC (EK q y M4 (hp.mono (D.trans n)) [(.func (.func E) #[] l,λp=>HC p v i s m)] (some ⟨bs,0,none⟩) 1 (SM.of_block es) (λz hz=>by rw[List.mem_singleton.1 hz];exact o.mono n) (by simp))) ?_;rintro _ M5 _ ⟨H,R,rfl,⟨V,g,L,O,e,rfl,B⟩,rfl⟩;refine⟨H,by simp,?_⟩;refine gg ?_;refine gj (λc=>?_) λc=>?_
 ·refine gr ?_;exact⟨.no c (by rw[a,show HC q v i s m=none from B.err c];rfl),rfl⟩
 refine gr ?_;obtain⟨rfl,N,F,G,k1,Z,Y⟩:=B.val c;exact⟨⟨V,g,L,O,m,0,rfl,.yes (N,m) (by rw[a,show HC q v i s m=some N from F];rfl) ⟨G,k1,Z,Y,rfl⟩⟩,rfl⟩
variable{α:Type}{i:α}{Φ:α->Prop}
theorem par2'{j:α}(c:Φ i)(b:Φ j):∀k∈[i,j],Φ k:=λk a=>by
 rcases List.mem_cons.1 a with rfl|a
 ·exact c
 rw[List.mem_singleton.1 a];exact b
theorem par3'{j l:α}(d:Φ i)(c:Φ j)(b:Φ l):∀k∈[i,j,l],Φ k:=λk a=>by
 rcases List.mem_cons.1 a with rfl|a
 ·exact d
 exact par2' c b k a
variable{s:List By}{z:Ino}
theorem Rg{p:Po}{v i:Int}(h:Gv p v i s=some z):inoE z=0:=by
 unfold Gv at h;obtain⟨n,_,a⟩:=Option.bind_eq_some_iff.1 h;exact(L5 a).1
theorem YG(p:Po)(x:V5)(M:Mem)(h:PW M x p)(c y v i:Int)(L:u32 c)(hv:u32 v)(S:u32 i)(s:List By):SpecL prog 71 #[DH p x,Gs c y,Gs v i,.string (AD s)] M [] λu Y Z=>PoR (NX p c y v i s) u Y/\Z=[]:=by
 refine sB func71 ntmps71 ?_;intro W;refine gA4 λb4 b5 b6 b8=>?_;refine gc (EG p x M h c y) ?_;rintro _ M1 H ⟨z,e,rfl,C⟩;refine gA λP=>?_;refine gj (λj=>?_) λj=>?_
 ·refine gr ?_;exact⟨.no j (by unfold NX;rw[C.err j];rfl),rfl⟩
 obtain⟨rfl,_,C,rfl⟩:=C.val j;have B:=GR (L5 C).1;have a:NX p c y v i s=if z.dir=false/\Fe p v i s false/\c=v/\z.links<65535 then (HC p v i s z.id).bind λq=>FR q c { z with links:=z.links+1 } else none:=by unfold NX;rw[C];rfl
 obtain⟨z1,zd,J,I⟩:=z;cases zd with
 |true=>
  refine gr ?_
  exact⟨.no (by decide) (by rw[a,if_neg (by simp)]),rfl⟩
 |false=>
 refine gg ?_;refine lq (Au rfl rfl rfl rfl (CJ.loc rfl)) ?_;refine gh ?_;refine gc (Jj p x M1 (h.mono H) v i S s false) ?_;rintro _ M2 O ⟨e,rfl,F⟩;refine gj (λf=>?_) λf=>?_
 ·refine gr ?_;exact⟨.no f (by rw[a,if_neg λk=>f (F.2 k.2.1)]),rfl⟩
 refine gj (λo=>?_) λo=>?_
 ·refine gr ?_;exact⟨.no (by decide) (by rw[a,if_neg λk=>o k.2.2.1]),rfl⟩
 refine gj (λn=>?_) λn=>?_
 ·refine gr ?_;exact⟨.no (by decide) (by rw[a,if_neg λk=>by have:=k.2.2.2;dsimp only at this n;omega]),rfl⟩
 rw[if_pos ⟨rfl,F.1 (Classical.not_not.1 f),Classical.not_not.1 o,by dsimp only at n ⊢;omega⟩]at a;have Q:=B;dsimp only at a B;refine gg ?_;refine D7 [0,1,2,3,4,6,7,8,105,109,110,111,12,13,114,15] [GG b4 x p.gen p.root p.next,(b6,cE [.int .u32 v,.int .u32 i] 123),(b5,cE [.int .u32 c,.int .u32 y] 123),(P,cE [.int .u32 z1,.bool false,.int .i64 (J+1),.int .i64 I] 43)] ?_;refine gg ?_;refine dh rfl (hC (J4 v i hv S s z1 M2)) ?_;rintro _ M3 _ ⟨G,R,rfl,D,rfl⟩;refine⟨G,by simp,?_⟩;obtain⟨U,X,rfl⟩:=D.form;refine dh rfl (hC (Qt c L ⟨z1,false,J+1,I⟩ M3)) ?_;rintro _ M4 _ ⟨m,R,rfl,l,rfl⟩;refine⟨m,by simp,?_⟩;obtain⟨T,V,rfl⟩:=l.form;refine dh rfl (HF.fz1 (K:=λw b ob=>w=.slice (some ⟨b,0,none⟩) 2 2/\ob=cE [.func (.func U) #[] X,.func (.func T) #[] V] 200) (HF.imp (Ab (cs:=[_,_]) rfl rfl rfl (by rfl) (by rfl) (by rfl)) λv Y Z ⟨b,h1,h2,h3⟩=>⟨b,_,⟨h1,rfl⟩,h2,h3⟩)) ?_;rintro _ M5 _ ⟨d,rfl,bs,_,⟨rfl,rfl⟩,es⟩;refine⟨d,by simp,?_⟩;refine dh rfl (hC (EK p x M5 (h.mono ((((H.trans O).trans G).trans m).trans d)) [(.func (.func U) #[] X,λp=>HC p v i s z1),(.func (.func T) #[] V,λp=>FR p c ⟨z1,false,J+1,I⟩)] (some ⟨bs,0,none⟩) 2 (SM.of_block es) (par2' (D.mono (m.trans d)) (l.mono d)) (by simp))) ?_;rintro u M6 _ ⟨N,R,rfl,E,rfl⟩;refine⟨N,by simp,?_⟩;obtain⟨y2,g,r1,n1,e,rfl,aa⟩:=id E;refine gr ?_;exact⟨by rw[a];exact E,rfl⟩
theorem YA(v i j:Int)(l:u32 v)(k f:Nat)(z:Ino)(M:Mem)(d:M k=some (cE [.int .u32 v,.int .u32 i] 123))(c:M f=some (cE (Sa z) 43)):StS M (.func (.func 140) #[] #[pB k,pB f]) (λp=>HY p v z.id 0):=by
 refine⟨140,[pB k,pB f],rfl,by kernel_rfl,λp x o b h=>?_⟩;have d:=b _ _ d;have c:=b _ _ c;refine sB func140 ntmps140 ?_;intro W;refine Mo λC B=>?_;refine lq (Au rfl rfl rfl rfl ((AG d rfl).cj _)) ?_;refine gh ?_;refine lq (Au rfl rfl rfl rfl ((AG c rfl).cj _)) ?_;refine gc (SG p x o h v z.id l 0) ?_;rintro u D n a;obtain⟨y,g,s,w,e,rfl,m⟩:=id a;refine gr ?_;exact⟨a,rfl⟩
theorem wEy(p:Po)(x:V5)(M:Mem)(h:PW M x p)(v i:Int)(E:u32 v)(U:u32 i)(s:List By):SpecL prog 72 #[DH p x,Gs v i,.string (AD s)] M [] λu M' L'=>PoR (Sd p v i s) u M'/\L'=[]:=by
 refine sB func72 ntmps72 ?_;intro W;refine Zh λb3 O b6=>?_;refine gc (Jn p x M h v i U s) ?_;rintro _ M1 F ⟨z,e,rfl,D⟩;refine gA λN=>?_;refine gj (λm=>?_) λm=>?_
 ·refine gr ?_;exact⟨.no m (by unfold Sd;rw[D.err m];rfl),rfl⟩
 obtain⟨rfl,_,D,rfl⟩:=D.val m;have C:=GR (Rg D);have j:Sd p v i s=if z.dir then none else (Ey p v i s).bind λq=>if 1<z.links then FR q v { z with links:=z.links-1 } else (HY q v z.id 0).bind λr=>Ji r v z.id:=by unfold Sd;rw[D];rfl
 obtain⟨z1,zd,B,Q⟩:=z;cases zd with
 |true=>
  refine gr ?_
  exact⟨.no (by decide) (by rw[j,if_pos rfl]),rfl⟩
 |false=>
 rw[if_neg (by simp)]at j;have aa:=C;dsimp only at j C;refine gg ?_;refine lq (Au rfl rfl rfl rfl (CJ.loc rfl)) ?_;refine gj (λy=>?_) λy=>?_
 ·refine gg ?_;refine D7 [0,1,2,4,5,6,103,107,108,109,10,11,112,13] [GG b3 x p.gen p.root p.next,(O,cE [.int .u32 v,.int .u32 i] 123),(N,cE [.int .u32 z1,.bool false,.int .i64 (B-1),.int .i64 Q] 43)] ?_;refine gg ?_;refine dh rfl (hC (FI v i E U s M1)) ?_;rintro _ M3 _ ⟨f,R,rfl,k,rfl⟩;refine⟨f,by simp,?_⟩;obtain⟨H,L,rfl⟩:=k.form;refine dh rfl (hC (Qt v E ⟨z1,false,B-1,Q⟩ M3)) ?_;rintro _ M4 _ ⟨d,R,rfl,c,rfl⟩;refine⟨d,by simp,?_⟩;obtain⟨G,J,rfl⟩:=c.form;refine dh rfl (HF.fz1 (K:=λw b S=>w=.slice (some ⟨b,0,none⟩) 2 2/\S=cE [.func (.func H) #[] L,.func (.func G) #[] J] 200) (HF.imp (Ab (cs:=[_,_]) rfl rfl rfl (by rfl) (by rfl) (by rfl)) λv M' L' ⟨b,h1,Z,Y⟩=>⟨b,_,⟨h1,rfl⟩,Z,Y⟩)) ?_;rintro _ M5 _ ⟨a,rfl,bs,_,⟨rfl,rfl⟩,es⟩;refine⟨a,by simp,?_⟩;refine dh rfl (hC (EK p x M5 (h.mono (((F.trans f).trans d).trans a)) [(.func (.func H) #[] L,λp=>Ey p v i s),(.func (.func G) #[] J,λp=>FR p v ⟨z1,false,B-1,Q⟩)] (some ⟨bs,0,none⟩) 2 (SM.of_block es) (par2' (k.mono (d.trans a)) (c.mono a)) (by simp))) ?_;rintro u M6 _ ⟨o,R,rfl,l,rfl⟩;refine⟨o,by simp,?_⟩;obtain⟨y2,g,r1,n1,e,rfl,T⟩:=id l;refine gr ?_;exact⟨by rw[j];dsimp only at y;simp only[if_pos (show 1<B by omega)];exact l,rfl⟩
 refine gg ?_;refine BL O (by simp) ?_;intro M2 X I;refine BL N (by simp) ?_;intro P n e8;have I:=n _ _ I;have V:=YA v i 0 E O N ⟨z1,false,B,Q⟩ P I e8;refine D7 [0,1,2,4,5,6,7,8,103,109,110,111,12,13,114,15] [GG b3 x p.gen p.root p.next] ?_;refine gg ?_;refine dq rfl (A1 (cs:=[.int .u32 v,.int .u32 i]) rfl rfl rfl rfl rfl (ldV I _)) ?_;refine gg ?_;refine dq rfl (Au rfl rfl rfl rfl ((AG I rfl).cj _)) ?_;refine gg ?_;refine dq rfl (Au rfl rfl rfl rfl ((AG e8 rfl).cj _)) ?_;refine dh rfl (hC (FI v i E U s P)) ?_;rintro _ M3 _ ⟨f,R,rfl,k,rfl⟩;refine⟨f,by simp,?_⟩;obtain⟨H,L,rfl⟩:=k.form;refine dh rfl (hC (Qx v z1 E M3)) ?_;rintro _ M4 _ ⟨d,R,rfl,c,rfl⟩;refine⟨d,by simp,?_⟩;obtain⟨G,J,rfl⟩:=c.form;refine dh rfl (HF.fz1 (K:=λw b S=>w=.slice (some ⟨b,0,none⟩) 3 3/\S=cE [.func (.func H) #[] L,.func (.func 140) #[] #[pB O,pB N],.func (.func G) #[] J] 200) (HF.imp (Ab (cs:=[_,_,_]) rfl rfl rfl (by rfl) (by rfl) (by rfl)) λv M' L' ⟨b,h1,Z,Y⟩=>⟨b,_,⟨h1,rfl⟩,Z,Y⟩)) ?_;rintro _ M5 _ ⟨a,rfl,bs,_,⟨rfl,rfl⟩,es⟩;refine⟨a,by simp,?_⟩;refine dh rfl (hC (EK p x M5 (h.mono (((((F.trans X).trans n).trans f).trans d).trans a)) [(.func (.func H) #[] L,λp=>Ey p v i s),(.func (.func 140) #[] #[pB O,pB N],λp=>HY p v z1 0),(.func (.func G) #[] J,λp=>Ji p v z1)] (some ⟨bs,0,none⟩) 3 (SM.of_block es) (par3' (k.mono (d.trans a)) (V.mono ((f.trans d).trans a)) (c.mono a)) (by simp))) ?_;rintro u M6 _ ⟨o,R,rfl,l,rfl⟩;refine⟨o,by simp,?_⟩;obtain⟨y2,g,r1,n1,e,rfl,T⟩:=id l;refine gr ?_;exact⟨by rw[j];dsimp only at y;simp only[if_neg (show ¬1<B by omega)];rw[<-Option.bind_assoc];exact l,rfl⟩
theorem wFb(p:Po)(x:V5)(M:Mem)(h:PW M x p)(v i:Int)(I:u32 v)(L:u32 i)(s:List By):SpecL prog 74 #[DH p x,Gs v i,.string (AD s)] M [] λu S T=>PoR (VM p v i s) u S/\T=[]:=by
 refine sB func74 ntmps74 ?_;intro W;refine Zh λb3 b4 b6=>?_;refine gc (Jn p x M h v i L s) ?_;rintro _ M1 E ⟨z,e,rfl,y⟩;refine gA λb8=>?_;refine gj (λk=>?_) λk=>?_
 ·refine gr ?_;exact⟨.no k (by unfold VM;rw[y.err k];rfl),rfl⟩
 obtain⟨rfl,_,y,rfl⟩:=y.val k;have F:=GR (Rg y);have d:VM p v i s=if z.dir then (DT p v z.id).bind λl=>if l.1=[]then (Ey p v i s).bind λq=>Ji q v z.id else none else none:=by unfold VM;rw[y];rfl
 obtain⟨z1,zd,V,U⟩:=z;cases zd with
 |false=>
  refine gr ?_
  exact⟨.no (by decide) (by rw[d,if_neg (by simp)]),rfl⟩
 |true=>
 rw[if_pos rfl]at d;dsimp only at d F;refine gg ?_;refine lq (Au rfl rfl rfl rfl (CJ.loc rfl)) ?_;refine gh ?_;refine gc (Hx p x M1 (h.mono E) v z1 (by unfold u32;omega)) ?_;rintro _ M2 H ⟨l,sl,w,e,rfl,⟨w2,Y⟩,J⟩;obtain⟨a,c,a2,c2,rfl,rfl,hc,ae,ac,ab,hl,aa,Z⟩:=Y;refine gj (λj=>?_) λj=>?_
 ·refine gr ?_;exact⟨.no j (by rw[d,J.err j];rfl),rfl⟩
 obtain⟨rfl,_,hn,rfl⟩:=J.val j;rw[hn,Option.bind_some]at d;refine gj (λo=>?_) λo=>?_
 ·refine gr ?_;exact⟨.no (by decide) (by rw[d,if_neg (by intro e;dsimp only at e;rw[e]at o;simp at o)]),rfl⟩
 rw[if_pos (List.length_eq_zero_iff.1 (show l.length=0 by omega))]at d;refine gg ?_;refine D7 [0,1,2,4,5,6,7,103,108,109,110,11,12,113,14] [GG b3 x p.gen p.root p.next,(b4,cE [.int .u32 v,.int .u32 i] 123),(b8,cE [.int .u32 z1,.bool true,.int .i64 V,.int .i64 U] 43)] ?_;refine gg ?_;refine dh rfl (hC (FI v i I L s M2)) ?_;rintro _ M3 _ ⟨D,R,rfl,B,rfl⟩;refine⟨D,by simp,?_⟩;obtain⟨O,Q,rfl⟩:=B.form;refine dh rfl (hC (Qx v z1 I M3)) ?_;rintro _ M4 _ ⟨n,R,rfl,m,rfl⟩;refine⟨n,by simp,?_⟩;obtain⟨N,P,rfl⟩:=m.form;refine dh rfl (HF.fz1 (K:=λw b X=>w=.slice (some ⟨b,0,none⟩) 2 2/\X=cE [.func (.func O) #[] Q,.func (.func N) #[] P] 200) (HF.imp (Ab (cs:=[_,_]) rfl rfl rfl (by rfl) (by rfl) (by rfl)) λv S T ⟨b,h1,h2,h3⟩=>⟨b,_,⟨h1,rfl⟩,h2,h3⟩)) ?_;rintro _ M5 _ ⟨f,rfl,bs,_,⟨rfl,rfl⟩,es⟩;refine⟨f,by simp,?_⟩;refine dh rfl (hC (EK p x M5 (h.mono ((((E.trans H).trans D).trans n).trans f)) [(.func (.func O) #[] Q,λp=>Ey p v i s),(.func (.func N) #[] P,λp=>Ji p v z1)] (some ⟨bs,0,none⟩) 2 (SM.of_block es) (par2' (B.mono (n.trans f)) (m.mono f)) (by simp))) ?_;rintro u M6 _ ⟨G,R,rfl,C,rfl⟩;refine⟨G,by simp,?_⟩;obtain⟨y2,g,r1,n1,e,rfl,ad⟩:=id C;refine gr ?_;exact⟨by rw[d];exact C,rfl⟩
end Go.Proofs.YtjheijhahehnmaaGreatDoor
