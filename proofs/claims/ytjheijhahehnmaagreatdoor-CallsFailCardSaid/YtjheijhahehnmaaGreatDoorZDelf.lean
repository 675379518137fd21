/- An item taken out on a bench, as plain functions. No statement of the seat is proved here. -/
import Derived.Test.YtjheijhahehnmaaGreatDoorZPlw
import Derived.Test.YtjheijhahehnmaaGreatDoorZHn
import Derived.Test.YtjheijhahehnmaaGreatDoorZShp
namespace Go.Proofs.YtjheijhahehnmaaGreatDoor
open Go.Proofs.Tryz
open List (length_nil length getD map_cons sum_cons map_append)
set_option linter.unusedSimpArgs false
set_option linter.unusedVariables false
set_option linter.unusedSectionVars false
set_option maxHeartbeats 40000000
set_option maxRecDepth 8000
open Go.RowKit
variable{l:Nat}{s:Sto}{xs:List It}
theorem FB(h:A3 s l xs):Srt (Ax s l xs):=(X1 h).srt
def ZL(s:Sto)(lv:Int)(xs:List It):Int:=if Av s then KS s lv xs else 8
def DmPost(s:Sto)(lv:Int)(xs:List It)(u:Value)(M':Mem):Prop:=(ZL s lv xs≠0/\u=.tuple #[.agg zeroSt.toArray,.int .i64 0,.int .i64 (ZL s lv xs)])\/(ZL s lv xs=0/\∃v,u=.tuple #[v,.int .i64 (BH (Am s xs)),.int .i64 0]/\ST M' v (EM s lv xs)/\Av (EM s lv xs))
theorem wHo(s:Sto)(F S D:Value)(j:Option Addr)(C:Nat)(lv:Int)(xs:List It)(a:Option Addr)(c:Nat)(ps:List (It×Value))(M:Mem)(h1:LS M F s.blocks)(b:List (Wt×Value))(H:s.waits.length<=C)(G:SM M j (b.flatMap AZ))(n:b.map (·.1)=s.waits)(I:∀p∈b,BS M p.2 p.1.2)(h3:BS M S s.now)(h4:BS M D s.last)(hc:xs.length<=c)(hs:SM M a (ps.flatMap Ae))(E:ps.map (·.1)=xs)(hb:∀p∈ps,BS M p.2 p.1.val)(ab:∀x∈xs,0<=x.key.kind/\x.key.kind<256):
  SpecL prog 22 #[.agg #[F,.slice j s.waits.length C,S,D],.agg #[.int .i64 lv,.slice a xs.length c]] M [] λu M' L'=>DmPost s lv xs u M'/\L'=[]:=by
 have ad:WS M (.slice j s.waits.length C) s.waits:=⟨j,C,b,rfl,H,G,n,I⟩;have ae:ST M (.agg #[F,.slice j s.waits.length C,S,D]) s:=⟨_,_,_,_,rfl,h1,ad,h3,h4⟩;have aa:NS M (.slice a xs.length c) xs:=⟨a,c,ps,rfl,hc,hs,E,hb⟩;refine sB func22 ntmps22 ?_;intro W;refine W4 λb2 b3 b4=>?_;refine gQ (CK s _ M ae) ?_;refine gj (λg=>?_) λg=>?_
 ·refine gr ?_;have h:ZL s lv xs=8:=if_neg λk=>g (by unfold DJ;rw[if_pos k]);have hk:DJ s=8:=by unfold DJ;rw[if_neg λk=>g (by unfold DJ;rw[if_pos k])]
  refine⟨.inl ⟨by rw[h];decide,?_⟩,rfl⟩;rw[h,<-hk];rfl
 refine gQ (Gd lv xs _ M aa) ?_;refine gj (λR=>?_) λR=>?_
 ·refine gr ?_;have d:Av s:=Classical.byContradiction λk=>g (by unfold DJ;rw[if_neg k];decide);have L:¬CD lv xs=true:=λk=>R (if_pos k);have h:ZL s lv xs=8:=by unfold ZL;rw[if_pos d];unfold KS;rw[if_neg L]
  have hk:C0 lv xs=8:=if_neg L;refine⟨.inl ⟨by rw[h];decide,?_⟩,rfl⟩;rw[h,<-hk];rfl
 refine gh ?_;have d:Av s:=Classical.byContradiction λk=>g (by unfold DJ;rw[if_neg k];decide);obtain⟨ac,⟨o,_⟩,⟨y,_⟩⟩:=id d;have J:s.waits.length<=4096:=ac.2.1;refine gC (Nf s F S D j C M H (by omega) h3 (by omega)) ?_;rintro _ M1 _ f ⟨T,Rn,na,nc,rfl,rfl,K⟩;have af:BOwn M1 T ((T,cE [F,.slice j s.waits.length s.waits.length,.slice na s.now.length nc,D] Ew)::Rn) s:=by
  refine⟨F,_,na,nc,D,[],Rn,rfl,h1.mono f,h4.mono f,K,b,n,λp E=>(I p E).mono f,?_⟩;have O:(b.flatMap AZ).length=s.waits.length*2:=by rw[Aj AZ 2 BX,<-n,List.length_map]
  rcases G with h0|⟨wb,wo,rfl,Y⟩
  ·have hz:s.waits.length=0:=by rw[h0,length_nil]at O;omega
   rw[h0,hz];cases j with
   |none=>exact .inl (Own.nil _ _)
   |some ba=>exact .inr ⟨rfl,rfl,ba,rfl,.inl rfl,λi u Z=>by cases Z⟩
  exact .inr ⟨rfl,O,_,rfl,.inr rfl,λi u Z=>(Y i u Z).mono f⟩
 refine gC (NC s lv xs a c ps M1 hc (hs.mono f) E (λp E=>(hb p E).mono f) ab T _ af o y J) ?_;rintro _ M2 R2 aw ⟨az,e,rfl,he,Q⟩;refine gj (λB=>?_) λB=>?_
 ·refine gr ?_;have h:ZL s lv xs=e:=by unfold ZL;rw[if_pos d];exact he.symm
  exact⟨.inl ⟨by rw[h];exact B,by rw[h];rfl⟩,rfl⟩
 refine gh ?_;have z:e=0:=Classical.not_not.1 B;have m:KS s lv xs=0:=he.symm.trans z;have w:=Hh m J;have N:=Jc d w.1 w.2.2.1 w.2.2.2;obtain⟨P,⟨ap,_⟩,⟨aq,_⟩⟩:=id N;refine LV (Q z).2 (by simp) ?_;intro M3 X U V Gs av e3 k1 k2 k3 k4;refine gc (D5 (EM s lv xs) T X U V Gs M3 e3 k1 k2 k3 k4 P (by omega) (by omega)) ?_;rintro _ M4 au l;obtain⟨q1,q2,q3,q4,rfl,f1,f2,f3,f4⟩:=l.ex;obtain⟨ay,ax,ah,rfl,_⟩:=id f1;obtain⟨aj,ai,ag,rfl,_⟩:=id f2;obtain⟨al,ak,rfl,_⟩:=id f3;obtain⟨ao,am,rfl,_⟩:=id f4;refine gr ?_;have h:ZL s lv xs=0:=by unfold ZL;rw[if_pos d];exact m
 exact⟨.inr ⟨h,_,by rw[<-(Q z).1];rfl,l,N⟩,rfl⟩
variable{M':Mem}{lv:Int}{s:Sto}{u:Value}{xs:List It}
theorem DmPost.form(h:DmPost s lv xs u M'):∃B bn z j g i l b k o m n a e,u=.tuple #[.agg #[.slice B bn z,.slice j g i,.slice l b k,.slice o m n],.int .i64 a,.int .i64 e]/\
  ((e≠0/\e=ZL s lv xs/\a=0/\b=0)\/(e=0/\ZL s lv xs=0/\a=(BH (Am s xs):Int)/\b=(EM s lv xs).now.length/\ST M' (.agg #[.slice B bn z,.slice j g i,.slice l b k,.slice o m n]) (EM s lv xs)/\Av (EM s lv xs))):=by
 rcases h with⟨d,c⟩|⟨d,v,c,w,I⟩
 ·exact ⟨none,0,0,none,0,0,none,0,0,none,0,0,0,_,c,.inl ⟨d,rfl,rfl,rfl⟩⟩
 obtain⟨S,R,Q,P,rfl,M,L,K,J⟩:=w.ex;obtain⟨O,N,y,rfl,_⟩:=id M;obtain⟨D,C,f,rfl,_⟩:=id L;obtain⟨F,E,rfl,_⟩:=id K;obtain⟨H,G,rfl,_⟩:=id J;exact⟨_,_,_,_,_,_,_,_,_,_,_,_,_,0,c,.inr ⟨rfl,d,rfl,rfl,w,I⟩⟩
theorem RA(s:Sto)(v sl:Value)(lv:Int)(xs:List It)(M:Mem)(o:ST M v s)(B:NS M sl xs)(i:∀x∈xs,0<=x.key.kind/\x.key.kind<256):
  SpecL prog 22 #[v,.agg #[.int .i64 lv,sl]] M [] λu M' H=>DmPost s lv xs u M'/\H=[]:=by
 obtain⟨b,w,n,l,rfl,G,⟨k,j,d,rfl,g,e,f,h⟩,F,E⟩:=o.ex;obtain⟨a,c,m,rfl,C,y,z,D⟩:=B;exact wHo s b n l k j lv xs a c m M G d g e f h F E C y z D i
theorem H1(s:Sto)(v a:Value)(root:Int)(x:It)(M:Mem)(k:ST M v s)(j:BS M a x.val)(hk:Bj x.key):
  SpecL prog 172 #[v,.int .i64 root,.agg #[.int .u8 x.key.kind,.int .u32 x.key.id,.int .u32 x.key.off,.int .i64 x.ref,a]] M [] λu M' z=>PtPost (H2 s root x) u M'/\z=[]:=by
 obtain⟨b,w,n,l,rfl,y,⟨i,h,c,rfl,f,d,e,g⟩,o,m⟩:=k.ex;exact wLj s root x a b n l i h c M y f d e g o m j hk
theorem wEs(s:Sto)(g b c d:Value)(M:Mem)(f:ST M (.agg #[g,b,c,d]) s):
  SpecL prog 14 #[.agg #[g,b,c,d]] M [] λu M' l=>DmPost s 0 [] u M'/\l=[]:=by
 refine sB func14 ntmps14 ?_;intro W;refine gh ?_;refine lh (Bt (cs:=[g,b,c,d]) rfl rfl rfl rfl) ?_;rintro _ _ _ ⟨H,rfl,rfl,rfl⟩;refine lh (AX rfl rfl) ?_;rintro _ _ _ ⟨G,rfl,rfl,rfl⟩;iterate 2 refine jp rfl ?_
 refine Ai (jT (Ah (Af ?_)));refine lq (HO rfl rfl rfl rfl rfl) ?_;refine lq (Bh (BF (cs:=[_,_]) rfl rfl rfl (by rfl)) (v':=.agg #[.int .i64 0,.slice none 0 0]) rfl) ?_;refine gc (RA s _ _ 0 [] M f NS.nil (λx h=>by cases h)) ?_;rintro _ I j a;obtain⟨F,bn,E,o,m,n,z,w,y,D,B,C,k,e,rfl,i⟩:=a.form;refine gr ?_;exact⟨a,rfl⟩
variable{M:Mem}{b:Nat}{e:TypeId}{g:Nat×Nat}{xs:List Value}
theorem AG{off:Nat}{v:Value}(h:M b=some (.cells xs.toArray e g))(a:xs[off]? =some v):CM M b off v:=⟨_,_,_,h,by rw[List.getElem?_toArray];exact a⟩
theorem PT5.st{x:V5}{p:Po}(h:PT5 M x p):ST M (.agg #[x.b.v,x.w.v,x.n.v,x.l.v]) p.st:=⟨_,_,_,_,rfl,h.b,h.w,h.n,h.l⟩
variable{s:Sto}
theorem ST.four{v:Value}(h:ST M v s):∃a b c d:Sl,v=.agg #[a.v,b.v,c.v,d.v]/\LS M a.v s.blocks/\WS M b.v s.waits/\BS M c.v s.now/\BS M d.v s.last:=by
 obtain⟨a,b,c,d,rfl,i,g,f,e⟩:=h.ex;obtain⟨a,rfl⟩:=i.sl;obtain⟨b,rfl⟩:=g.sl;obtain⟨c,rfl⟩:=f.sl;obtain⟨d,rfl⟩:=e.sl;exact⟨a,b,c,d,rfl,i,g,f,e⟩
theorem halves{t:List By}(h:t.length=256):wCu t 0++wCu t 1=t:=by
 unfold wCu;rw[show 128*0=0 from rfl,List.drop_zero,List.take_of_length_le (l:=t.drop (128*1)) (by rw[List.length_drop];omega)];exact List.take_append_drop 128 t
def VS(M:Mem)(s:Sl)(vs:List Vo):Prop:=s.n=vs.length/\vs.length<=s.c/\SM M s.a (vs.flatMap DA)
def VlP(p:Po)(u:Value)(M':Mem):Prop:=∃(s:Sl),u=.tuple #[s.v,.int .i64 (AN p)]/\∀vs refs nodes,Cc p.st p.root p.next p.dead=some (vs,refs,nodes)->VS M' s vs
theorem wPt(p:Po)(x:V5)(M:Mem)(h:PT5 M x p)(c:p.dead.length<=1000000)(b:Cc p.st p.root p.next p.dead=none):
  SpecL prog 101 #[.agg (Bo x p.gen p.root p.next).toArray] M [] λu M' e=>VlP p u M'/\e=[]:=by
 refine sB func101 ntmps101 ?_;intro W;refine ga λf=>?_;refine gc (Cz p _ M h.pt c) ?_;rintro _ g d a;unfold TakeP at a;rw[b]at a;subst a;refine gu ?_;exact⟨⟨⟨none,0,0⟩,by unfold AN;rw[b];rfl,λvs refs nodes h=>by rw[b]at h;cases h⟩,rfl⟩
theorem wHb(p:Po)(x:V5)(M:Mem)(h:PT5 M x p)(o:p.dead.length<=1000000)(vs:List Vo)(b nodes:List Int)(k:Cc p.st p.root p.next p.dead=some (vs,b,nodes)):
  SpecL prog 101 #[.agg (Bo x p.gen p.root p.next).toArray] M [] λu M' w=>VlP p u M'/\w=[]:=by
 refine sB func101 ntmps101 ?_;intro W;refine ga λG=>?_;refine gc (Cz p _ M h.pt o) ?_;rintro _ H s a;unfold TakeP at a;rw[k]at a;obtain⟨F,E,y,B,D,z,C,n,m,rfl,j,i,g,f,c⟩:=a;refine gt ?_;refine lq (Au rfl rfl rfl rfl ((AG j (Gn f c)).cj _)) ?_;refine gr ?_;exact⟨⟨⟨n,vs.length,m⟩,by unfold AN;rw[k],λl e d h=>by rw[k]at h;cases h;exact⟨rfl,i,g⟩⟩,rfl⟩
theorem Q7(p:Po)(x:V5)(M:Mem)(h:PT5 M x p)(a:p.dead.length<=1000000):SpecL prog 101 #[.agg (Bo x p.gen p.root p.next).toArray] M [] λu M' d=>VlP p u M'/\d=[]:=by
 cases b:Cc p.st p.root p.next p.dead with
 |none=>exact wPt p x M h a b
 |some c=>obtain⟨vs,refs,nodes⟩:=c;exact wHb p x M h a vs refs nodes b
theorem Pr(v:Vo):(DA v).length=4:=rfl
def WO(q:Int)(vs:List Vo):Bool:=vs.any λv=>decide (v.id=q)
def KD(vs:List Vo)(q:Int):Option Vo:=vs.find? λv=>decide (v.id=q)
def VixP(vs:List Vo)(q i:Int):Prop:=(i= -1/\KD vs q=none/\WO q vs=false)\/∃k:Nat,i=k/\∃h:k<vs.length,KD vs q=some vs[k]/\WO q vs=true
theorem TM:∀{vs:List Vo}{q:Int},(∀v∈vs,v.id≠q)->KD vs q=none/\WO q vs=false
 |[],_,_=>⟨rfl,rfl⟩
 |v::vs,q,h=>by
  have c:=h v (by simp);obtain⟨a,b⟩:=TM (vs:=vs) (q:=q) λw d=>h w (by simp[d]);unfold KD WO at *;rw[List.find?_cons_of_neg (by simpa using c),List.any_cons,decide_eq_false c];exact⟨a,b⟩
variable{k:Nat}{vs:List Vo}
theorem wSm{q:Int}(hk:k<vs.length)(h:vs[k].id=q)(l:∀j (d:j<vs.length),j<k->vs[j].id≠q):KD vs q=some vs[k]/\WO q vs=true:=by
 have e:vs=vs.take k++vs[k]::vs.drop (k+1):=by rw[<-List.drop_eq_getElem_cons hk,List.take_append_drop]
 obtain⟨a,b⟩:=TM (vs:=vs.take k) (q:=q) λw f=>by
  obtain⟨j,d,c,rfl⟩:∃j,∃d:j<vs.length,j<k/\vs[j]=w:=by
   obtain⟨i,g,e⟩:=List.getElem_of_mem f;rw[List.length_take]at g;exact⟨i,by omega,by omega,by rw[<-e,List.getElem_take]⟩
  exact l j d c
 unfold KD WO at *;refine⟨?_,List.any_eq_true.2 ⟨vs[k],List.getElem_mem hk,decide_eq_true h⟩⟩;conv=>lhs;rw[e]
 rw[List.find?_append,a,List.find?_cons_of_pos (by simpa using h)];rfl
theorem Vk(vs:List Vo)(a:Option Addr)(c:Nat)(b:FuncId)(g:Value)(q:Int)(M:Mem)(hs:SM M a (vs.flatMap DA))(hgo:Dn prog b=true)(B:∀v:Vo,SpecL prog b #[.agg (DA v).toArray,g] M [] λu _ _=>u=.bool (decide (v.id=q)))(I:vs.length<=1000):
  SpecL prog 182 #[.slice a vs.length c,.func (.func b) #[] #[g]] M [] λv _ _=>∃i:Int,v=.int .i64 i/\VixP vs q i:=by
 refine sB func182 ntmps182 ?_;intro W;refine gh ?_;refine CC (α:=Nat) (λk=>[(0,.slice a vs.length c),(1,.func (.func b) #[] #[g]),(7,.int .i64 vs.length),(8,.int .i64 k)]) (λ_=>M) (λ_=>[]) (λk=>k<=vs.length/\∀j (l:j<vs.length),j<k->vs[j].id≠q) (λk=>vs.length-k) 0 ⟨Nat.zero_le _,λ_ _ h=>absurd h (Nat.not_lt_zero _)⟩ ?_;rintro k ⟨y,m⟩;try dsimp only at y m⊢
 refine gj (λC=>?_) λC=>?_
 ·refine gh ?_;have d:k<vs.length:=by omega
  obtain⟨H,G,F,w⟩:=hs.open (by intro e;have:=congrArg length e;rw[Aj DA 4 Pr,length_nil]at this;omega);cases F;have s:=Bs DA 4 Pr w (List.getElem?_eq_getElem d);refine gh ?_;refine lq (A1 (cs:=DA vs[k]) rfl rfl rfl rfl rfl (λi v n=>(s i v n).cj _)) ?_;refine BP rfl rfl (CZ rfl rfl rfl rfl rfl hgo (B vs[k])) (λf=>?_) (λf=>?_)
  ·refine gr ?_;exact⟨(k:Int),rfl,.inr ⟨k,rfl,d,wSm d (of_decide_eq_true f) m⟩⟩
  refine gh ?_;refine Hp (k+1) (Keep.cons (t:=0) rfl (Keep.cons (t:=1) rfl (Keep.cons (t:=7) rfl (Keep.cons (t:=8) rfl Keep.nil)))) ⟨by show k+1<=vs.length;omega,λj l z=>by
   by_cases e:j=k
   ·subst e;exact of_decide_eq_false f
   exact m j l (by omega)⟩ (by show vs.length-(k+1)<vs.length-k;omega) (λ_ h=>h)
 refine gr ?_;have o:k=vs.length:=by omega
 subst o;obtain⟨E,D⟩:=TM (vs:=vs) (q:=q) λv n=>by obtain⟨j,l,rfl⟩:=List.getElem_of_mem n;exact m j l l
 exact⟨-1,rfl,.inl ⟨rfl,E,D⟩⟩
theorem wDc(vs:List Vo)(a:Option Addr)(c:Nat)(b:FuncId)(d:Value)(q:Int)(M:Mem)(hs:SM M a (vs.flatMap DA))(hgo:Dn prog b=true)(h:∀v:Vo,SpecL prog b #[.agg (DA v).toArray,d] M [] λu _ _=>u=.bool (decide (v.id=q)))(f:vs.length<=1000):
  SpecL prog 254 #[.slice a vs.length c,.func (.func b) #[] #[d]] M [] λv _ _=>v=.bool (WO q vs):=by
 refine sB func254 ntmps254 ?_;intro W;refine gC (Vk vs a c b d q M hs hgo h f) ?_;rintro _ m _ j ⟨i,rfl,g⟩;refine gr ?_;refine congrArg _ ?_;rcases g with⟨l,_,e⟩|⟨k,l,_,_,e⟩
 ·rw [e];exact decide_eq_false (by omega)
 rw[e];exact decide_eq_true (by omega)
theorem wCy(v:Vo)(q:Int)(b:Nat)(M:Mem)(a:M b=some (cE [.int .u32 q] 29)):
  SpecL prog 183 #[.agg (DA v).toArray,pB b] M [] λu _ _=>u=.bool (decide (v.id=q)):=by
 refine sB func183 ntmps183 ?_;intro W;refine ga λc=>?_;refine lq (Au rfl rfl rfl rfl (CM.cj ⟨_,_,_,a,rfl⟩ _)) ?_;refine gr ?_;rfl
theorem wJg(w:Vo)(v:Vo)(b:Nat)(M:Mem)(a:M b=some (cE (DA w) 98)):
  SpecL prog 255 #[.agg (DA v).toArray,pB b] M [] λu _ _=>u=.bool (decide (v.id=w.id)):=by
 refine sB func255 ntmps255 ?_;intro W;refine ga λc=>?_;refine lq (Au rfl rfl rfl rfl (CM.cj ⟨_,_,_,a,rfl⟩ _)) ?_;refine gr ?_;rfl
variable{f:It->List Vo->Option (List Vo)}
theorem PN:∀{xs c:List It}{b:List Vo},A0 f (xs++c) b=(A0 f xs b).bind λa=>A0 f c a
 |[],c,b=>rfl
 |x::xs,c,b=>by
  rw[List.cons_append,A0,A0];cases f x b with
  |none=>rfl
  |some a=>exact PN
variable{gf:It->List Vo->Option (List Vo)}
theorem NG{k:It->List It}:∀{xs:List It}{b:List Vo},(∀x b,gf x b=A0 f (k x) b)->A0 gf xs b=A0 f (xs.flatMap k) b
 |[],b,_=>rfl
 |x::xs,b,h=>by
  rw[A0,List.flatMap_cons,PN,h];cases A0 f (k x) b with
  |none=>rfl
  |some a=>exact NG h
variable{s:Sto}
theorem JJ{next:Int}:∀(l:Nat){xs:List It}{a:List Vo},C6 s next l xs a=A0 (MU next) (Ax s l xs) a
 |0,xs,a=>by rw[C6,Cl]
 |l+1,xs,a=>by
  rw[C6];exact NG λx a=>JJ l
theorem Pq{next:Int}:∀{xs:List It}{a:List Vo},a.length<=16->A0 (MU next) xs a=if (∀x∈xs,Dz x/\x.key.id≠0/\x.key.id<next)/\a.length+xs.length<=16 then some (a++xs.map CG)else none
 |[],a,h=>by rw[A0,if_pos ⟨λx c=>(by cases c),by simpa using h⟩];simp
 |x::xs,a,h=>by
  rw[A0];by_cases c:wSe x next a.length
  ·rw [show MU next x a=some (a++[CG x])from if_pos c];dsimp only;have b:=c;unfold wSe at b;rw[Pq (by rw[List.length_append,List.length_singleton];omega)];by_cases e:(∀y∈xs,Dz y/\y.key.id≠0/\y.key.id<next)/\(a++[CG x]).length+xs.length<=16
   ·have f:(∀y∈x::xs,Dz y/\y.key.id≠0/\y.key.id<next)/\a.length+(x::xs).length<=16:=by
     refine⟨λy d=>?_,by have:=e.2;simp at this ⊢;omega⟩;rcases List.mem_cons.1 d with rfl|d
     ·exact ⟨b.1,b.2.1,b.2.2.1⟩
     exact e.1 y d
    rw[if_pos e,if_pos f];simp
   rw[if_neg e,if_neg λg=>e ⟨λy d=>g.1 y (by simp[d]),by have:=g.2;simp at this ⊢;omega⟩]
  rw[show MU next x a=none from if_neg c];dsimp only;rw[if_neg λg=>c ?_];have i:=g.1 x (by simp);have j:=g.2;rw[List.length_cons]at j;exact⟨i.1,i.2.1,i.2.2,by omega⟩
def BG(p:Po)(q:Int):Int:=match Cc p.st p.root p.next p.dead with|none=>8|some (vs,_,_)=>match KD vs q with|none=>6|some _=>0
def As(p:Po)(q:Int):Vo:=match Cc p.st p.root p.next p.dead with|none=>⟨0,0,false,0⟩|some (vs,_,_)=>(KD vs q).getD ⟨0,0,false,0⟩
variable{d refs:List Int}
theorem Xy{r n:Int}{nodes:List Int}(h:Cc s r n d=some (vs,refs,nodes)):vs.length<=1000:=by
 unfold Cc at h;split at h
 ·split at h
  ·cases h
  rename_i lv xs e;split at h
  ·cases h
  rename_i c a;split at h
  ·cases h
  split at h
  ·cases h;rw[JJ,Pq (by simp)]at a;split at a
   ·rename_i b;cases a;have:=b.2;simp at this ⊢;omega
   cases a
  cases h
 cases h
theorem wVj(p:Po)(x:V5)(M:Mem)(h:PT5 M x p)(c:p.dead.length<=1000000)(q:Int)(b:Cc p.st p.root p.next p.dead=none):
  SpecL prog 114 #[.agg (Bo x p.gen p.root p.next).toArray,.int .u32 q] M [] λu M' e=>u=.tuple #[.agg (DA (As p q)).toArray,.int .i64 (BG p q)]/\e=[]:=by
 refine sB func114 ntmps114 ?_;intro W;refine ga λi=>?_;refine lh (Bt rfl rfl rfl rfl) ?_;rintro _ _ _ ⟨g,rfl,rfl,rfl⟩;refine ga λf=>?_;refine gc (Cz p _ M h.pt c) ?_;rintro _ j d a;unfold TakeP at a;rw[b]at a;subst a;refine gu ?_;exact⟨by unfold As BG;rw[b];rfl,rfl⟩
theorem wPu(p:Po)(x:V5)(M:Mem)(h:PT5 M x p)(H:p.dead.length<=1000000)(q:Int)(vs:List Vo)(d nodes:List Int)(m:Cc p.st p.root p.next p.dead=some (vs,d,nodes)):
  SpecL prog 114 #[.agg (Bo x p.gen p.root p.next).toArray,.int .u32 q] M [] λu M' N=>u=.tuple #[.agg (DA (As p q)).toArray,.int .i64 (BG p q)]/\N=[]:=by
 refine sB func114 ntmps114 ?_;intro W;refine ga λb2=>?_;refine lh (Bt rfl rfl rfl rfl) ?_;rintro _ _ _ ⟨y,rfl,rfl,rfl⟩;refine ga λZ=>?_;refine gc (Cz p _ M h.pt H) ?_;rintro _ M1 I b;unfold TakeP at b;rw[m]at b;obtain⟨Y,V,Q,S,U,R,T,C,B,rfl,j,F,g,f,a⟩:=b;refine gt ?_;refine lq (Au rfl rfl rfl rfl ((AG j (Gn f a)).cj _)) ?_;refine gh ?_;refine Az y (by simp) ?_;intro z c K;refine gC (Vk vs C B _ _ q z (g.mono c) (by kernel_rfl) (λv=>wCy v q y z K) (Xy m)) ?_;rintro _ M3 _ l ⟨i,rfl,w⟩;refine gj (λs=>?_) λs=>?_
 ·refine gr ?_;obtain⟨_,J,_⟩|⟨k,rfl,_⟩:=w;rotate_left
  ·exfalso;omega
  exact⟨by unfold As BG;rw[m];dsimp only;rw[J];rfl,rfl⟩
 refine gh ?_;refine lq (Au rfl rfl rfl rfl (((AG j (Gn f a)).mono (c.trans l)).cj _)) ?_;refine gh ?_;obtain⟨X,_⟩|⟨k,rfl,G,n,_⟩:=w
 ·exfalso;omega
 obtain⟨P,O,L,D⟩:=g.open (by intro e;have:=congrArg length e;rw[Aj DA 4 Pr,length_nil]at this;omega);cases L;have o:=Bs DA 4 Pr D (List.getElem?_eq_getElem G);refine gh ?_;refine lq (A1 (cs:=DA vs[k]) rfl rfl rfl rfl rfl (λi v E=>(((o i v E).mono (c.trans l))).cj _)) ?_;refine gr ?_;exact⟨by unfold As BG;rw[m];dsimp only;rw[n];rfl,rfl⟩
theorem Dx(p:Po)(x:V5)(M:Mem)(h:PT5 M x p)(a:p.dead.length<=1000000)(q:Int):SpecL prog 114 #[.agg (Bo x p.gen p.root p.next).toArray,.int .u32 q] M [] λu M' d=>u=.tuple #[.agg (DA (As p q)).toArray,.int .i64 (BG p q)]/\d=[]:=by
 cases b:Cc p.st p.root p.next p.dead with
 |none=>exact wVj p x M h a q b
 |some c=>obtain⟨vs,refs,nodes⟩:=c;exact wPu p x M h a q vs refs nodes b
def CY(p:Po):List Int:=match Cc p.st p.root p.next p.dead with|none=>[]|some (_,refs,_)=>refs
theorem wPw(p:Po)(x:V5)(M:Mem)(h:PT5 M x p)(f:p.dead.length<=1000000)(d:Cc p.st p.root p.next p.dead=none):
  SpecL prog 12 #[.agg (Bo x p.gen p.root p.next).toArray] M [] λu M' i=>(∃(s:Sl),u=.tuple #[s.v,.int .i64 (AN p)]/\s.n=(CY p).length/\s.n<=s.c/\SM M' s.a (Al (CY p))/\(AN p=0->(CY p).length=256))/\i=[]:=by
 refine sB func12 ntmps12 ?_;intro W;refine ga λj=>?_;refine gc (Cz p _ M h.pt f) ?_;rintro _ k g b;unfold TakeP at b;rw[d]at b;subst b;refine gu ?_;have e:CY p=[]:=by unfold CY;rw[d]
 exact⟨⟨⟨none,0,0⟩,by unfold AN;rw[d];rfl,by rw[e];rfl,Nat.le_refl _,by rw[e];exact SM.nil,λh=>absurd h (by unfold AN;rw[d];decide)⟩,rfl⟩
theorem wHd(p:Po)(x:V5)(M:Mem)(h:PT5 M x p)(z:p.dead.length<=1000000)(vs:List Vo)(d nodes:List Int)(g:Cc p.st p.root p.next p.dead=some (vs,d,nodes)):
  SpecL prog 12 #[.agg (Bo x p.gen p.root p.next).toArray] M [] λu M' C=>(∃(s:Sl),u=.tuple #[s.v,.int .i64 (AN p)]/\s.n=(CY p).length/\s.n<=s.c/\SM M' s.a (Al (CY p))/\(AN p=0->(CY p).length=256))/\C=[]:=by
 refine sB func12 ntmps12 ?_;intro W;refine ga λL=>?_;refine gc (Cz p _ M h.pt z) ?_;rintro _ N B e;unfold TakeP at e;rw[g]at e;obtain⟨o,J,D,F,H,E,G,K,I,rfl,f,y,w,b,l⟩:=e;refine gt ?_;refine lq (Qe rfl rfl rfl) ?_;refine gr ?_;have j:CY p=d:=by unfold CY;rw[g]
 exact⟨⟨⟨some ⟨o,6,none⟩,256,256⟩,by unfold AN;rw[g],by rw[j,b],Nat.le_refl _,by rw[j];exact .inr ⟨o,6,rfl,λi u k=>AG f (by
  have m:i<256:=by have:=(List.getElem?_eq_some_iff.1 k).1;rw[Ay]at this;omega
  rw[MJ b m rfl];rw[<-k];simp[Al,getD,b,m])⟩,λ_=>by rw[j];exact b⟩,rfl⟩
theorem Re(p:Po)(x:V5)(M:Mem)(h:PT5 M x p)(b:p.dead.length<=1000000):SpecL prog 12 #[.agg (Bo x p.gen p.root p.next).toArray] M [] λu M' e=>(∃(s:Sl),u=.tuple #[s.v,.int .i64 (AN p)]/\s.n=(CY p).length/\s.n<=s.c/\SM M' s.a (Al (CY p))/\(AN p=0->(CY p).length=256))/\e=[]:=by
 cases d:Cc p.st p.root p.next p.dead with
 |none=>exact wPw p x M h b d
 |some c=>obtain⟨vs,refs,nodes⟩:=c;exact wHd p x M h b vs refs nodes d
theorem wPa(xs:List Int)(a:Option Addr)(c:Nat)(q:Int)(M:Mem)(hs:SM M a (Al xs))(B:xs.length<=1000000):
  SpecL prog 334 #[.slice a xs.length c,.int .i64 q] M [] λv _ _=>∃i:Int,v=.int .i64 i/\(0<=i↔q∈xs):=by
 refine sB func334 ntmps334 ?_;intro W;refine gh ?_;refine CC (α:=Nat) (λk=>[(0,.slice a xs.length c),(1,.int .i64 q),(7,.int .i64 xs.length),(8,.int .i64 k)]) (λ_=>M) (λ_=>[]) (λk=>k<=xs.length/\∀j (f:j<xs.length),j<k->xs[j]≠q) (λk=>xs.length-k) 0 ⟨Nat.zero_le _,λ_ _ h=>absurd h (Nat.not_lt_zero _)⟩ ?_;rintro k ⟨u,m⟩;try dsimp only at u m⊢
 refine gj (λy=>?_) λy=>?_
 ·refine gh ?_;have d:k<xs.length:=by omega
  obtain⟨o,n,z,s⟩:=hs.open (by intro e;have:=congrArg length e;rw[Ay,length_nil]at this;omega);cases z;have l:CM M o (n+k) (.int .i64 xs[k]):=s k _ (by simp[Al,d]);refine gh ?_;refine lq (Au rfl rfl rfl rfl ((by rw[Int.toNat_natCast,Nat.mul_one];exact l:CM M o (n+((k:Nat):Int).toNat*1) _).cj _)) ?_;refine gj (λb=>?_) λb=>?_
  ·refine gr ?_;exact⟨(k:Int),rfl,λ_=>b▸List.getElem_mem d,λ_=>by omega⟩
  refine gh ?_;refine Hp (k+1) (Keep.cons (t:=0) rfl (Keep.cons (t:=1) rfl (Keep.cons (t:=7) rfl (Keep.cons (t:=8) rfl Keep.nil)))) ⟨by show k+1<=xs.length;omega,λj f w=>by
   by_cases e:j=k
   ·subst e;exact λe=>b e.symm
   exact m j f (by omega)⟩ (by show xs.length-(k+1)<xs.length-k;omega) (λ_ h=>h)
 refine gr ?_;have g:k=xs.length:=by omega
 subst g;exact⟨-1,rfl,λh=>absurd h (by decide),λh=>by obtain⟨j,f,e⟩:=List.getElem_of_mem h;exact absurd e (m j f f)⟩
theorem wGo(xs:List Int)(a:Option Addr)(c:Nat)(q:Int)(M:Mem)(hs:SM M a (Al xs))(b:xs.length<=1000000):
  SpecL prog 319 #[.slice a xs.length c,.int .i64 q] M [] λv _ _=>v=.bool (decide (q∈xs)):=by
 refine sB func319 ntmps319 ?_;intro W;refine gC (wPa xs a c q M hs b) ?_;rintro _ f _ e ⟨i,rfl,d⟩;refine gr ?_;exact congrArg _ (decide_eq_decide.2 d)
variable{α:Type}
theorem Vr:∀(A L:List α),(∀f:α->Nat,(A.map f).sum<=(L.map f).sum)->∃G,L.Perm (A++G)
 |[],L,_=>⟨L,List.Perm.refl _⟩
 |a::A,L,h=>by
  classical
  have g:a∈L:=by
   refine Classical.byContradiction λe=>?_;have c:=h λx=>if x=a then 1 else 0
   have j:∀(l:List α),a∉l->(l.map λx=>if x=a then 1 else 0).sum=0:=λl=>by
    induction l with
    |nil=>intro _;rfl
    |cons y l d=>intro b;simp only[List.mem_cons,not_or]at b;rw[map_cons,sum_cons,d b.2,if_neg (Ne.symm b.1)]
   rw[j L e]at c;simp at c
  obtain⟨X,Y,rfl⟩:=List.append_of_mem g;obtain⟨G,i⟩:=Vr A (X++Y) λf=>by
   have:=h f;simp only[map_append,map_cons,List.sum_append,sum_cons]at this⊢;omega
  exact⟨G,List.perm_middle.trans (List.Perm.cons a i)⟩
variable{E:Ent}{L:Lc}{M:Mem}{w:World}
theorem St.subC{L':Lc}(h:St E M L w)(a:∀f:Nat×Obj->Nat,(L'.map f).sum<=(L.map f).sum):St E M L' w:=by
 obtain⟨G,b⟩:=Vr _ _ a;exact(h.perm b).fewer (List.sublist_append_left _ _)
def Pg(nodes:List Int)(n:Nat):List Int:=((List.range n).filter λk=>decide (0<nodes.getD k 0)).map λk:Nat=>(k:Int)
variable{k:Nat}{nodes:List Int}
theorem S6:Pg nodes (k+1)=if 0<nodes.getD k 0 then Pg nodes k++[(k:Int)]else Pg nodes k:=by
 unfold Pg;rw[List.range_succ,List.filter_append,map_append];split
 ·rename_i h;rw[List.filter_cons_of_pos (by simpa using h)];rfl
 rename_i h;rw[List.filter_cons_of_neg (by simpa using h)];simp
theorem Wl(nodes:List Int)(n:Nat):(Pg nodes n).length<=n:=by
 unfold Pg;rw[List.length_map];exact Nat.le_trans (List.length_filter_le _ _) (by simp)
def CS(p:Po):List Int:=match Cc p.st p.root p.next p.dead with|none=>[]|some (_,_,nodes)=>Pg nodes 256
variable{d:List Int}{s:Sto}
theorem wWc{r n:Int}{x:List Vo×List Int×List Int}(h:Cc s r n d=some x):Av s/\d.length<=40:=by
 unfold Cc at h;split at h
 ·rename_i a;exact⟨a.1,a.2.1⟩
 cases h
def RU(p:Po)(v:Vo):Int:=match Cc p.st p.root p.next p.dead with
 |none=>8
 |some (vs,refs,_)=>if v.id=0\/p.next<=v.id\/v.root<8\/256<=v.root then 2 else if WO v.id vs=false/\16<=vs.length then 9 else if ((p.st.now.getD v.root.toNat 0).toNat:Int)<=refs.getD v.root.toNat 0 then 6 else if (AQ p.st v.root).2=0 then 0 else 8
theorem wHg(p:Po)(x:V5)(M:Mem)(h:PT5 M x p)(f:p.dead.length<=1000000)(d:Cc p.st p.root p.next p.dead=none):
  SpecL prog 318 #[.agg (Bo x p.gen p.root p.next).toArray] M [] λu M' i=>(∃(s:Sl),u=.tuple #[s.v,.int .i64 (AN p)]/\s.n=(CS p).length/\s.n<=s.c/\SM M' s.a (Al (CS p)))/\i=[]:=by
 refine sB func318 ntmps318 ?_;intro W;refine ga λj=>?_;refine gc (Cz p _ M h.pt f) ?_;rintro _ k g b;unfold TakeP at b;rw[d]at b;subst b;refine gu ?_;have e:CS p=[]:=by unfold CS;rw[d]
 exact⟨⟨⟨none,0,0⟩,by unfold AN;rw[d];rfl,by rw[e];rfl,Nat.le_refl _,by rw[e];exact SM.nil⟩,rfl⟩
theorem Zv(p:Po)(x:V5)(M:Mem)(h:PT5 M x p)(X:p.dead.length<=1000000)(vs:List Vo)(B nodes:List Int)(I:Cc p.st p.root p.next p.dead=some (vs,B,nodes)):
  SpecL prog 318 #[.agg (Bo x p.gen p.root p.next).toArray] M [] λu M' L'=>(∃(s:Sl),u=.tuple #[s.v,.int .i64 (AN p)]/\s.n=(CS p).length/\s.n<=s.c/\SM M' s.a (Al (CS p)))/\L'=[]:=by
 refine sB func318 ntmps318 ?_;intro W;refine ga λQ=>?_;refine gc (Cz p _ M h.pt X) ?_;rintro _ M1 Z o;unfold TakeP at o;rw[I]at o;obtain⟨cb,kb,kw,kn,kl,kp,km,ka,kc,rfl,G,U,T,D,l⟩:=o;refine gt ?_;refine A2 rfl rfl (A1 (cs:=Al nodes) rfl rfl rfl rfl (by rw[Ay];exact l) (λj v y=>(AG G (by
  have O:j<256:=by have:=(List.getElem?_eq_some_iff.1 y).1;rw[Ay]at this;omega
  show (Ct _ _ _ _ _ _ _ _ _)[262+j]? =_;rw[UG D l O rfl,<-y];simp[Al,getD,l,O])).cj _)) ?_
 refine gh ?_;refine CC (α:=Nat×Value×Lc×List Int) (λz=>[(1,pB Q),(2,z.2.1),(18,.agg (Al nodes).toArray),(19,.int .i64 z.1)]) (λ_=>M1) (λz=>z.2.2.1++[(Q,cE (Bo x p.gen p.root p.next) X0)]) (λz=>z.1<=256/\Own z.2.1 z.2.2.1 3 1 z.2.2.2.length (Al z.2.2.2)/\z.2.2.2=Pg nodes z.1) (λz=>256-z.1) (0,.slice none 0 0,[],[]) ⟨Nat.zero_le _,Own.nil _ _,rfl⟩ ?_;rintro⟨k,v,R,b⟩ ⟨V,d,e⟩;try dsimp only at V d e⊢
 obtain⟨N,L,y⟩:=d.form;subst y;refine gj (λK=>?_) λK=>?_
 ·refine gh ?_;have F:k<256:=by omega
  refine lq (Yu (v:=.int .i64 (nodes.getD k 0)) rfl rfl rfl rfl rfl (by omega) (by rw[Nat.mul_one,Int.toNat_natCast];simp[Al,getD,l,F])) ?_;refine gj (λw=>?_) λw=>?_
  ·refine gh ?_;refine lh (Ab (cs:=[_]) rfl rfl rfl (by rfl) (by rfl) (by rfl)) ?_;rintro _ _ _ ⟨aa,rfl,rfl,rfl⟩;have J:=Wl nodes k;rw[<-e]at J;refine lh (AY (R:=R) (m:=1) (news:=[Value.int .i64 k]) rfl rfl rfl rfl d rfl (λi v y=>CJ.loc (by simpa using y)) rfl (by rfl) (by simp[Value.oneCell']) (by omega) (by omega)) ?_;rintro s' _ _ ⟨rfl,S,rfl,g,_⟩;obtain⟨a4,c4,rfl⟩:=g.form;refine gh ?_;refine BD (k+1,.slice a4 (b.length+1) c4,S,b++[(k:Int)]) ⟨by show k+1<=256;omega,by show Own _ S _ 1 (b++[_]).length (Al (b++[_]));rw[List.length_append];unfold Al at g ⊢;rw[map_append];exact g,by show b++[_]=Pg nodes (k+1);rw[S6,if_pos w,e]⟩ (hs:=λ_ h=>h.subC λf=>by simp only[map_append,map_cons,List.map_nil,List.sum_append,sum_cons,List.sum_nil];omega)
  refine gh ?_;refine BD (k+1,.slice N b.length L,R,b) ⟨by show k+1<=256;omega,d,by show b=Pg nodes (k+1);rw[S6,if_neg w,e]⟩
 refine gh ?_;have E:k=256:=by omega
 subst E;refine BK d (by simp) ?_;intro M2 a2 c2 Y e2 H C;cases e2;refine gr ?_;have P:CS p=b:=by unfold CS;rw[I];exact e.symm
 exact⟨⟨⟨N,b.length,L⟩,by unfold AN;rw[I],by rw[P],H,by rw[P];exact C⟩,rfl⟩
theorem Xe(p:Po)(x:V5)(M:Mem)(h:PT5 M x p)(b:p.dead.length<=1000000):SpecL prog 318 #[.agg (Bo x p.gen p.root p.next).toArray] M [] λu M' e=>(∃(s:Sl),u=.tuple #[s.v,.int .i64 (AN p)]/\s.n=(CS p).length/\s.n<=s.c/\SM M' s.a (Al (CS p)))/\e=[]:=by
 cases d:Cc p.st p.root p.next p.dead with
 |none=>exact wHg p x M h b d
 |some c=>obtain⟨vs,refs,nodes⟩:=c;exact Zv p x M h b vs refs nodes d
theorem wVs(p:Po)(x:V5)(M:Mem)(h:PT5 M x p)(c:p.dead.length<=1000000)(v:Vo)(b:Cc p.st p.root p.next p.dead=none):
  SpecL prog 171 #[.agg (Bo x p.gen p.root p.next).toArray,.agg (DA v).toArray] M [] λu M' e=>u=.int .i64 (RU p v)/\e=[]:=by
 refine sB func171 ntmps171 ?_;intro W;refine Ke λg f=>?_;refine gc (Cz p _ M h.pt c) ?_;rintro _ i d a;unfold TakeP at a;rw[b]at a;subst a;refine gu ?_;exact⟨by unfold RU;rw[b];rfl,rfl⟩
theorem wQe(p:Po)(x:V5)(M:Mem)(h:PT5 M x p)(U:p.dead.length<=1000000)(v:Vo)(vs:List Vo)(C nodes:List Int)(f:Cc p.st p.root p.next p.dead=some (vs,C,nodes)):
  SpecL prog 171 #[.agg (Bo x p.gen p.root p.next).toArray,.agg (DA v).toArray] M [] λu M' V=>u=.int .i64 (RU p v)/\V=[]:=by
 obtain⟨G,_⟩:=wWc f;have S:p.st.now.length=256:=G.2.1.1;refine sB func171 ntmps171 ?_;intro W;refine Ke λb2 P=>?_;refine gc (Cz p _ M h.pt U) ?_;rintro _ M1 l o;unfold TakeP at o;rw[f]at o;obtain⟨cb,kb,X,Z,kl,Y,km,R,Q,rfl,k,T,H,g,m⟩:=o;refine gt ?_;refine gj (λO=>?_) λO=>?_
 ·refine gr ?_;refine⟨?_,rfl⟩;unfold RU;rw[f];dsimp only;first|rw[if_pos (by omega)]|(rw[if_neg (by omega)];first|rw[if_pos ⟨by assumption,by omega⟩]|(rw[if_neg (λa=>by first|(have:=a.2;omega)|(rw[c]at a;cases a.1))];first|rw[if_pos (by omega)]|(rw[if_neg (by omega)];first|rw[if_pos (by omega)]|rw[if_neg (by omega)])))
 refine gj (λN=>?_) λN=>?_
 ·refine gr ?_;refine⟨?_,rfl⟩;unfold RU;rw[f];dsimp only;first|rw[if_pos (by omega)]|(rw[if_neg (by omega)];first|rw[if_pos ⟨by assumption,by omega⟩]|(rw[if_neg (λa=>by first|(have:=a.2;omega)|(rw[c]at a;cases a.1))];first|rw[if_pos (by omega)]|(rw[if_neg (by omega)];first|rw[if_pos (by omega)]|rw[if_neg (by omega)])))
 refine gj (λL=>?_) λL=>?_
 ·refine gr ?_;refine⟨?_,rfl⟩;unfold RU;rw[f];dsimp only;first|rw[if_pos (by omega)]|(rw[if_neg (by omega)];first|rw[if_pos ⟨by assumption,by omega⟩]|(rw[if_neg (λa=>by first|(have:=a.2;omega)|(rw[c]at a;cases a.1))];first|rw[if_pos (by omega)]|(rw[if_neg (by omega)];first|rw[if_pos (by omega)]|rw[if_neg (by omega)])))
 refine gj (λK=>?_) λK=>?_
 ·refine gr ?_;refine⟨?_,rfl⟩;unfold RU;rw[f];dsimp only;first|rw[if_pos (by omega)]|(rw[if_neg (by omega)];first|rw[if_pos ⟨by assumption,by omega⟩]|(rw[if_neg (λa=>by first|(have:=a.2;omega)|(rw[c]at a;cases a.1))];first|rw[if_pos (by omega)]|(rw[if_neg (by omega)];first|rw[if_pos (by omega)]|rw[if_neg (by omega)])))
 refine gh ?_;refine lq (Au rfl rfl rfl rfl ((AG k (Gn g m)).cj _)) ?_;refine gh ?_;refine Az P (by simp) ?_;intro D d z;refine BP rfl rfl (CZ rfl rfl rfl rfl rfl (by kernel_rfl) (wDc vs R Q _ _ v.id D (H.mono d) (by kernel_rfl) (λw=>wJg v w P D z) (Xy f))) (λc=>?_) (λc=>?_)
 ·refine gh ?_;refine QQ [0,1,2,3,4,5,6,7,8,9,10,11,12,13,14,15] ?_;refine gh ?_;refine dq rfl (Au rfl rfl rfl rfl (CM.cj ⟨_,_,_,z,rfl⟩ _)) ?_;obtain⟨E,no,B,nx⟩:=h.n.sm.open (by intro e;have:=congrArg length e;rw[Ad,length_nil]at this;omega);have F:x.n.n=p.st.now.length:=h.n.len;have I:=(p.st.now.getD v.root.toNat 0).toNat_lt;refine dq rfl (EV (b:=E) (off:=no) rfl rfl (by show some (Value.slice _ _ _)=_;rw[B]) rfl (by omega)) ?_;refine dq rfl (Au (v:=.int .u8 ((p.st.now.getD v.root.toNat 0).toNat:Int)) rfl rfl rfl rfl (((nx _ _ (by rw[Nat.mul_one];exact Ca (xs:=p.st.now) (j:=v.root.toNat) (by omega))).mono (l.trans d)).cj _)) ?_;refine dq rfl (C7 rfl rfl rfl (by omega)) ?_;refine gh ?_;refine dq rfl (Au rfl rfl rfl rfl (CM.cj ⟨_,_,_,z,rfl⟩ _)) ?_;refine gh ?_;refine dq rfl (F7 rfl rfl rfl rfl (by omega)) ?_;refine dq rfl (Au rfl rfl rfl rfl (((AG k (MJ g (i:=v.root.toNat) (by omega) (by omega))).mono d).cj _)) ?_;refine gj (λy=>?_) λy=>?_
  ·refine gr ?_;refine⟨?_,rfl⟩;unfold RU;rw[f];dsimp only;first|rw[if_pos (by omega)]|(rw[if_neg (by omega)];first|rw[if_pos ⟨by assumption,by omega⟩]|(rw[if_neg (λa=>by first|(have:=a.2;omega)|(rw[c]at a;cases a.1))];first|rw[if_pos (by omega)]|(rw[if_neg (by omega)];first|rw[if_pos (by omega)]|rw[if_neg (by omega)])))
  refine gh ?_;refine lq (Au rfl rfl rfl rfl (CM.cj ⟨_,_,_,z,rfl⟩ _)) ?_;refine gQ (Jp p.st _ v.root D ((h.mono l).mono d).st) ?_;refine gj (λs=>?_) λs=>?_
  ·refine gr ?_;refine⟨?_,rfl⟩;unfold RU;rw[f];dsimp only;first|rw[if_pos (by omega)]|(rw[if_neg (by omega)];first|rw[if_pos ⟨by assumption,by omega⟩]|(rw[if_neg (λa=>by first|(have:=a.2;omega)|(rw[c]at a;cases a.1))];first|rw[if_pos (by omega)]|(rw[if_neg (by omega)];first|rw[if_pos (by omega)]|rw[if_neg (by omega)])))
  refine gr ?_;refine⟨?_,rfl⟩;unfold RU;rw[f];dsimp only;first|rw[if_pos (by omega)]|(rw[if_neg (by omega)];first|rw[if_pos ⟨by assumption,by omega⟩]|(rw[if_neg (λa=>by first|(have:=a.2;omega)|(rw[c]at a;cases a.1))];first|rw[if_pos (by omega)]|(rw[if_neg (by omega)];first|rw[if_pos (by omega)]|rw[if_neg (by omega)])))
 refine gh ?_;refine lq (Au rfl rfl rfl rfl (((AG k (Gn g m)).mono (d)).cj _)) ?_;refine gj (λJ=>?_) λJ=>?_
 ·refine gr ?_;refine⟨?_,rfl⟩;unfold RU;rw[f];dsimp only;first|rw[if_pos (by omega)]|(rw[if_neg (by omega)];first|rw[if_pos ⟨by assumption,by omega⟩]|(rw[if_neg (λa=>by first|(have:=a.2;omega)|(rw[c]at a;cases a.1))];first|rw[if_pos (by omega)]|(rw[if_neg (by omega)];first|rw[if_pos (by omega)]|rw[if_neg (by omega)])))
 refine gh ?_;refine QQ [0,1,2,3,4,5,6,7,8,9,10,11,12,13,14,15] ?_;refine gh ?_;refine dq rfl (Au rfl rfl rfl rfl (CM.cj ⟨_,_,_,z,rfl⟩ _)) ?_;obtain⟨E,no,B,nx⟩:=h.n.sm.open (by intro e;have:=congrArg length e;rw[Ad,length_nil]at this;omega);have F:x.n.n=p.st.now.length:=h.n.len;have I:=(p.st.now.getD v.root.toNat 0).toNat_lt;refine dq rfl (EV (b:=E) (off:=no) rfl rfl (by show some (Value.slice _ _ _)=_;rw[B]) rfl (by omega)) ?_;refine dq rfl (Au (v:=.int .u8 ((p.st.now.getD v.root.toNat 0).toNat:Int)) rfl rfl rfl rfl (((nx _ _ (by rw[Nat.mul_one];exact Ca (xs:=p.st.now) (j:=v.root.toNat) (by omega))).mono (l.trans d)).cj _)) ?_;refine dq rfl (C7 rfl rfl rfl (by omega)) ?_;refine gh ?_;refine dq rfl (Au rfl rfl rfl rfl (CM.cj ⟨_,_,_,z,rfl⟩ _)) ?_;refine gh ?_;refine dq rfl (F7 rfl rfl rfl rfl (by omega)) ?_;refine dq rfl (Au rfl rfl rfl rfl (((AG k (MJ g (i:=v.root.toNat) (by omega) (by omega))).mono d).cj _)) ?_;refine gj (λy=>?_) λy=>?_
 ·refine gr ?_;refine⟨?_,rfl⟩;unfold RU;rw[f];dsimp only;first|rw[if_pos (by omega)]|(rw[if_neg (by omega)];first|rw[if_pos ⟨by assumption,by omega⟩]|(rw[if_neg (λa=>by first|(have:=a.2;omega)|(rw[c]at a;cases a.1))];first|rw[if_pos (by omega)]|(rw[if_neg (by omega)];first|rw[if_pos (by omega)]|rw[if_neg (by omega)])))
 refine gh ?_;refine lq (Au rfl rfl rfl rfl (CM.cj ⟨_,_,_,z,rfl⟩ _)) ?_;refine gQ (Jp p.st _ v.root D ((h.mono l).mono d).st) ?_;refine gj (λs=>?_) λs=>?_
 ·refine gr ?_;refine⟨?_,rfl⟩;unfold RU;rw[f];dsimp only;first|rw[if_pos (by omega)]|(rw[if_neg (by omega)];first|rw[if_pos ⟨by assumption,by omega⟩]|(rw[if_neg (λa=>by first|(have:=a.2;omega)|(rw[c]at a;cases a.1))];first|rw[if_pos (by omega)]|(rw[if_neg (by omega)];first|rw[if_pos (by omega)]|rw[if_neg (by omega)])))
 refine gr ?_;refine⟨?_,rfl⟩;unfold RU;rw[f];dsimp only;first|rw[if_pos (by omega)]|(rw[if_neg (by omega)];first|rw[if_pos ⟨by assumption,by omega⟩]|(rw[if_neg (λa=>by first|(have:=a.2;omega)|(rw[c]at a;cases a.1))];first|rw[if_pos (by omega)]|(rw[if_neg (by omega)];first|rw[if_pos (by omega)]|rw[if_neg (by omega)])))
def nxt(w:Stp):Option Nat:=if w.at_+1=w.xs.length then (if w.at_=0 then none else some (w.at_-1))else some (w.at_+1)
def AJ(t:Sto)(w:Stp)(l:List It):List It×Nat×Nat:=match nxt w with
 |none=>(l,w.at_,1)
 |some p=>match w.xs[p]? with
  |none=>(l,w.at_,1)
  |some y=>if 5<(kid t y).length+l.length then (l,w.at_,1)else if p<w.at_ then (kid t y++l,p,2)else (l++kid t y,w.at_,2)
def Dj(t:Sto)(lv:Int)(l:List It)(held:Int):Except Int (Sto×Int):=
 if KS t lv l=0 then
  (if 0<held then (if Cj (EM t lv l) held.toNat=0 then .ok (AO (EM t lv l) held.toNat,(BH (Am t l):Int))else .error (Cj (EM t lv l) held.toNat))
  else .ok (EM t lv l,(BH (Am t l):Int)))
 else .error (KS t lv l)
def G0(w:Stp):List It:=w.xs.take w.at_++w.xs.drop (w.at_+1)
def Se(w:Stp)(j:List It×Nat×Nat)(a:Int):List It:=w.xs.take j.2.1++[⟨BC j.1,a,[]⟩]++w.xs.drop (j.2.1+j.2.2)
def wSq(t:Sto)(w:Stp)(l:List It)(held:Int):Except Int (Sto×List It×Int):=
 if l=[]then .ok (t,G0 w,0)
 else match Dj t (w.lv-1) (AJ t w l).1 held with
  |.error e=>.error e
  |.ok (u,a)=>.ok (u,Se w (AJ t w l) a,a)
def dn(s:Sto)(l0:List It):List Stp->Except Int (Sto×List It×Int)
 |[]=>.ok (s,l0,0)
 |w::ws=>match dn s l0 ws with
  |.error e=>.error e
  |.ok (t,l,held)=>wSq t w l held
def Es:Nat->Sto->Int->Except Int (Sto×Int)
 |0,t,r=>.ok (t,r)
 |n+1,t,r=>match Ak t r.toNat with
  |none=>.error 8
  |some (lv,xs)=>if lv=0 then .ok (t,r)else match xs with
   |[x]=>if Bl t x.ref.toNat=0 then (match Df (Bb t x.ref.toNat) r with
     |none=>.error 8
     |some u=>Es n u x.ref)else .error (Bl t x.ref.toNat)
   |_=>.ok (t,r)
def Uy(n:Int):Except Int (Sto×List It×Int)->Except Int (Sto×Int)
 |.error e=>.error e
 |.ok (t,l,held)=>Dj t (if l=[]then 0 else n) l held
def wQj:Except Int (Sto×Int)->Except Int (Sto×Int)
 |.error e=>.error e
 |.ok (t,a)=>Es 7 t a
def Ld(root:Int):Except Int (Sto×Int)->Except Int (Sto×Int)
 |.error e=>.error e
 |.ok (t,r)=>match Df t root with
  |none=>.error 8
  |some u=>.ok (u,r)
def Gg(ws:List Stp):List It:=match ws.getLast? with|some w=>G0 w|none=>[]
def MG(s:Sto)(root:Int)(ws:List Stp):Except Int (Sto×Int):=Ld root (wQj (Uy ((ws.length:Int)-1) (dn s (Gg ws) ws.dropLast)))
def MH(s:Sto)(root:Int)(q:Ky):Except Int (Sto×Int):=
 if (AQ s root).2=0 then
  match Ak s root.toNat with
  |none=>.error 8
  |some (lv,xs)=>match BW s q lv.toNat xs with
   |none=>.error 6
   |some _=>MG s root (AE s q lv.toNat xs)
 else .error (AQ s root).2
variable{k:Nat}{s:Sto}
theorem Gf(hk:k<s.now.length)(g:2<=(s.now.getD k 0).toNat):ExtB s (AO s k)/\∀n,Ak (AO s k) n=Ak s n:=by
 have d:¬s.now.getD k 0=0:=Ga (by omega);have c:=Ps d;have a:∀n,(AO s k).now.getD n 0=0↔s.now.getD n 0=0:=λn=>by
  show (s.now.set k _).getD n 0=0↔_;by_cases e:n=k
  ·subst e;rw[A7 hk];exact⟨λh=>by rw[h]at c;have i:(0:By).toNat=0:=rfl;omega,λh=>absurd h d⟩
  rw[AK e]
 have b:∀n,Ak (AO s k) n=Ak s n:=λn=>by
  have f:seen (AO s k) n=seen s n:=rfl;unfold Ak;rw[f];by_cases h:s.now.getD n 0=0
  ·rw [if_pos h,if_pos ((a n).2 h)]
  rw[if_neg h,if_neg λe=>h ((a n).1 e)]
 exact⟨⟨λn r h=>by rw[b];exact h,λn h e=>h ((a n).1 e)⟩,b⟩
theorem F3(hk:k<s.now.length)(h:Bl s k=0):ExtB s (Bb s k)/\∀n,Ak (Bb s k) n=Ak s n:=by
 obtain⟨i,c⟩:=JU h;have f:=G7 hk c;have a:∀n,(Bb s k).now.getD n 0=0↔s.now.getD n 0=0:=λn=>by
  have g:(0:By).toNat=0:=rfl;by_cases e:n=k
  ·subst e;have:=f n;rw[if_pos rfl]at this;exact⟨λh=>by rw[h]at this;omega,λh=>absurd h i⟩
  show (s.now.set k _).getD n 0=0↔_;rw[AK e]
 have b:∀n,Ak (Bb s k) n=Ak s n:=λn=>by
  have d:seen (Bb s k) n=seen s n:=rfl;unfold Ak;rw[d];by_cases h:s.now.getD n 0=0
  ·rw [if_pos h,if_pos ((a n).2 h)]
  rw[if_neg h,if_neg λe=>h ((a n).1 e)]
 exact⟨⟨λn r h=>by rw[b];exact h,λn h e=>h ((a n).1 e)⟩,b⟩
theorem JT(h:Av s)(hk:8<=k):Av (Bb s k):=⟨h.1,G1 hk h.2.1,h.2.2⟩
end Go.Proofs.YtjheijhahehnmaaGreatDoor
