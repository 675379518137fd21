/- Walks: whether a tree may be. -/
import Derived.Test.YtdahhoicackcaaaGreatZHn
import Derived.Test.YtdahhoicackcaaaGreatZTry
import Derived.Test.YtdahhoicackcaaaGreatZMake
import Derived.Test.YtdahhoicackcaaaGreatZSp
namespace Go.Proofs.YtdahhoicackcaaaGreat
open Go.Proofs.Tryz
open List (length length_nil length_map getElem_mem mem_cons_of_mem)
set_option linter.unusedSimpArgs false
set_option linter.unusedVariables false
set_option linter.unusedSectionVars false
open Go.RowKit
set_option maxRecDepth 8000
set_option maxHeartbeats 40000000
theorem Qk{M:Mem}{b o:Nat}{xs:List Int}(hx:∀i u,(Al xs)[i]? =some u->CM M b (o+i) u){k:Nat}(h:k<xs.length):CM M b (o+k*1) (.int .i64 xs[k]):=by
 grind[Al]
theorem GM(u v:Value)(xs:List By)(M:Mem)(b:BS M u xs)(a:BS M v xs):SpecL prog 96 #[u,v] M [] λr _ _=>r=.bool true:=(JP u v xs xs M b a).mono λ_ _ _ h=>by rw[h];simp
theorem wCg(u v:Value)(xs:List Int)(M:Mem)(o:NI M u xs)(n:NI M v xs)(C:xs.length<=1000000):
  SpecL prog 47 #[u,v] M [] λr _ _=>r=.bool true:=by
 obtain⟨g,f,rfl,_,i⟩:=o
 obtain⟨t,s,rfl,_,h⟩:=n
 refine sB func47 ntmps47 ?_;intro W
 refine gt ?_
 refine Cz (α:=Nat) (λk=>[(0,.slice g xs.length f),(1,.slice t xs.length s),(11,.slice g xs.length f),(12,.int .i64 xs.length),(13,.int .i64 (k:Int))]) (λ_=>M) (λ_=>[]) (λk=>k<=xs.length) (λk=>xs.length-k) 0 (Nat.zero_le _) ?_
 rintro k m
 try dsimp only at m⊢
 refine gj (λb=>?_) λb=>?_
 ·refine gh ?_
  refine JG [0,1,2,3,4,5,6,7,8] ?_
  refine gh ?_
  have a:k<xs.length:=by omega
  obtain⟨B,po,d,l⟩:=i.open (by intro e;have:=congrArg length e;rw[Ay,length_nil]at this;omega)
  subst d
  refine gh ?_
  refine dq rfl (AE (v:=.int .i64 xs[k]) rfl rfl rfl rfl ((Qk l a).cj _)) ?_
  refine gh ?_
  obtain⟨z,y,c,j⟩:=h.open (by intro e;have:=congrArg length e;rw[Ay,length_nil]at this;omega)
  subst c
  refine gh ?_
  refine dq rfl (AE (v:=.int .i64 xs[k]) rfl rfl rfl rfl ((Qk j a).cj _)) ?_
  refine gt ?_
  refine Bw (k+1) (by omega)
 refine gr ?_
 rfl
theorem wFb(u v:Value)(xs:List (List By))(M:Mem)(H:LS M u xs)(b:LS M v xs)(S:xs.length<=1000000):
  SpecL prog 160 #[u,v,.func (.func 96) #[] #[]] M [] λr _ _=>r=.bool true:=by
 obtain⟨s,o,F,rfl,_,y,n,C⟩:=H
 obtain⟨J,I,E,rfl,_,t,p2,B⟩:=b
 refine sB func160 ntmps160 ?_;intro W
 refine gt ?_
 refine Cz (α:=Nat) (λk=>[(0,.slice s xs.length o),(1,.slice J xs.length I),(2,.func (.func 96) #[] #[]),(15,.slice s xs.length o),(16,.int .i64 xs.length),(17,.int .i64 (k:Int))]) (λ_=>M) (λ_=>[]) (λk=>k<=xs.length) (λk=>xs.length-k) 0 (Nat.zero_le _) ?_
 rintro k G
 try dsimp only at G⊢
 refine gj (λj=>?_) λj=>?_
 ·refine gh ?_
  have a:k<xs.length:=by omega
  obtain⟨Q,po,m,D⟩:=y.open (by intro e;have:=congrArg length e;rw[length_map,length_nil]at this;have b:=congrArg length n;rw[length_map]at b;omega)
  subst m
  obtain⟨R,P,i,h,g⟩:=Cn D n C a
  refine gh ?_
  refine lq (AE rfl rfl rfl rfl (i.cj _)) ?_
  refine gh ?_
  obtain⟨N,K,l,z⟩:=t.open (by intro e;have:=congrArg length e;rw[length_map,length_nil]at this;have b:=congrArg length p2;rw[length_map]at b;omega)
  subst l
  obtain⟨O,L,f,d,c⟩:=Cn z p2 B a
  refine gh ?_
  refine lq (AE rfl rfl rfl rfl (f.cj _)) ?_
  refine gq (GM _ _ xs[k] M ⟨_,_,rfl,h,g⟩ ⟨_,_,rfl,d,c⟩) ?_
  refine Bw (k+1) (by omega)
 refine gr ?_
 rfl
theorem Xw(w:Wt)(d c:Option Addr)(b a:Nat)(M:Mem)(f:BS M (.slice d w.2.length b) w.2)(e:BS M (.slice c w.2.length a) w.2):
  SpecL prog 162 #[.agg (Wj w d b).toArray,.agg (Wj w c a).toArray] M [] λr M' g=>r=.bool true/\g=[]:=by
 refine sB func162 ntmps162 ?_;intro W
 refine gh ?_
 refine lh (Bf (cs:=Wj w d b) rfl rfl rfl rfl) ?_;rintro _ _ _ ⟨i,rfl,rfl,rfl⟩
 refine lh (Bf (cs:=Wj w c a) rfl rfl rfl rfl) ?_;rintro _ _ _ ⟨h,rfl,rfl,rfl⟩
 refine gt ?_
 refine gq (GM _ _ w.2 M f e) ?_
 refine gr ?_
 grind
theorem Zo(u v:Value)(xs:List Wt)(M:Mem)(R:WS M u xs)(c:WS M v xs)(hn:xs.length<=1000000):
  SpecL prog 161 #[u,v,.func (.func 162) #[] #[]] M [] λr M' X=>r=.bool true/\X=[]:=by
 obtain⟨C,B,N,rfl,_,E,z,J⟩:=R
 obtain⟨T,S,L,rfl,_,D,p2,I⟩:=c
 refine sB func161 ntmps161 ?_;intro W
 refine gt ?_
 refine Cz (α:=Nat×Mem) (λy=>[(0,.slice C xs.length B),(1,.slice T xs.length S),(2,.func (.func 162) #[] #[]),(15,.slice C xs.length B),(16,.int .i64 xs.length),(17,.int .i64 (y.1:Int))]) (λy=>y.2) (λ_=>[]) (λy=>y.1<=xs.length/\MLe M y.2) (λy=>xs.length-y.1) (0,M) ⟨Nat.zero_le _,MLe.refl _⟩ ?_
 rintro⟨k,U⟩ ⟨Q,a⟩
 try dsimp only at Q a⊢
 refine gj (λo=>?_) λo=>?_
 ·refine gh ?_
  have b:k<xs.length:=by omega
  obtain⟨pb,po,t,K⟩:=E.open (by intro e;have:=congrArg length e;rw[Aj AT 2 Bl,length_nil]at this;have c:=congrArg length z;rw[length_map]at c;omega)
  subst t
  obtain⟨P,O,l,j,h⟩:=Ei K z J b
  refine gh ?_
  refine lq (Bb (cs:=Wj xs[k] P O) rfl rfl rfl rfl rfl (λi v m=>((l i v m).mono a).cj _)) ?_
  refine ga λb8=>?_
  obtain⟨Z,Y,s,F⟩:=D.open (by intro e;have:=congrArg length e;rw[Aj AT 2 Bl,length_nil]at this;have c:=congrArg length p2;rw[length_map]at c;omega)
  subst s
  obtain⟨H,G,g,f,d⟩:=Ei F p2 I b
  refine gh ?_
  refine lq (Bb (cs:=Wj xs[k] H G) rfl rfl rfl rfl rfl (λi v m=>((g i v m).mono a).cj _)) ?_
  refine ga λb9=>?_
  refine gc (Xw xs[k] _ _ _ _ U ⟨_,_,rfl,j,h.mono a⟩ ⟨_,_,rfl,f,d.mono a⟩) ?_;rintro _ V n rfl
  refine gh ?_
  refine Bw (k+1,V) ⟨by show k+1<=_;omega,a.trans n⟩
 refine gr ?_
 grind
theorem VV(b w e f:Sl)(bs:List (List By))(ws:List Wt)(M:Mem)(i:LS M b.v bs)(h:WS M w.v ws)(g:LS M e.v bs)(d:WS M f.v ws)(a:dkOk bs ws):
  SpecL prog 95 #[.agg #[b.v,w.v],.agg #[e.v,f.v]] M [] λr M' j=>r=.bool true/\j=[]:=by
 refine sB func95 ntmps95 ?_;intro W
 refine EV λl k=>?_
 refine gq (wFb b.v e.v bs M i g (by have:=a.1;omega)) ?_
 refine gc (Zo w.v f.v ws M h d (by have:=a.2.1;omega)) ?_;rintro _ m c rfl
 refine gr ?_
 grind
theorem UL(b w n l e f g h:Sl)(s:Sto)(M:Mem)(y:LS M b.v s.blocks)(u:WS M w.v s.waits)(k:BS M n.v s.now)(m:BS M l.v s.last)(t:LS M e.v s.blocks)(o:WS M f.v s.waits)(c:BS M g.v s.now)(d:BS M h.v s.last)(i:dkOk s.blocks s.waits):
  SpecL prog 46 #[.agg #[b.v,w.v,n.v,l.v],.agg #[e.v,f.v,g.v,h.v]] M [] λr M' z=>r=.bool true/\z=[]:=by
 refine sB func46 ntmps46 ?_;intro W
 refine EV λC B=>?_
 refine gc (VV b w e f s.blocks s.waits M y u t o i) ?_;rintro _ j a rfl
 refine gq (GM n.v g.v s.now j (k.mono a) (c.mono a)) ?_
 refine gq (GM l.v h.v s.last j (m.mono a) (d.mono a)) ?_
 refine gr ?_
 grind
theorem VM(x y:V5)(p:Po)(M:Mem)(e:PT5 M x p)(c:PT5 M y p)(g:dkOk p.st.blocks p.st.waits)(f:p.dead.length<=1000000):
  SpecL prog 19 #[.agg (AO x p.gen p.root p.next).toArray,.agg (AO y p.gen p.root p.next).toArray] M [] λr M' i=>r=.bool true/\i=[]:=by
 refine sB func19 ntmps19 ?_;intro W
 refine EV λk j=>?_
 refine gc (UL x.b x.w x.n x.l y.b y.w y.n y.l p.st M e.b e.w e.n e.l c.b c.w c.n c.l g) ?_;rintro _ h a rfl
 refine gt ?_
 refine gq (wCg x.d.v y.d.v p.dead h (e.d.mono a) (c.d.mono a) f) ?_
 refine gr ?_
 grind
set_option maxRecDepth 8000
set_option maxHeartbeats 40000000
def shE(s:Sto):List It->Int
 |[]=>0
 |x::xs=>if x.ref=0 then shE s xs else if shareE s x.ref.toNat=0 then shE (AQ s x.ref.toNat) xs else shareE s x.ref.toNat
variable{k:Nat}{s:Sto}{xs:List It}
theorem UH(h:k<xs.length):shE (Ag s (xs.take k)) (xs.drop k)=if xs[k].ref=0 then shE (Ag s (xs.take (k+1))) (xs.drop (k+1))else if shareE (Ag s (xs.take k)) xs[k].ref.toNat=0 then shE (Ag s (xs.take (k+1))) (xs.drop (k+1))else shareE (Ag s (xs.take k)) xs[k].ref.toNat:=by
 rw[List.drop_eq_getElem_cons h,shE,EB h]
 grind
def mkE(s:Sto)(lv:Int)(xs:List It):Int:=if Cw lv xs=true then (if shE s xs=0 then (if mkAt (Ag s xs)=256\/s.waits.length=4096 then 9 else 0)else shE s xs)else 8
theorem Rx(s:Sto):∀(f k:Nat),frAt s f k<=k+f
 |0,k=>Nat.le_refl _
 |f+1,k=>by
  rw[frAt];split
  ·omega
  have:=Rx s f (k+1);omega
variable{M':Mem}{lv:Int}{u:Value}
theorem wMr(h:if Cw lv xs then ∃s,u=.tuple #[s,.int .i64 0]/\BS M' s (Je lv xs)else u=.tuple #[.slice none 0 0,.int .i64 8]):
  ∃a n c e,u=.tuple #[.slice a n c,.int .i64 e]/\((e=0/\Cw lv xs=true/\n=(Je lv xs).length/\BS M' (.slice a (Je lv xs).length c) (Je lv xs))\/(e=8/\¬Cw lv xs=true)):=by
 split at h
 ·rename_i b
  obtain⟨s,rfl,a,c,rfl,f,d⟩:=h
  exact⟨a,_,c,0,rfl,.inl ⟨rfl,b,rfl,a,c,rfl,f,d⟩⟩
 grind
variable{M:Mem}{a:Option Addr}{n:Nat}
theorem BS.cap_le{c:Nat}{xs:List By}(h:BS M (.slice a n c) xs):xs.length<=c:=by
 obtain⟨_,_,e,b,_⟩:=h
 grind
theorem wHw(s:Sto):mkAt s<=256:=Rx s 248 8
theorem XT(h:¬shareE s k=0):(s.now.getD k 0=0/\shareE s k=6)\/(s.now.getD k 0=255/\shareE s k=70):=by
 grind[shareE]
theorem XS(s:Sto)(k l:Nat)(hk:k<s.now.length)(r:¬shareE s k=0)(z n lv:Value)(j:Option Addr)(i:Nat)(B m:Lc)(M:Mem)(a:Own (.slice j s.now.length i) m 5 1 s.now.length (Ab s.now)):
  SpecL prog 184 #[pB l,.int .i64 k] M ((l,cE [z,n,.slice j s.now.length i,lv] Ee)::(B++m)) λu M' D=>u=.int .i64 (shareE s k):=by
 have d:(Ab s.now)[k]? =some (.int .u8 ((s.now.getD k 0).toNat:Int)):=Cc hk
 obtain⟨C,h,g,y,t,_⟩:=a.open (by omega)
 cases y;cases t
 have c:=XT r
 have o:=(s.now.getD k 0).toNat_lt
 refine sB func184 ntmps184 ?_;intro W
 refine gh ?_
 refine lq (AE rfl rfl rfl rfl (by rw[Nat.mul_one,Nat.zero_add];exact a.cj (by simp) d)) ?_
 refine gj (λf=>?_) λf=>?_
 ·refine gr ?_
  rcases c with⟨_,b⟩|⟨b,_⟩
  ·grind
  simp_all
 refine gj (λe=>?_) λe=>?_
 ·refine gr ?_
  rcases c with⟨b,_⟩|⟨_,b⟩
  ·simp_all
  grind
 exfalso;rcases c with⟨b,_⟩|⟨b,_⟩
 ·simp_all
 simp_all
theorem P0(s:Sto)(k a:Nat)(hk:k<s.now.length)(M:Mem)(b:Lc)(h:BOwn M a b s):SpecL prog 184 #[pB a,.int .i64 k] M b λu M' c=>u=.int .i64 (shareE s k)/\(shareE s k=0->BOwn M' a c (AQ s k)):=by
 by_cases g:shareE s k=0
 ·grind [Nv]
 obtain⟨n,d,f,e,lv,o,r,rfl,m,l,j,i⟩:=h
 grind[XS]
theorem Ls(s:Sto)(lv:Int)(xs:List It)(a:Option Addr)(c:Nat)(ps:List (It×Value))(M:Mem)(hc:xs.length<=c)(hs:SM M a (ps.flatMap Ac))(hp:ps.map (·.1)=xs)(hb:∀p∈ps,BS M p.2 p.1.val)(au:∀x∈xs,0<=x.key.kind/\x.key.kind<256)(r:Nat)(Lb:Lc)(a3:BOwn M r Lb s)(al:s.now.length=256)(ap:s.last.length=256)(a9:s.waits.length<=4096):
  SpecL prog 155 #[pB r,.agg #[.int .i64 lv,.slice a xs.length c]] M Lb λu M' L'=>∃at_ e,u=.tuple #[.int .i64 at_,.int .i64 e]/\e=mkE s lv xs/\(e=0->at_=(mkAt (Ag s xs):Int)/\BOwn M' r L' (mkS s lv xs)):=by
 have aL:NS M (.slice a xs.length c) xs:=⟨a,c,ps,rfl,hc,hs,hp,hb⟩
 refine sB func155 ntmps155 ?_;intro W
 refine ga λb3=>?_
 refine gc (LK lv xs a c ps M hc hs hp hb au) ?_;rintro _ M1 z ah
 obtain⟨n,aD,l,e6,rfl,G⟩:=wMr ah
 simp only[List.nil_append]
 refine gj (λa7=>?_) λa7=>?_
 ·refine gr ?_
  grind[mkE]
 refine gh ?_
 obtain⟨ay,ag,ak,E⟩|⟨ay,o⟩:=G
 rotate_left
 ·omega
 subst ak
 have aA:=E.cap_le
 have o:=NdOk.of ag
 have aB:=o.len
 have aP:(Je lv xs).length=128:=by
  refine F2 ?_
  have:=Gf (λx V=>(BX o.ok x V).1)
  grind[C4]
 refine Cz (α:=Nat×Mem×Lc) (λx=>[(0,pB r),(3,pB b3),(6,.slice n (Je lv xs).length l),(19,.slice a xs.length c),(20,.int .i64 xs.length),(21,.int .i64 x.1)]) (λx=>x.2.1) (λx=>(b3,cE [.int .i64 lv,.slice a xs.length c] 135)::x.2.2) (λx=>x.1<=xs.length/\MLe M1 x.2.1/\BOwn x.2.1 r x.2.2 (Ag s (xs.take x.1))/\shE s xs=shE (Ag s (xs.take x.1)) (xs.drop x.1)) (λx=>xs.length-x.1) (0,M1,Lb) ⟨Nat.zero_le _,MLe.refl _,a3.mono z,rfl⟩ ?_
 rintro⟨k,O,Lk⟩ ⟨hk,d,C,N⟩
 try dsimp only at hk d C N⊢
 refine gj (λa6=>?_) λa6=>?_
 ·refine gh ?_
  have b:k<xs.length:=by omega
  have ab:=hs.mono (z.trans d)
  have a0:=λp hp=>(hb p hp).mono (z.trans d)
  obtain⟨sb,so,J,V⟩:=ab.open (by intro e;have:=congrArg length e;rw[Aj Ac 5 Ad,length_nil]at this;have h2:=congrArg length hp;rw[length_map]at h2;omega)
  subst J
  obtain⟨va,vc,az,aH,aF⟩:=Au V hp a0 b
  have aE:=o.ref xs[k] (getElem_mem b)
  have H:=(CB s (xs.take k)).1
  refine gh ?_
  refine lq (Bb (cs:=Fk xs[k] va vc) rfl rfl rfl rfl rfl (λi v hv=>(az i v hv).cj _)) ?_
  refine gA λb8=>?_
  refine gj (λg=>?_) λg=>?_
  ·refine gh ?_
   refine Bw (k+1,O,Lk) ⟨by show k+1<=xs.length;omega,d,by show BOwn _ _ _ (Ag s (xs.take (k+1)));rw[EB b,if_pos g];exact C,by show shE s xs=shE (Ag s (xs.take (k+1))) (xs.drop (k+1));rw[N,UH b,if_pos g]⟩
  refine gh ?_
  have aq:((xs[k].ref.toNat:Nat):Int)=xs[k].ref:=Int.toNat_of_nonneg (by omega)
  refine lh (Bu rfl rfl rfl rfl rfl (by kernel_rfl) (by have:=P0 (Ag s (xs.take k)) xs[k].ref.toNat r (by omega) O Lk C;rwa[aq]at this)) ?_;rintro _ Mn _ ⟨a1,R',rfl,⟨rfl,a2⟩⟩
  refine gj (λI=>?_) λI=>?_
  ·refine gr ?_
   grind[UH,mkE]
  refine gh ?_
  have y:=Classical.not_not.1 I
  refine Bw (k+1,Mn,R') ⟨by show k+1<=xs.length;omega,d.trans a1,by show BOwn _ _ _ (Ag s (xs.take (k+1)));rw[EB b,if_neg g];exact a2 y,by show shE s xs=shE (Ag s (xs.take (k+1))) (xs.drop (k+1));rw[N,UH b,if_neg g,if_pos y]⟩ (hs:=λw h=>(h.perm List.perm_append_comm).fewer (by simp))
 refine gh ?_
 obtain rfl:k=xs.length:=by omega
 rw[List.take_length]at C
 obtain⟨t,ht⟩:∃t,t=Ag s xs:=⟨_,rfl⟩
 obtain⟨af,ae,ad,ac⟩:=CB s xs
 rw[<-ht]at C af ae ad ac
 have aQ:shE s xs=0:=by rw[N,List.drop_length];rfl
 obtain⟨bv,wv,na,U,lw,Rw,Rn,rfl,g2,g3,g4,g5⟩:=C
 obtain⟨wa,wc,rfl⟩:=g5.form
 have aJ:t.now.length=256:=by omega
 have aK:t.last.length=256:=by grind
 obtain⟨T,a8,D,J,e1,_⟩:=g4.open (by omega)
 cases J;cases e1
 obtain⟨la,lc,rfl,aM,ao⟩:=id g3
 obtain⟨lb,lo,J,am⟩:=ao.open (by intro e;have:=congrArg length e;rw[Af,length_nil]at this;omega)
 subst J
 refine Cz (α:=Nat) (λj=>[(0,pB r),(4,.int .i64 (j:Int)),(6,.slice n (Je lv xs).length l)]) (λ_=>O) (λ_=>(b3,cE [.int .i64 lv,.slice a xs.length c] 135)::(r,cE [bv,.slice wa t.waits.length wc,.slice (some ⟨T,0,none⟩) t.now.length U,.slice (some ⟨lb,lo,none⟩) t.last.length lc] Ee)::(Rw++[(T,.cells D 5 (0,0))])) (λj=>j<=256/\frAt t (256-j) j=mkAt t) (λj=>256-j) 8 ⟨by omega,rfl⟩ ?_
 rintro j ⟨hj,hI⟩
 try dsimp only at hj hI⊢
 have F:Uh .u8 ((t.now.getD j 0).toNat:Int) ((t.last.getD j 0).toNat:Int)=((t.now.getD j 0 ||| t.last.getD j 0).toNat:Int):=Wb _ _
 refine gh ?_
 refine JG [0,1,2,3,4,5,6,7,8,9,10,11,12,13,14,15,16,17,18,19,20,21] ?_
 refine gj (λa5=>?_) λa5=>?_
 ·refine gh ?_
  have av:(Ab t.now)[j]? =some (.int .u8 ((t.now.getD j 0).toNat:Int)):=Cc (by omega)
  have aw:(Ab t.last)[j]? =some (.int .u8 ((t.last.getD j 0).toNat:Int)):=Cc (by omega)
  refine dq rfl (AE rfl rfl rfl rfl (by rw[Nat.mul_one,Nat.zero_add];exact g4.cj (by simp) av)) ?_
  refine gh ?_
  refine dq rfl (AE rfl rfl rfl rfl ((am _ _ (by rw[Nat.mul_one];exact aw)).cj _)) ?_
  refine dq rfl (F5 rfl rfl rfl rfl rfl) ?_
  refine gj (λB=>?_) λB=>?_
  ·refine gh ?_
   have aj:¬Fm t j:=λhf=>B (by rw[F,(Kf _ _).2 hf];rfl)
   refine Bw (j+1) ⟨by omega,by rw[<-Xf (by omega) aj];exact hI⟩
  refine gt ?_
  refine gj (λa4=>?_) λa4=>?_
  ·refine gr ?_
   grind[mkE]
  refine gh ?_
  refine lh (Aa (cs:=[_,_]) rfl rfl rfl (by rfl) (by rfl) (by rfl)) ?_;rintro _ _ _ ⟨aS,rfl,rfl,rfl⟩
  have aI:t.waits.length<4096:=by grind
  obtain⟨P,aa,Z,Y⟩:=id g5
  have aN:Fm t j:=(Kf _ _).1 (UInt8.toNat.inj (by have:=Classical.not_not.1 B;rw[F]at this;simpa using this))
  have ax:mkAt t=j:=by grind[Xg]
  refine lh (Tz (R:=Rw) (m:=1) (news:=[.int .i64 (j:Int),.slice n (Je lv xs).length l]) rfl rfl rfl rfl Y rfl (λi v hv=>CJ.loc (by simpa using hv)) rfl (by rfl) (by simp[Value.oneCell']) (by omega) (by omega) (by omega)) ?_;rintro _ _ _ ⟨rfl,K,rfl,f⟩
  obtain⟨S,Q,rfl⟩:=f.form
  refine gh ?_
  refine Dz rfl (CZ (u:=.int .u8 1) rfl rfl rfl rfl rfl rfl g4 rfl (by omega)) ?_;rintro _ _ _ ⟨rfl,L,rfl,ai⟩
  refine gh ?_
  refine AK (M':=O) (L':=(r,cE [bv,.slice S (t.waits.length+1) Q,.slice (some ⟨T,0,none⟩) t.now.length U,.slice (some ⟨lb,lo,none⟩) t.last.length lc] Ee)::(K++L)) (λw h=>?_) ?_
  ·have h2:=h.perm wLd
   exact h2.fewer (.cons _ (.cons _ (.refl _)))
  refine wFo rfl rfl rfl ?_
  have hT:mkS s lv xs=Jc t j (Je lv xs):=by grind[mkS]
  refine⟨_,_,rfl,?_,λ_=>⟨by rw[<-ht,ax],?_⟩⟩
  ·grind [mkE]
  rw[hT]
  have H:(Jc t j (Je lv xs)).now.length=t.now.length:=by grind[Jc]
  have X:(Jc t j (Je lv xs)).waits.length=t.waits.length+1:=by grind[Jc]
  refine⟨bv,_,_,U,_,K,L,by rw[H],g2,g3,?_,P++[(((j:Int),Je lv xs),.slice n (Je lv xs).length l)],?_,?_,.inl ?_⟩
  ·simp_all [Ab,Jc,Je]
  ·rw [List.map_append,aa];rfl
  ·intro p hp;rcases List.mem_append.1 hp with hp|hp
   ·exact Z p hp
   rw[List.mem_singleton.1 hp];exact E.mono d
  rw[X,List.flatMap_append];exact f
 refine gu ?_
 obtain rfl:j=256:=by omega
 refine⟨_,_,rfl,?_,λh=>by cases h⟩
 have aC:mkAt t=256:=hI.symm
 grind[mkE]
set_option maxRecDepth 8000
set_option maxHeartbeats 40000000
def looseE(s:Sto)(k:Nat):Int:=if s.now.getD k 0=0 then 6 else 0
def AF(s:Sto)(k:Nat):Sto:={ s with now:=s.now.set k (s.now.getD k 0-1) }
theorem NU(s:Sto)(k:Nat):(AF s k).now.length=s.now.length:=by grind[AF]
variable{b:By}
theorem RD(h:b≠0):((b-1).toNat:Int)=(b.toNat:Int)-1/\1<=(b.toNat:Int):=by
 have d:=b.toNat_lt
 have c:b.toNat≠0:=λe=>h (UInt8.toNat.inj e)
 have a:(1:By)<=b:=by grind
 rw[UInt8.toNat_sub_of_le _ _ a]
 grind
theorem Yv(s:Sto)(k g:Nat)(hk:k<s.now.length)(t:s.now.getD k 0=0)(n i lv:Value)(f:Option Addr)(e:Nat)(o h:Lc)(M:Mem)(a:Own (.slice f s.now.length e) h 5 1 s.now.length (Ab s.now)):
  SpecL prog 136 #[pB g,.int .i64 k] M ((g,cE [n,i,.slice f s.now.length e,lv] Ee)::(o++h)) λu M' z=>u=.int .i64 6:=by
 have b:(Ab s.now)[k]? =some (.int .u8 ((s.now.getD k 0).toNat:Int)):=Cc hk
 obtain⟨r,d,c,m,l,_⟩:=a.open (by omega)
 cases m;cases l
 have j:=(s.now.getD k 0).toNat_lt
 have y:((s.now.getD k 0).toNat:Int)=0:=by simp_all
 refine sB func136 ntmps136 ?_;intro W
 refine gh ?_
 refine lq (AE rfl rfl rfl rfl (by rw[Nat.mul_one,Nat.zero_add];exact a.cj (by simp) b)) ?_
 refine gu ?_
 rfl
theorem Vg(s:Sto)(k e:Nat)(hk:k<s.now.length)(B:¬s.now.getD k 0=0)(l i lv:Value)(f:Option Addr)(c:Nat)(g o:Lc)(M:Mem)(a:Own (.slice f s.now.length c) o 5 1 s.now.length (Ab s.now)):
  SpecL prog 136 #[pB e,.int .i64 k] M ((e,cE [l,i,.slice f s.now.length c,lv] Ee)::(g++o)) λu M' L'=>u=.int .i64 0/\M'=M/\∃b,L'=(e,cE [l,i,.slice f s.now.length c,lv] Ee)::(g++b)/\Own (.slice f s.now.length c) b 5 1 s.now.length (Ab (AF s k).now):=by
 have d:(Ab s.now)[k]? =some (.int .u8 ((s.now.getD k 0).toNat:Int)):=Cc hk
 obtain⟨r,n,m,D,C,_⟩:=a.open (by omega)
 cases D;cases C
 have t:=(s.now.getD k 0).toNat_lt
 obtain⟨z,y⟩:=RD B
 refine sB func136 ntmps136 ?_;intro W
 refine gh ?_
 refine lq (AE rfl rfl rfl rfl (by rw[Nat.mul_one,Nat.zero_add];exact a.cj (by simp) d)) ?_
 refine gt ?_
 refine lq (AE rfl rfl rfl rfl (by rw[Nat.mul_one,Nat.zero_add];exact a.cj (by simp) d)) ?_
 refine lq (wMo rfl rfl rfl rfl rfl (by rw[IntKind.wrap_u8];omega)) ?_
 refine gh ?_
 refine Dz rfl (CZ rfl rfl rfl rfl rfl rfl a rfl (by omega)) ?_;rintro _ _ _ ⟨rfl,b,rfl,j⟩
 refine gh ?_
 refine AK (L':=(e,cE [l,i,.slice (some ⟨r,0,none⟩) s.now.length c,lv] Ee)::(g++b)) (λw h=>h.perm ?_) ?_
 ·simpa using (List.perm_append_comm (l₁:=b) (l₂:=(e,_)::g))
 refine Gd rfl rfl ?_
 simp_all [Ab,AF]
theorem Gc(s:Sto)(k a:Nat)(hk:k<s.now.length)(M:Mem)(l:Lc)(h:BOwn M a l s):SpecL prog 136 #[pB a,.int .i64 k] M l λu M' m=>u=.int .i64 (looseE s k)/\(looseE s k=0->BOwn M' a m (AF s k)):=by
 obtain⟨i,c,e,d,lv,j,E,rfl,t,r,o,n⟩:=h
 by_cases g:s.now.getD k 0=0
 ·simp_all [looseE,Yv]
 have D:looseE s k=0:=if_neg g
 refine(Vg s k a hk g i c lv e d j E M o).mono λu M' m ⟨C,B,b,z,y⟩=>?_
 subst B
 have f:=NU s k
 exact⟨by rw[D];exact C,λ_=>⟨i,c,e,d,lv,j,b,by rw[f];exact z,t,r,by rw[f];exact y,n⟩⟩
set_option maxRecDepth 8000
variable{Lb:Lc}{M:Mem}{bb:Nat}{s:Sto}
theorem BOwn.bn(h:BOwn M bb Lb s)(F:(Lb.map (·.1)).Nodup)(t:∀p∈Lb,M p.1=none):BN (Gq M Lb) (pB bb) s:=by
 have d:=MY t
 have E:∀p∈Lb,Gq M Lb p.1=some p.2:=λp f=>GT F f
 obtain⟨z,y,C,B,lv,L,N,P,J,I,H,k,m,l,j⟩:=h
 have o:∀p∈(bb,cE [z,y,.slice C s.now.length B,lv] Ee)::(L++N),Gq M Lb p.1=some p.2:=by grind
 refine⟨bb,z,y,_,lv,rfl,o (bb,_) List.mem_cons_self,J.mono d,?_,?_,I.mono d⟩
 ·rcases j with j|⟨rfl,G,K,rfl,g,hold⟩
  ·obtain ⟨a,c,rfl,r,n⟩:=j.lent (M:=Gq M Lb) (λp f=>o p (by simp[f]))
   exact⟨a,c,k,rfl,r,n,m,λp f=>(l p f).mono d⟩
  refine⟨_,_,k,rfl,Nat.le_refl _,?_,m,λp f=>(l p f).mono d⟩
  rcases g with t|g
  ·exact .inl t
  obtain⟨b,of,O⟩:=K
  simp only at g
  subst g
  exact .inr ⟨b,of,rfl,λi u D=>(hold i u D).mono d⟩
 obtain⟨a,c,e,r,n⟩:=H.lent (M:=Gq M Lb) (λp f=>o p (by simp[f]))
 cases e
 exact⟨_,_,rfl,r,n⟩
theorem Lr(s:Sto)(k e:Nat)(hk:k<256)(c:Aq s)(M:Mem)(a:Lc)(h:BOwn M e a s):SpecL prog 121 #[pB e,.int .i64 k] M a λu M' b=>BnPost s k u M'/\b=a:=by
 have:=SpecL.lend (R:=a) (L:=[]) (post:=λu M' b=>BnPost s k u (Cf (Gq M a) M')/\b=[]) (λd g=>QI s k _ (Gq M a) c hk (h.bn d g))
 rw[List.append_nil]at this
 refine this.mono ?_
 rintro u M' b ⟨i,j,⟨f,rfl⟩,rfl,rfl,d⟩
 exact⟨f.mono (Yo d),by simp⟩
set_option maxRecDepth 8000
set_option maxHeartbeats 40000000
structure CE(M:Mem)(s:Sto)(b1 b2 b3:Nat):Prop where
 st:∃bv wv nv lv,M b1=some (cE [bv,wv,nv,lv] 32)/\BS M nv s.now
 bn:∃v,M b2=some (cE [v] 141)/\BN M v s
 cl:M b3=some (cE [.func (.func 180) #[] #[pB b1,pB b2,pB b3]] 272)
variable{M:Mem}{b1:Nat}{s:Sto}
theorem CE.mono{M':Mem}{g f:Nat}(h:CE M s b1 g f)(e:MLe M M'):CE M' s b1 g f:=by
 obtain⟨⟨a,b,c,d,m,l⟩,⟨v,k,j⟩,i⟩:=h
 exact⟨⟨a,b,c,d,e _ _ m,l.mono e⟩,⟨v,e _ _ k,j.mono e⟩,e _ _ i⟩
theorem VI(s:Sto)(G:Aq s)(T S R:Nat)(xs:List It)(a:Option Addr)(c:Nat)(ps:List (It×Value))(M:Mem)(N:CE M s T S R)(hc:xs.length<=c)(hs:SM M a (ps.flatMap Ac))(hp:ps.map (·.1)=xs)(hb:∀p∈ps,BS M p.2 p.1.val)(y:NdOk 0 xs):
  SpecL prog 180 #[.agg #[.int .i64 0,.slice a xs.length c],pB T,pB S,pB R] M [] λv _ _=>v=.agg (LE (A2 (AL s 0) none xs)).toArray:=by
 have ae:=y.lev
 have V:=y.len
 refine sB func180 ntmps180 ?_;intro W
 refine Rl λZ Y X=>?_
 refine Cz (α:=Nat×Mem×Option Sp) (λx=>[(1,pB T),(2,pB S),(3,pB R),(4,pB Z),(5,pB Y),(6,pB X),(13,.slice a xs.length c),(14,.int .i64 xs.length),(15,.int .i64 x.1)]) (λx=>x.2.1) (λx=>[(X,cE (LE (x.2.2.getD Co)) 274),(Y,cE (LE Co) 274),(Z,cE [.int .i64 0,.slice a xs.length c] 135)]) (λx=>x.1<=xs.length/\MLe M x.2.1/\(x.2.2=none↔x.1=0)/\A2 (AL s 0) none xs=A2 (AL s 0) x.2.2 (xs.drop x.1)) (λx=>xs.length-x.1) (0,M,none) ⟨Nat.zero_le _,MLe.refl _,by simp,rfl⟩ ?_
 rintro⟨k,F,o⟩ ⟨hk,n,d,u⟩
 try dsimp only at hk n d u⊢
 have E:=N.mono n
 have H:=hs.mono n
 have O:=λp hp=>(hb p hp).mono n
 refine gj (λP=>?_) λP=>?_
 ·refine gh ?_
  have l:k<xs.length:=by omega
  obtain⟨sb,so,Q,hx⟩:=H.open (by intro e;have:=congrArg length e;rw[Aj Ac 5 Ad,length_nil]at this;have h2:=congrArg length hp;rw[length_map]at h2;omega)
  subst Q
  obtain⟨va,vc,L,ac,ab⟩:=Au hx hp O l
  have aa:=y.ref xs[k] (getElem_mem l)
  refine gh ?_
  refine lq (Bb (cs:=Fk xs[k] va vc) rfl rfl rfl rfl rfl (λi v hv=>(L i v hv).cj _)) ?_
  refine ga λb8=>?_
  refine JG [0,1,2,3,4,5,6,7,8,9,10,11,12,13,14,15,16,117,118] ?_
  refine gj (λB=>?_) λB=>?_
  ·refine gh ?_
   refine DA rfl rfl rfl (AM rfl rfl) ?_;rintro _ _ _ ⟨b9,rfl,rfl,rfl⟩
   refine Cp (MLe.refl _) (λ_ h=>mem_cons_of_mem _ h) (by first|exact MLe.refl _|assumption) (by simp) ?_
   refine Df rfl rfl (Ae rfl rfl rfl rfl rfl rfl rfl rfl) ?_;rintro _ _ _ ⟨rfl,rfl⟩
   refine Cp (MLe.refl _) (λ_ h=>mem_cons_of_mem _ h) (by first|exact MLe.refl _|assumption) (by simp) ?_
   refine gt ?_
   obtain⟨p,b⟩:∃p:Sp,p=AL s 0 xs[k]:=⟨_,rfl⟩
   rw[show ([.int .u8 xs[k].key.kind,.int .u32 xs[k].key.id,.int .u32 xs[k].key.off,.int .u8 xs[k].key.kind,.int .u32 xs[k].key.id,.int .u32 xs[k].key.off,.bool true]:List Value)=LE p by rw[b];simp[LE,AL,B]]
   refine Br rfl rfl (AE rfl rfl rfl rfl (CJ.loc rfl)) (λg=>?_) (λg=>?_)
   ·refine gg ?_
    refine Br rfl rfl (UZ (ns:=[p.first.kind,p.first.id,p.first.off]) (ms:=[xs[k].key.kind,xs[k].key.id,xs[k].key.off]) rfl rfl rfl rfl rfl rfl ⟨rfl,rfl⟩) (λf=>?_) (λf=>?_)
    ·refine gr ?_
     show Value.agg (LE Co).toArray=_
     rw[Dm l u (by first|(rw[<-b];simp[As,g];done)|(rw[<-b];simp[As,show ¬p.first=xs[k].key from λe=>of_decide_eq_true f (by rw[e])];done)|(obtain⟨q,rfl⟩:=Option.ne_none_iff_exists'.1 (λe=>by have:=d.1 e;omega:o≠none);rw[<-b];simp[As,show Ap q.last p.first=false from m]))]
    refine gj (λz=>?_) λz=>?_
    ·refine gg ?_
     refine Br rfl rfl (CG rfl rfl rfl rfl rfl (by kernel_rfl) (Cd (o.getD Co).last p.first _)) (λm=>?_) (λm=>?_)
     ·refine gj (λt=>?_) λt=>?_
      ·exfalso;omega
      refine gh ?_
      have r:p.first=xs[k].key:=by have:=DZ p.first xs[k].key;rw[decide_eq_true (Classical.not_not.1 (of_decide_eq_false f))]at this;exact of_decide_eq_true this.symm
      obtain⟨q,rfl⟩:∃q,o=some q:=by
        cases o with
        |none=>have:=d.1 rfl;omega
        |some q=>exact⟨q,rfl⟩
      refine Bw (k+1,F,some (A7 p (some q))) ⟨by show k+1<=xs.length;omega,n,by simp,?_⟩ (hs:=?_)
      ·show A2 _ _ _=A2 _ (some (A7 p _)) _
       rw[b];exact GV l u (by rw[<-b];simp[As,g,<-r,show Ap q.last p.first=true from m])
      intro w h;refine(h.fewer ?_:St _ _ _ w)
      first|exact .refl _|exact .cons _ (.refl _)|exact .cons _ (.cons _ (.refl _))|exact .cons _ (.cons _ (.cons _ (.refl _)))|exact .cons _ (.cons _ (.cons _ (.cons _ (.refl _))))|exact .cons _ (.cons _ (.cons _ (.cons _ (.cons _ (.refl _)))))
     refine gr ?_
     show Value.agg (LE Co).toArray=_
     rw[Dm l u (by first|(rw[<-b];simp[As,g];done)|(rw[<-b];simp[As,show ¬p.first=xs[k].key from λe=>of_decide_eq_true f (by rw[e])];done)|(obtain⟨q,rfl⟩:=Option.ne_none_iff_exists'.1 (λe=>by have:=d.1 e;omega:o≠none);rw[<-b];simp[As,show Ap q.last p.first=false from m]))]
    refine gj (λt=>?_) λt=>?_
    ·refine gh ?_
     have r:p.first=xs[k].key:=by have:=DZ p.first xs[k].key;rw[decide_eq_true (Classical.not_not.1 (of_decide_eq_false f))]at this;exact of_decide_eq_true this.symm
     obtain rfl:o=none:=d.2 (by omega)
     refine Bw (k+1,F,some (A7 p none)) ⟨by show k+1<=xs.length;omega,n,by simp,?_⟩ (hs:=?_)
     ·show A2 _ _ _=A2 _ (some (A7 p _)) _
      rw[b];exact GV l u (by rw[<-b];simp[As,g,r])
     intro w h;refine(h.fewer ?_:St _ _ _ w)
     first|exact .refl _|exact .cons _ (.refl _)|exact .cons _ (.cons _ (.refl _))|exact .cons _ (.cons _ (.cons _ (.refl _)))|exact .cons _ (.cons _ (.cons _ (.cons _ (.refl _))))|exact .cons _ (.cons _ (.cons _ (.cons _ (.cons _ (.refl _)))))
    exfalso;omega
   refine gr ?_
   show Value.agg (LE Co).toArray=_
   rw[Dm l u (by first|(rw[<-b];simp[As,g];done)|(rw[<-b];simp[As,show ¬p.first=xs[k].key from λe=>of_decide_eq_true f (by rw[e])];done)|(obtain⟨q,rfl⟩:=Option.ne_none_iff_exists'.1 (λe=>by have:=d.1 e;omega:o≠none);rw[<-b];simp[As,show Ap q.last p.first=false from m]))]
  refine gh ?_
  obtain⟨bv,wv,nv,lw,C,D⟩:=E.st
  obtain⟨na,nc,rfl,ad,J⟩:=D
  have K:s.now.length=256:=G.2.1.1
  obtain⟨nb,no,Q,I⟩:=J.open (by intro e;have:=congrArg length e;rw[Af,length_nil]at this;omega)
  subst Q
  refine dq rfl (AE rfl rfl rfl rfl (CM.cj ⟨_,_,_,C,rfl⟩ _)) ?_
  refine gh ?_
  have U:0<=xs[k].ref/\xs[k].ref<256:=by omega
  refine gh ?_
  refine dq rfl (AE rfl rfl rfl rfl ((I _ _ (by rw[Nat.mul_one];exact Cc (j:=xs[k].ref.toNat) (by omega))).cj _)) ?_
  refine gh ?_
  refine DA rfl rfl rfl (AM rfl rfl) ?_;rintro _ _ _ ⟨b9,rfl,rfl,rfl⟩
  refine Cp (MLe.refl _) (λ_ h=>mem_cons_of_mem _ h) (by first|exact MLe.refl _|assumption) (by simp) ?_
  refine Df rfl rfl (Ae rfl rfl rfl rfl rfl rfl rfl rfl) ?_;rintro _ _ _ ⟨rfl,rfl⟩
  refine Cp (MLe.refl _) (λ_ h=>mem_cons_of_mem _ h) (by first|exact MLe.refl _|assumption) (by simp) ?_
  refine gt ?_
  obtain⟨p,b⟩:∃p:Sp,p=AL s 0 xs[k]:=⟨_,rfl⟩
  rw[show ([.int .u8 xs[k].key.kind,.int .u32 xs[k].key.id,.int .u32 xs[k].key.off,.int .u8 xs[k].key.kind,.int .u32 xs[k].key.id,.int .u32 xs[k].key.off,.bool (decide (0<((s.now.getD xs[k].ref.toNat 0).toNat:Int)))]:List Value)=LE p by rw[b];simp[LE,AL,B]]
  refine Br rfl rfl (AE rfl rfl rfl rfl (CJ.loc rfl)) (λg=>?_) (λg=>?_)
  ·refine gg ?_
   refine Br rfl rfl (UZ (ns:=[p.first.kind,p.first.id,p.first.off]) (ms:=[xs[k].key.kind,xs[k].key.id,xs[k].key.off]) rfl rfl rfl rfl rfl rfl ⟨rfl,rfl⟩) (λf=>?_) (λf=>?_)
   ·refine gr ?_
    show Value.agg (LE Co).toArray=_
    rw[Dm l u (by first|(rw[<-b];simp[As,g];done)|(rw[<-b];simp[As,show ¬p.first=xs[k].key from λe=>of_decide_eq_true f (by rw[e])];done)|(obtain⟨q,rfl⟩:=Option.ne_none_iff_exists'.1 (λe=>by have:=d.1 e;omega:o≠none);rw[<-b];simp[As,show Ap q.last p.first=false from m]))]
   refine gj (λz=>?_) λz=>?_
   ·refine gg ?_
    refine Br rfl rfl (CG rfl rfl rfl rfl rfl (by kernel_rfl) (Cd (o.getD Co).last p.first _)) (λm=>?_) (λm=>?_)
    ·refine gj (λt=>?_) λt=>?_
     ·exfalso;omega
     refine gh ?_
     have r:p.first=xs[k].key:=by have:=DZ p.first xs[k].key;rw[decide_eq_true (Classical.not_not.1 (of_decide_eq_false f))]at this;exact of_decide_eq_true this.symm
     obtain⟨q,rfl⟩:∃q,o=some q:=by
       cases o with
       |none=>have:=d.1 rfl;omega
       |some q=>exact⟨q,rfl⟩
     refine Bw (k+1,F,some (A7 p (some q))) ⟨by show k+1<=xs.length;omega,n,by simp,?_⟩ (hs:=?_)
     ·show A2 _ _ _=A2 _ (some (A7 p _)) _
      rw[b];exact GV l u (by rw[<-b];simp[As,g,<-r,show Ap q.last p.first=true from m])
     intro w h;refine(h.fewer ?_:St _ _ _ w)
     first|exact .refl _|exact .cons _ (.refl _)|exact .cons _ (.cons _ (.refl _))|exact .cons _ (.cons _ (.cons _ (.refl _)))|exact .cons _ (.cons _ (.cons _ (.cons _ (.refl _))))|exact .cons _ (.cons _ (.cons _ (.cons _ (.cons _ (.refl _)))))
    refine gr ?_
    show Value.agg (LE Co).toArray=_
    rw[Dm l u (by first|(rw[<-b];simp[As,g];done)|(rw[<-b];simp[As,show ¬p.first=xs[k].key from λe=>of_decide_eq_true f (by rw[e])];done)|(obtain⟨q,rfl⟩:=Option.ne_none_iff_exists'.1 (λe=>by have:=d.1 e;omega:o≠none);rw[<-b];simp[As,show Ap q.last p.first=false from m]))]
   refine gj (λt=>?_) λt=>?_
   ·refine gh ?_
    have r:p.first=xs[k].key:=by have:=DZ p.first xs[k].key;rw[decide_eq_true (Classical.not_not.1 (of_decide_eq_false f))]at this;exact of_decide_eq_true this.symm
    obtain rfl:o=none:=d.2 (by omega)
    refine Bw (k+1,F,some (A7 p none)) ⟨by show k+1<=xs.length;omega,n,by simp,?_⟩ (hs:=?_)
    ·show A2 _ _ _=A2 _ (some (A7 p _)) _
     rw[b];exact GV l u (by rw[<-b];simp[As,g,r])
    intro w h;refine(h.fewer ?_:St _ _ _ w)
    first|exact .refl _|exact .cons _ (.refl _)|exact .cons _ (.cons _ (.refl _))|exact .cons _ (.cons _ (.cons _ (.refl _)))|exact .cons _ (.cons _ (.cons _ (.cons _ (.refl _))))|exact .cons _ (.cons _ (.cons _ (.cons _ (.cons _ (.refl _)))))
   exfalso;omega
  refine gr ?_
  show Value.agg (LE Co).toArray=_
  rw[Dm l u (by first|(rw[<-b];simp[As,g];done)|(rw[<-b];simp[As,show ¬p.first=xs[k].key from λe=>of_decide_eq_true f (by rw[e])];done)|(obtain⟨q,rfl⟩:=Option.ne_none_iff_exists'.1 (λe=>by have:=d.1 e;omega:o≠none);rw[<-b];simp[As,show Ap q.last p.first=false from m]))]
 refine gr ?_
 show Value.agg (LE (o.getD Co)).toArray=_
 rw[VF (by omega) u]
theorem VH(s:Sto)(K:Aq s)(U T S:Nat)(xs:List It)(a:Option Addr)(c:Nat)(ps:List (It×Value))(M:Mem)(ad:CE M s U T S)(hc:xs.length<=c)(hs:SM M a (ps.flatMap Ac))(hp:ps.map (·.1)=xs)(hb:∀p∈ps,BS M p.2 p.1.val)(l:Nat)(lv:Int)(ax:lv=(l:Int)+1)(B:NdOk lv xs)(ih:∀(ys:List It)(v:Value)(M:Mem),CE M s U T S->NS M v ys->NdOk (l:Int) ys->SpecL prog 180 #[.agg #[.int .i64 (l:Int),v],pB U,pB T,pB S] M [] λu _ _=>u=.agg (LE (A2 (AL s l) none ys)).toArray):
  SpecL prog 180 #[.agg #[.int .i64 lv,.slice a xs.length c],pB U,pB T,pB S] M [] λv _ _=>v=.agg (LE (A2 (AL s (l+1)) none xs)).toArray:=by
 have aw:=B.lev
 have am:=B.len
 refine sB func180 ntmps180 ?_;intro W
 refine Rl λb4 b5 b6=>?_
 refine Cz (α:=Nat×Mem×Option Sp) (λx=>[(1,pB U),(2,pB T),(3,pB S),(4,pB b4),(5,pB b5),(6,pB b6),(13,.slice a xs.length c),(14,.int .i64 xs.length),(15,.int .i64 x.1)]) (λx=>x.2.1) (λx=>[(b6,cE (LE (x.2.2.getD Co)) 274),(b5,cE (LE Co) 274),(b4,cE [.int .i64 lv,.slice a xs.length c] 135)]) (λx=>x.1<=xs.length/\MLe M x.2.1/\(x.2.2=none↔x.1=0)/\A2 (AL s (l+1)) none xs=A2 (AL s (l+1)) x.2.2 (xs.drop x.1)) (λx=>xs.length-x.1) (0,M,none) ⟨Nat.zero_le _,MLe.refl _,by simp,rfl⟩ ?_
 rintro⟨k,Mk,o⟩ ⟨hk,r,g,t⟩
 try dsimp only at hk r g t⊢
 have m:=ad.mono r
 have V:=hs.mono r
 have ag:=λp hp=>(hb p hp).mono r
 refine gj (λak=>?_) λak=>?_
 ·refine gh ?_
  have d:k<xs.length:=by omega
  obtain⟨sb,so,e0,hx⟩:=V.open (by intro e;have:=congrArg length e;rw[Aj Ac 5 Ad,length_nil]at this;have h2:=congrArg length hp;rw[length_map]at h2;omega)
  subst e0
  obtain⟨va,vc,ac,aq,ap⟩:=Au hx hp ag d
  have ao:=B.ref xs[k] (getElem_mem d)
  refine gh ?_
  refine lq (Bb (cs:=Fk xs[k] va vc) rfl rfl rfl rfl rfl (λi v hv=>(ac i v hv).cj _)) ?_
  refine ga λb8=>?_
  refine JG [0,1,2,3,4,5,6,7,8,9,10,11,12,13,14,15,16,117,118] ?_
  refine gj (λR=>?_) λR=>?_
  ·exfalso;exact B.up (by omega) xs[k] (getElem_mem d) R
  refine gh ?_
  obtain⟨bv,wv,nv,lw,J,N⟩:=m.st
  obtain⟨na,nc,rfl,av,Y⟩:=N
  have aa:s.now.length=256:=K.2.1.1
  obtain⟨nb,no,e0,X⟩:=Y.open (by intro e;have:=congrArg length e;rw[Af,length_nil]at this;omega)
  subst e0
  refine dq rfl (AE rfl rfl rfl rfl (CM.cj ⟨_,_,_,J,rfl⟩ _)) ?_
  refine gh ?_
  have al:0<=xs[k].ref/\xs[k].ref<256:=by omega
  refine gh ?_
  refine dq rfl (AE rfl rfl rfl rfl ((X _ _ (by rw[Nat.mul_one];exact Cc (j:=xs[k].ref.toNat) (by omega))).cj _)) ?_
  refine gh ?_
  refine DA rfl rfl rfl (AM rfl rfl) ?_;rintro _ _ _ ⟨b9,rfl,rfl,rfl⟩
  refine Cp (MLe.refl _) (λ_ h=>mem_cons_of_mem _ h) (by first|exact MLe.refl _|assumption) (by simp) ?_
  refine Df rfl rfl (Ae rfl rfl rfl rfl rfl rfl rfl rfl) ?_;rintro _ _ _ ⟨rfl,rfl⟩
  refine Cp (MLe.refl _) (λ_ h=>mem_cons_of_mem _ h) (by first|exact MLe.refl _|assumption) (by simp) ?_
  refine gt ?_
  obtain⟨bp,P,ae⟩:=m.bn
  refine lq (AE rfl rfl rfl rfl (CM.cj ⟨_,_,_,P,rfl⟩ _)) ?_
  refine gh ?_
  have au:=B.up (by omega) xs[k] (getElem_mem d)
  have ab:((xs[k].ref.toNat:Nat):Int)=xs[k].ref:=Int.toNat_of_nonneg (by omega)
  refine gc (by have:=Ep s xs[k].ref.toNat bp Mk K (by omega) ae;rwa[ab]at this) ?_;rintro _ Mn E af
  obtain⟨nl,ya,yn,yc,e,rfl,n⟩:=BnPost.form af
  refine gA λay=>?_
  refine gj (λaj=>?_) λaj=>?_
  ·refine gr ?_
   show Value.agg (LE Co).toArray=_
   obtain⟨O,b⟩|⟨O,ys,b,I,D⟩:=n
   ·rw [Dm d t (KR b)]
   rw[Dm d t (KQ b (by omega))]
  refine gj (λai=>?_) λai=>?_
  ·refine gr ?_
   show Value.agg (LE Co).toArray=_
   obtain⟨O,b⟩|⟨O,ys,b,I,D⟩:=n
   ·rw [Dm d t (KR b)]
   rw[Dm d t (KQ b (by omega))]
  refine gj (λQ=>?_) λQ=>?_
  ·refine gr ?_
   show Value.agg (LE Co).toArray=_
   obtain⟨O,b⟩|⟨O,ys,b,I,D⟩:=n
   ·rw [Dm d t (KR b)]
   rw[Dm d t (KQ b (by intro hh;exact hh.2 (List.eq_nil_of_length_eq_zero (by omega))))]
  refine gh ?_
  refine lq (AE rfl rfl rfl rfl (CM.cj ⟨_,_,_,(m.mono E).cl,rfl⟩ _)) ?_
  refine gh ?_
  obtain⟨_,b⟩|⟨rfl,ys,b,rfl,D⟩:=n
  ·omega
  have Z:nl=(l:Int):=by omega
  subst Z
  have H:ys≠[]:=λe=>Q (by rw[e];rfl)
  refine gQ (ih ys _ Mn (m.mono E) D (Ar b)) ?_
  obtain⟨p,f⟩:∃p:Sp,p=AL s (l+1) xs[k]:=⟨_,rfl⟩
  have L:A2 (AL s l) none ys=p:=by rw[f];simp only[AL];rw[b];exact(if_pos ⟨by omega,H⟩).symm
  rw[L]
  refine Br rfl rfl (AE rfl rfl rfl rfl (CJ.loc rfl)) (λz=>?_) (λz=>?_)
  ·refine gg ?_
   refine Br rfl rfl (UZ (ns:=[p.first.kind,p.first.id,p.first.off]) (ms:=[xs[k].key.kind,xs[k].key.id,xs[k].key.off]) rfl rfl rfl rfl rfl rfl ⟨rfl,rfl⟩) (λy=>?_) (λy=>?_)
   ·refine gr ?_
    show Value.agg (LE Co).toArray=_
    rw[Dm d t (by first|(rw[<-f];simp[As,z];done)|(rw[<-f];simp[As,show ¬p.first=xs[k].key from λe=>of_decide_eq_true y (by rw[e])];done)|(obtain⟨q,rfl⟩:=Option.ne_none_iff_exists'.1 (λe=>by have:=g.1 e;omega:o≠none);rw[<-f];simp[As,show Ap q.last p.first=false from C]))]
   refine gj (λah=>?_) λah=>?_
   ·refine gg ?_
    refine Br rfl rfl (CG rfl rfl rfl rfl rfl (by kernel_rfl) (Cd (o.getD Co).last p.first _)) (λC=>?_) (λC=>?_)
    ·refine gj (λG=>?_) λG=>?_
     ·exfalso;omega
     refine gh ?_
     have F:p.first=xs[k].key:=by have:=DZ p.first xs[k].key;rw[decide_eq_true (Classical.not_not.1 (of_decide_eq_false y))]at this;exact of_decide_eq_true this.symm
     obtain⟨q,rfl⟩:∃q,o=some q:=by
       cases o with
       |none=>have:=g.1 rfl;omega
       |some q=>exact⟨q,rfl⟩
     refine Bw (k+1,Mn,some (A7 p (some q))) ⟨by show k+1<=xs.length;omega,r.trans E,by simp,?_⟩ (hs:=?_)
     ·show A2 _ _ _=A2 _ (some (A7 p _)) _
      rw[f];exact GV d t (by rw[<-f];simp[As,z,<-F,show Ap q.last p.first=true from C])
     intro w h;refine(h.fewer ?_:St _ _ _ w)
     first|exact .refl _|exact .cons _ (.refl _)|exact .cons _ (.cons _ (.refl _))|exact .cons _ (.cons _ (.cons _ (.refl _)))|exact .cons _ (.cons _ (.cons _ (.cons _ (.refl _))))|exact .cons _ (.cons _ (.cons _ (.cons _ (.cons _ (.refl _)))))
    refine gr ?_
    show Value.agg (LE Co).toArray=_
    rw[Dm d t (by first|(rw[<-f];simp[As,z];done)|(rw[<-f];simp[As,show ¬p.first=xs[k].key from λe=>of_decide_eq_true y (by rw[e])];done)|(obtain⟨q,rfl⟩:=Option.ne_none_iff_exists'.1 (λe=>by have:=g.1 e;omega:o≠none);rw[<-f];simp[As,show Ap q.last p.first=false from C]))]
   refine gj (λG=>?_) λG=>?_
   ·refine gh ?_
    have F:p.first=xs[k].key:=by have:=DZ p.first xs[k].key;rw[decide_eq_true (Classical.not_not.1 (of_decide_eq_false y))]at this;exact of_decide_eq_true this.symm
    obtain rfl:o=none:=g.2 (by omega)
    refine Bw (k+1,Mn,some (A7 p none)) ⟨by show k+1<=xs.length;omega,r.trans E,by simp,?_⟩ (hs:=?_)
    ·show A2 _ _ _=A2 _ (some (A7 p _)) _
     rw[f];exact GV d t (by rw[<-f];simp[As,z,F])
    intro w h;refine(h.fewer ?_:St _ _ _ w)
    first|exact .refl _|exact .cons _ (.refl _)|exact .cons _ (.cons _ (.refl _))|exact .cons _ (.cons _ (.cons _ (.refl _)))|exact .cons _ (.cons _ (.cons _ (.cons _ (.refl _))))|exact .cons _ (.cons _ (.cons _ (.cons _ (.cons _ (.refl _)))))
   exfalso;omega
  refine gr ?_
  show Value.agg (LE Co).toArray=_
  rw[Dm d t (by first|(rw[<-f];simp[As,z];done)|(rw[<-f];simp[As,show ¬p.first=xs[k].key from λe=>of_decide_eq_true y (by rw[e])];done)|(obtain⟨q,rfl⟩:=Option.ne_none_iff_exists'.1 (λe=>by have:=g.1 e;omega:o≠none);rw[<-f];simp[As,show Ap q.last p.first=false from C]))]
 refine gr ?_
 show Value.agg (LE (o.getD Co)).toArray=_
 rw[VF (by omega) t]
theorem Pl(s:Sto)(b:Aq s)(h g f:Nat):∀(l:Nat)(ys:List It)(v:Value)(M:Mem),CE M s h g f->NS M v ys->NdOk (l:Int) ys->
  SpecL prog 180 #[.agg #[.int .i64 (l:Int),v],pB h,pB g,pB f] M [] λu _ _=>u=.agg (LE (A2 (AL s l) none ys)).toArray
 |0,ys,v,M,e,j,d=>by
  obtain⟨a,c,i,rfl,n,k,m,o⟩:=j
  exact VI s b h g f ys a c i M e n k m o d
 |l+1,ys,v,M,e,j,d=>by
  obtain⟨a,c,i,rfl,n,k,m,o⟩:=j
  exact VH s b h g f ys a c i M e n k m o l ((l+1:Nat):Int) (by omega) d (Pl s b h g f l)
def fchk(s:Sto)(root:Int):Int×Int:=
 if Aq s then
  if root<8\/256<=root then (0,2)
  else if s.now.getD root.toNat 0=0 then (0,6)
  else match Ai s root.toNat with
   |none=>(0,8)
   |some (lv,xs)=>if AV s lv.toNat xs then (lv+1,0)else (0,8)
 else (0,8)
variable{root:Int}
theorem GL(h:Aq s)(a:¬(root<8\/256<=root))(b:¬s.now.getD root.toNat 0=0):fchk s root=match Ai s root.toNat with
  |none=>(0,8)
  |some (lv,xs)=>if AV s lv.toNat xs then (lv+1,0)else (0,8):=by
 grind[fchk]
theorem Hv(s:Sto)(a:Int)(U F nv lv:Value)(M:Mem)(h1:LS M U s.blocks)(h2:WS M F s.waits)(O:BS M nv s.now)(h4:BS M lv s.last):
  SpecL prog 120 #[.agg #[U,F,nv,lv],.int .i64 a] M [] λu _ L'=>u=.tuple #[.int .i64 (fchk s a).1,.int .i64 (fchk s a).2]:=by
 have y:ST M (.agg #[U,F,nv,lv]) s:=⟨_,_,_,_,rfl,h1,h2,O,h4⟩
 refine sB func120 ntmps120 ?_;intro W
 refine ga λY=>?_
 refine gQ (CD s _ M y) ?_
 refine gj (λC=>?_) λC=>?_
 ·refine gr ?_
  grind[Aq,fchk,Dp]
 refine gj (λQ=>?_) λQ=>?_
 ·refine gr ?_
  grind[Aq,Dp,fchk]
 refine gj (λP=>?_) λP=>?_
 ·refine gr ?_
  grind[Aq,Dp,fchk]
 refine gh ?_
 have c:Aq s:=Classical.byContradiction λk=>C (by unfold Dp;rw[if_neg k];decide)
 have I:s.now.length=256:=c.2.1.1
 have aa:s.waits.length<=4096:=c.1.2.1
 obtain⟨na,nc,rfl,ab,H⟩:=id O
 obtain⟨nb,no,e0,G⟩:=H.open (by intro e;have:=congrArg length e;rw[Af,length_nil]at this;omega)
 subst e0
 obtain⟨k,rfl⟩:∃k:Nat,a=k:=⟨a.toNat,by omega⟩
 refine gh ?_
 refine lq (AE rfl rfl rfl rfl ((G _ _ (by rw[Nat.mul_one];exact Cc (j:=k) (by omega))).cj _)) ?_
 refine gj (λm=>?_) λm=>?_
 ·refine gr ?_
  unfold fchk;rw[if_pos c,if_neg (by omega),if_pos (UInt8.toNat.inj (by simpa using m))]
 refine gc (Kh s _ M y (by omega) (by omega)) ?_;rintro _ M1 B t
 have f:=t M1 (MLe.refl _) B
 obtain⟨pb,_,_,_,_,rfl,_⟩:=id f.ex
 refine ga λX=>?_
 refine gc (Ep s k _ M1 c (by omega) f) ?_;rintro _ Mn z J
 obtain⟨D,ya,yn,yc,e,rfl,d⟩:=BnPost.form J
 refine gA λb8=>?_
 refine gj (λN=>?_) λN=>?_
 ·refine gr ?_
  rw[GL c (by omega) (λe=>m (by rw[show s.now.getD k 0=0 from e];rfl))]
  grind
 refine gA λV=>?_
 refine gj (λL=>?_) λL=>?_
 ·refine jp rfl ?_
  refine Cx Y (by simp) ?_
  intro Mg i T
  refine Cx X (by simp) ?_
  intro Mh h S
  refine Cx V (by simp) ?_
  intro Mi g R
  have r:CE Mi s Y X V:=⟨⟨_,_,_,_,g _ _ (h _ _ T),(O.mono ((B.trans z).trans (i.trans (h.trans g))))⟩,⟨_,g _ _ S,f.mono (z.trans (i.trans (h.trans g)))⟩,R⟩
  refine lq (AE rfl rfl rfl rfl (CM.cj ⟨_,_,_,r.cl,rfl⟩ _)) ?_
  refine gh ?_
  obtain⟨_,b⟩|⟨rfl,E,b,rfl,n⟩:=d
  ·omega
  have o:=Ar b
  have ac:=o.lev
  obtain⟨l,rfl⟩:∃l:Nat,D=l:=⟨D.toNat,by omega⟩
  refine gQ (Pl s c Y X V l E _ Mi r (n.mono (i.trans (h.trans g))) o) ?_
  refine Br rfl rfl (wAa rfl rfl rfl rfl rfl) (λK=>?_) (λK=>?_)
  ·refine gr ?_
   grind[GL,Ai,AV]
  refine gr ?_
  grind[GL,Ai,AV,A2,AL]
 refine gh ?_
 have Z:0<=D/\D<6:=by
  obtain⟨_,b⟩|⟨_,E,b,_,_⟩:=d
  ·omega
  exact(Ar b).lev
 refine gr ?_
 obtain⟨he,b⟩|⟨rfl,E,b,rfl,n⟩:=d
 ·omega
 simp_all [GL,Ai,AV]
end Go.Proofs.YtdahhoicackcaaaGreat
