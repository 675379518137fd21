/- Trees of nodes, without a program in sight. No statement of the seat is proved here. -/
import Derived.Test.YtdahhoicackcaaaGreatZHn
import Derived.Test.YtdahhoicackcaaaGreatZNode
namespace Go.Proofs.YtdahhoicackcaaaGreat
open Go.Proofs.Tryz
open List (length length_nil length_drop take_length map_append length_map getElem_mem map_map)
set_option linter.unusedSimpArgs false
set_option linter.unusedVariables false
set_option linter.unusedSectionVars false
open Go.RowKit
set_option maxRecDepth 8000
set_option maxHeartbeats 40000000
theorem Vw(v:Value)(xs:List By)(M:Mem)(m:BS M v xs)(o:xs.length<=100000):SpecL prog 185 #[v] M [] λu M' b=>∃x f d,∃g:Int,u=.tuple #[.agg (Fk x f d).toArray,.int .i64 g,.int .i64 (SG xs)]/\(SG xs=0->x=G0 xs/\g=EK xs/\x.val.length<=d/\SM (Cf M M') f (Ab x.val))/\b=[]:=by
 obtain⟨a,c,rfl,t,n⟩:=m
 have D:∀e:Int,e≠0->SG xs=e->SpecL prog 185 #[.slice a xs.length c] M [] (λv _ b=>v=.tuple #[.agg zeroIt.toArray,.int .i64 0,.int .i64 e]/\b=[])->SpecL prog 185 #[.slice a xs.length c] M [] λu M' b=>∃x f d,∃g:Int,u=.tuple #[.agg (Fk x f d).toArray,.int .i64 g,.int .i64 (SG xs)]/\(SG xs=0->x=G0 xs/\g=EK xs/\x.val.length<=d/\SM (Cf M M') f (Ab x.val))/\b=[]:=
  λe r j h=>h.mono λu M' b i=>⟨⟨⟨0,0,0⟩,0,[]⟩,none,0,0,by rw[j];exact i.1,λC=>absurd (j▸C) r,i.2⟩
 by_cases B:xs.length<12
 ·simp_all [SG,YC]
 by_cases z:xs.length<EK xs
 ·simp_all [SG,Vx]
 have j:SG xs=BY (G0 xs):=by grind[SG]
 by_cases y:BY (G0 xs)=0
 ·refine (wCb a c xs M t n o B z y).mono λu M' b i=>?_
  obtain⟨G,E,⟨s,rfl,f,d,rfl,l,k⟩,F⟩:=i
  grind
 grind[YD]
variable{xs:List By}
theorem Z5(h:SG xs=0):12<=xs.length/\EK xs<=xs.length/\EK xs<=24/\BY (G0 xs)=0:=by
 unfold SG at h
 split at h
 ·cases h
 split at h
 ·cases h
 rename_i c b
 have a:=CH h
 grind[QX,BQ,G0]
def B6:Nat->List By->List It->Option (List It×List By)
 |0,r,acc=>some (acc,r)
 |n+1,r,acc=>if SG r=0 then B6 n (r.drop (EK r)) (acc++[G0 r])else none
def C1(blk:List By):Option (Int×List It):=
 if B4 blk=0 then
  if (blk.drop 4).getD 0 0=78/\(blk.drop 4).getD 2 0<=5 then
   match B6 ((blk.drop 4).getD 2 0).toNat ((blk.drop 4).drop 3) []with
   |some (xs,r)=>if CW (((blk.drop 4).getD 1 0).toNat:Int) xs=0/\C3 r=true then some ((((blk.drop 4).getD 1 0).toNat:Int),xs)else none
   |none=>none
  else none
 else none
def zeroNd:List Value:=[.int .i64 0,.slice none 0 0]
def NdPost(blk:List By)(u:Value)(M':Mem):Prop:=match C1 blk with
 |some (lv,xs)=>∃s,u=.tuple #[.agg #[.int .i64 lv,s],.int .i64 0]/\NS M' s xs
 |none=>∃e:Int,e≠0/\u=.tuple #[.agg zeroNd.toArray,.int .i64 e]
theorem U5(v:Value)(a:List By)(M:Mem)(b:BS M v a)(f:a.length<=100000)(h:B4 a≠0):
  SpecL prog 133 #[v] M [] λu M' e=>NdPost a u (Cf M M')/\e=[]:=by
 refine sB func133 ntmps133 ?_;intro W
 refine ga λg=>?_
 refine gC (Gb v a M b) ?_;rintro _ i _ d ⟨s,rfl,c,rfl⟩
 refine gu ?_
 exact⟨by unfold NdPost C1;rw[if_neg h];exact⟨_,h,rfl⟩,rfl⟩
theorem SW(v:Value)(a:List By)(M:Mem)(l:BS M v a)(E:a.length<=100000)(h:B4 a=0)(F:((a.drop 4).getD 0 0).toNat≠78):
  SpecL prog 133 #[v] M [] λu M' y=>NdPost a u (Cf M M')/\y=[]:=by
 refine sB func133 ntmps133 ?_;intro W
 refine ga λH=>?_
 refine gC (Gb v a M l) ?_;rintro _ I _ o ⟨s,rfl,c,rfl⟩
 have c:=c h
 have n:(a.drop 4).length=124:=by grind[B4]
 obtain⟨z,k,rfl,m,d⟩:=c
 obtain⟨sb,i,t,f⟩:=d.open (by intro e;have:=congrArg length e;rw[Af,length_nil]at this;omega)
 subst t
 generalize r:a.drop 4=b at *
 have D:=(b.getD 0 0).toNat_lt
 have C:=(b.getD 1 0).toNat_lt
 have B:=(b.getD 2 0).toNat_lt
 refine gt ?_
 refine lq (AE rfl rfl rfl rfl ((f ((1:Int).toNat*1) _ (Cc (j:=1) (by omega))).cj _)) ?_
 refine lq (B7 rfl rfl rfl (by omega)) ?_
 refine ga λG=>?_
 refine lq (Bc (C6 rfl rfl rfl (.no _) (.no _) (.of (v:=3) rfl (by omega) rfl) (by omega) (by simp)) (v':=.slice (some ⟨sb,i+3*1,none⟩) (b.drop 3).length (k-3)) (by rw[AB (by omega),length_drop])) ?_
 refine gh ?_
 refine lq (AE rfl rfl rfl rfl ((f ((0:Int).toNat*1) _ (Cc (j:=0) (by omega))).cj _)) ?_
 refine gu ?_
 refine⟨?_,rfl⟩
 unfold NdPost C1;rw[if_pos h,r,if_neg (by intro g;have:=congrArg UInt8.toNat g.1;have:=UInt8.le_iff_toNat_le.1 g.2;simp at *;omega)]
 exact⟨8,by decide,rfl⟩
theorem SV(v:Value)(a:List By)(M:Mem)(l:BS M v a)(F:a.length<=100000)(h:B4 a=0)(G:((a.drop 4).getD 0 0).toNat=78)(n:5<((a.drop 4).getD 2 0).toNat):
  SpecL prog 133 #[v] M [] λu M' z=>NdPost a u (Cf M M')/\z=[]:=by
 refine sB func133 ntmps133 ?_;intro W
 refine ga λI=>?_
 refine gC (Gb v a M l) ?_;rintro _ J _ r ⟨s,rfl,c,rfl⟩
 have c:=c h
 have o:(a.drop 4).length=124:=by grind[B4]
 obtain⟨B,k,rfl,m,f⟩:=c
 obtain⟨sb,i,y,d⟩:=f.open (by intro e;have:=congrArg length e;rw[Af,length_nil]at this;omega)
 subst y
 generalize t:a.drop 4=b at *
 have E:=(b.getD 0 0).toNat_lt
 have D:=(b.getD 1 0).toNat_lt
 have C:=(b.getD 2 0).toNat_lt
 refine gt ?_
 refine lq (AE rfl rfl rfl rfl ((d ((1:Int).toNat*1) _ (Cc (j:=1) (by omega))).cj _)) ?_
 refine lq (B7 rfl rfl rfl (by omega)) ?_
 refine ga λH=>?_
 refine lq (Bc (C6 rfl rfl rfl (.no _) (.no _) (.of (v:=3) rfl (by omega) rfl) (by omega) (by simp)) (v':=.slice (some ⟨sb,i+3*1,none⟩) (b.drop 3).length (k-3)) (by rw[AB (by omega),length_drop])) ?_
 refine gh ?_
 refine lq (AE rfl rfl rfl rfl ((d ((0:Int).toNat*1) _ (Cc (j:=0) (by omega))).cj _)) ?_
 refine gt ?_
 refine lq (AE rfl rfl rfl rfl ((d ((2:Int).toNat*1) _ (Cc (j:=2) (by omega))).cj _)) ?_
 refine gu ?_
 refine⟨?_,rfl⟩
 unfold NdPost C1;rw[if_pos h,t,if_neg (by intro g;have:=congrArg UInt8.toNat g.1;have:=UInt8.le_iff_toNat_le.1 g.2;simp at *;omega)]
 exact⟨8,by decide,rfl⟩
variable{acc:List It}{m:Nat}{r:List By}
theorem NC(h:SG r=0):B6 (m+1) r acc=B6 m (r.drop (EK r)) (acc++[G0 r]):=by grind[B6]
theorem SF(h:SG r≠0):B6 (m+1) r acc=none:=by grind[B6]
abbrev IT:TypeId:=70
variable{blk:List By}
theorem F4{b:List By}(d:blk.drop 4=b)(h:B4 blk=0)(c:(b.getD 0 0).toNat=78)(a:(b.getD 2 0).toNat<=5):
  C1 blk=match B6 (b.getD 2 0).toNat (b.drop 3) []with
   |some (xs,r)=>if CW ((b.getD 1 0).toNat:Int) xs=0/\C3 r=true then some (((b.getD 1 0).toNat:Int),xs)else none
   |none=>none:=by
 unfold C1;rw[if_pos h,d,if_pos ⟨UInt8.toNat.inj c,UInt8.le_iff_toNat_le.2 a⟩]
variable{M:Mem}{e:Int}
theorem Hj(h:C1 blk=none)(a:e≠0):NdPost blk (.tuple #[.agg zeroNd.toArray,.int .i64 e]) M:=by
 grind[NdPost]
theorem U6(v:Value)(a:List By)(M:Mem)(hv:BS M v a)(hn:a.length<=100000)(h:B4 a=0)(U:((a.drop 4).getD 0 0).toNat=78)(g:((a.drop 4).getD 2 0).toNat<=5):
  SpecL prog 133 #[v] M [] λu M' L'=>NdPost a u (Cf M M')/\L'=[]:=by
 refine sB func133 ntmps133 ?_;intro W
 refine ga λb2=>?_
 refine gC (Gb v a M hv) ?_;rintro _ M1 _ O ⟨s,rfl,F,rfl⟩
 have F:=F h
 have ap:(a.drop 4).length=124:=by grind[B4]
 obtain⟨sa,Z,rfl,am,ac⟩:=F
 obtain⟨sb,T,e0,J⟩:=ac.open (by intro e;have:=congrArg length e;rw[Af,length_nil]at this;omega)
 subst e0
 generalize V:a.drop 4=b at *
 have q0:=(b.getD 0 0).toNat_lt
 have q1:=(b.getD 1 0).toNat_lt
 have q2:=(b.getD 2 0).toNat_lt
 refine gt ?_
 refine lq (AE rfl rfl rfl rfl ((J ((1:Int).toNat*1) _ (Cc (j:=1) (by omega))).cj _)) ?_
 refine lq (B7 rfl rfl rfl (by omega)) ?_
 refine ga λb6=>?_
 refine lq (Bc (C6 rfl rfl rfl (.no _) (.no _) (.of (v:=3) rfl (by omega) rfl) (by omega) (by simp)) (v':=.slice (some ⟨sb,T+3*1,none⟩) (b.drop 3).length (Z-3)) (by rw[AB (by omega),length_drop])) ?_
 refine gh ?_
 refine lq (AE rfl rfl rfl rfl ((J ((0:Int).toNat*1) _ (Cc (j:=0) (by omega))).cj _)) ?_
 refine gt ?_
 refine lq (AE rfl rfl rfl rfl ((J ((2:Int).toNat*1) _ (Cc (j:=2) (by omega))).cj _)) ?_
 refine gt ?_
 refine lq (AE rfl rfl rfl rfl ((J ((2:Int).toNat*1) _ (Cc (j:=2) (by omega))).cj _)) ?_
 refine gh ?_
 have ao:(b.drop 3).length=121:=by grind
 have ak:BS M1 (.slice (some ⟨sb,T+3*1,none⟩) (b.drop 3).length (Z-3)) (b.drop 3):=⟨_,_,rfl,by omega,.inr ⟨sb,T+3*1,rfl,λi u hu=>by have:=SM.sub 3 (b.drop 3).length J;rw[take_length]at this;exact this i u hu⟩⟩
 refine Cz (α:=Nat×Mem×Lc×Value×Value×List By×List (It×Value)) (λx=>[(2,pB b2),(6,pB b6),(7,x.2.2.2.2.1),(41,.int .u8 ((b.getD 2 0).toNat:Int)),(42,.int .u8 (x.1:Int))]) (λx=>x.2.1) (λx=>x.2.2.1++[(b6,cE [.int .i64 ((b.getD 1 0).toNat:Int),x.2.2.2.1] 135),(b2,cE [.int .i64 0,.slice none 0 0] 135)]) (λx=>x.1<=(b.getD 2 0).toNat/\MLe M1 x.2.1/\Own x.2.2.2.1 x.2.2.1 IT 5 x.2.2.2.2.2.2.length (x.2.2.2.2.2.2.flatMap Ac)/\(∀p∈x.2.2.2.2.2.2,BS (Cf M x.2.1) p.2 p.1.val)/\BS x.2.1 x.2.2.2.2.1 x.2.2.2.2.2.1/\121<=x.2.2.2.2.2.1.length+24*x.1/\x.2.2.2.2.2.1.length<=121/\B6 (b.getD 2 0).toNat (b.drop 3) []=B6 ((b.getD 2 0).toNat-x.1) x.2.2.2.2.2.1 (x.2.2.2.2.2.2.map (·.1))/\x.2.2.2.2.2.2.length=x.1) (λx=>(b.getD 2 0).toNat-x.1) (0,M1,[],.slice none 0 0,.slice (some ⟨sb,T+3*1,none⟩) (b.drop 3).length (Z-3),b.drop 3,[]) ⟨Nat.zero_le _,MLe.refl _,Own.nil _ _,(λ_ h=>by cases h),ak,by show 121<=(b.drop 3).length+24*0;omega,by show (b.drop 3).length<=121;omega,rfl,rfl⟩ ?_
 rintro⟨k,Mk,R,s,rv,r,ps⟩ ⟨hk,n,c,B,z,af,ae,H,ag⟩
 try dsimp only at hk n c B z af ae H ag⊢
 refine gj (λal=>?_) λal=>?_
 ·refine gh ?_
  obtain⟨I,y,rfl,K,f⟩:=z
  refine gC (Vw _ r Mk ⟨I,y,rfl,K,f⟩ (by omega)) ?_;rintro _ P _ d ⟨x,S,Q,sz,rfl,ah,rfl⟩
  refine gA λb8=>?_
  refine gj (λt=>?_) λt=>?_
  ·refine gr ?_
   refine⟨?_,rfl⟩
   refine Hj ?_ t
   rw[F4 V h U g,H,show (b.getD 2 0).toNat-k=((b.getD 2 0).toNat-(k+1))+1 by omega,SF t]
  refine gh ?_
  have hE:SG r=0:=Classical.not_not.1 t
  obtain⟨z1,z2,z3,z4⟩:=Z5 hE
  obtain⟨rfl,rfl,ab,aa⟩:=ah hE
  refine Hr [9] [5,6,7,9,10] [0,1,2,5,6,7,103,104,8,109,10] P ([(b8,cE (Fk (G0 r) S Q) IT),(b6,cE [.int .i64 ((b.getD 1 0).toNat:Int),s] 135),(b2,cE [.int .i64 0,.slice none 0 0] 135)]) ([]) ?_
  refine gh ?_
  refine Vr rfl rfl rfl (Bc (C6 rfl rfl rfl (.no _) (.no _) (.of (v:=EK r) rfl (by omega) (by omega)) (by omega) (by simp)) (v':=.slice (H7 I (EK r) y 1) (r.drop (EK r)).length (y-EK r)) (by rw[length_drop])) ?_
  refine DA rfl rfl rfl (Aa (cs:=[_,_,_,_,_]) rfl rfl rfl (by rfl) (by rfl) (by rfl)) ?_;rintro _ _ _ ⟨aq,rfl,rfl,rfl⟩
  refine Cp (MLe.refl _) (λ_ h=>List.mem_cons_of_mem _ h) (by first|exact MLe.refl _|assumption) (by simp) ?_
  refine dh rfl (Ba (R:=R) (m:=1) rfl rfl rfl rfl c rfl (λi v hv=>CJ.loc (by simpa using hv)) rfl (by rfl) (by simp[Value.oneCell']) (by omega) (by omega)) ?_;rintro s' _ _ ⟨rfl,R',rfl,D,_⟩
  refine⟨MLe.refl _,by simp,?_⟩
  obtain⟨Y,X,rfl⟩:=D.form
  refine gh ?_
  refine lq (wMo rfl rfl rfl rfl rfl (by rw[IntKind.wrap_u8];omega)) ?_
  refine gh ?_
  refine Bw (k+1,P,R',.slice Y (ps.length+1) X,.slice (H7 I (EK r) y 1) (r.drop (EK r)).length (y-EK r),r.drop (EK r),ps++[(G0 r,.slice S (G0 r).val.length Q)]) ⟨by show k+1<=(b.getD 2 0).toNat;omega,n.trans d,?_,?_,?_,?_,?_,?_,?_⟩ (hs:=λ_ h=>h.fewer (by first|exact List.Sublist.refl _|(simp)))
  ·grind [Own,Ac]
  ·intro p C;rcases List.mem_append.1 C with C|C
   ·exact (B p C).mono (NR d)
   rw[List.mem_singleton.1 C];exact⟨S,Q,rfl,ab,aa.mono (Fd (O.trans n))⟩
  ·refine ⟨_,_,rfl,?_,?_⟩
   ·grind
   have:=f.part (l:=EK r) (m:=y) (s:=1) (by omega) (Ab r).length
   rw[List.take_of_length_le (by rw[length_drop];omega),Nat.mul_one]at this
   rw[show Ab (r.drop (EK r))=(Ab r).drop (EK r)by simp[Ab,List.map_drop]];exact this.mono d
  ·grind
  ·grind
  ·show B6 _ _ _=B6 ((b.getD 2 0).toNat-(k+1)) (r.drop (EK r)) ((ps++[(G0 r,Value.slice S (G0 r).val.length Q)]).map (·.1))
   rw[H,show (b.getD 2 0).toNat-k=((b.getD 2 0).toNat-(k+1))+1 by omega,NC hE,map_append];rfl
  grind
 refine gh ?_
 have E:(b.getD 2 0).toNat-k=0:=by omega
 refine Rf c (by simp) ?_
 intro M2 Y X N e2 aj ad;subst e2
 have L:NS (Cf M M2) (.slice Y ps.length X) (ps.map (·.1)):=⟨Y,X,ps,by rw[length_map],by rw[length_map];exact aj,ad.mono (Fd (O.trans n)),rfl,λp C=>(B p C).mono (NR N)⟩
 refine gQ (FI _ (ps.map (·.1)) _ M2 (L.mono (EF _ _))) ?_
 refine gj (λo=>?_) λo=>?_
 ·refine gr ?_
  refine⟨?_,rfl⟩
  refine Hj ?_ o
  rw[F4 V h U g,H,E];show (if _ then _ else _)=none;rw[if_neg (λhh=>o hh.1)]
 refine gh ?_
 obtain⟨I,y,rfl,K,f⟩:=z
 refine gQ (Ta I y r M2 (f.mono N) (by omega) (by omega)) ?_
 refine gj (λG=>?_) λG=>?_
 ·refine gr ?_
  refine⟨?_,rfl⟩
  refine Hj ?_ (by decide)
  rw[F4 V h U g,H,E];show (if _ then _ else _)=none;rw[if_neg (λhh=>by have:=MK (xs:=r) (by omega);rw[hh.2,decide_eq_true G]at this;cases this)]
 refine gr ?_
 refine⟨?_,rfl⟩
 unfold NdPost;rw[F4 V h U g,H,E]
 have ai:C3 r=true:=by have:=MK (xs:=r) (by omega);rw[decide_eq_false G]at this;cases hn:C3 r<;>simp_all
 rw[show B6 0 r (ps.map (·.1))=some (ps.map (·.1),r)from rfl];simp only[]
 rw[if_pos ⟨Classical.not_not.1 o,ai⟩]
 exact⟨_,rfl,L⟩
set_option maxRecDepth 8000
set_option maxHeartbeats 40000000
theorem K4(v:Value)(a:List By)(M:Mem)(c:BS M v a)(d:a.length<=100000):SpecL prog 133 #[v] M [] λu M' b=>NdPost a u (Cf M M')/\b=[]:=by
 grind[B4,U6,SV,SW,U5]
variable{M M':Mem}{blk:List By}{u:Value}
theorem NdPost.mono(h:NdPost blk u M)(a:MLe M M'):NdPost blk u M':=by
 unfold NdPost at *
 split at h
 ·obtain ⟨s,e,b⟩:=h;exact⟨s,e,b.mono a⟩
 omega
theorem U4(v:Value)(a:List By)(M:Mem)(b:BS M v a)(c:a.length<=100000):SpecL prog 133 #[v] M [] λu M' f=>NdPost a u M'/\f=[]:=
 (K4 v a M b c).mono λ_ _ _ ⟨e,d⟩=>⟨e.mono (EF _ _),d⟩
abbrev Wt:=Int×List By
structure Sto where
 blocks:List (List By)
 waits:List Wt
 now:List By
 last:List By
def AT(p:Wt×Value):List Value:=[.int .i64 p.1.1,p.2]
theorem Bl(p:Wt×Value):(AT p).length=2:=rfl
abbrev Wj(w:Wt)(va:Option Addr)(vc:Nat):List Value:=[.int .i64 w.1,.slice va w.2.length vc]
def LS(M:Mem)(v:Value)(bs:List (List By)):Prop:=∃a c,∃ps:List (List By×Value),v=.slice a bs.length c/\bs.length<=c/\SM M a (ps.map (·.2))/\ps.map (·.1)=bs/\∀p∈ps,BS M p.2 p.1
def WS(M:Mem)(v:Value)(ws:List Wt):Prop:=∃a c,∃ps:List (Wt×Value),v=.slice a ws.length c/\ws.length<=c/\SM M a (ps.flatMap AT)/\ps.map (·.1)=ws/\∀p∈ps,BS M p.2 p.1.2
theorem LS.mono{v:Value}{xs:List (List By)}(h:LS M v xs)(b:MLe M M'):LS M' v xs:=by
 obtain⟨a,c,ps,j,i,g,f,e⟩:=h;exact⟨a,c,ps,j,i,g.mono b,f,λp d=>(e p d).mono b⟩
theorem WS.mono{v:Value}{xs:List Wt}(h:WS M v xs)(b:MLe M M'):WS M' v xs:=by
 obtain⟨a,c,ps,j,i,g,f,e⟩:=h;exact⟨a,c,ps,j,i,g.mono b,f,λp d=>(e p d).mono b⟩
theorem Cn{M:Mem}{e d:Nat}{bs:List (List By)}{ps:List (List By×Value)}(h:∀i u,(ps.map (·.2))[i]? =some u->CM M e (d+i) u)(hp:ps.map (·.1)=bs)(g:∀p∈ps,BS M p.2 p.1){k:Nat}(hk:k<bs.length):
  ∃b a,CM M e (d+k*1) (.slice b bs[k].length a)/\bs[k].length<=a/\SM M b (Ab bs[k]):=by
 have c:k<ps.length:=by grind
 have f:bs[k]=ps[k].1:=by grind
 obtain⟨b,a,j,m,l⟩:=g ps[k] (getElem_mem c)
 grind
variable{k sb:Nat}{ps:List (Wt×Value)}{ws:List Wt}
theorem Ei{e:Nat}(h:∀i u,(ps.flatMap AT)[i]? =some u->CM M sb (e+i) u)(hp:ps.map (·.1)=ws)(m:∀p∈ps,BS M p.2 p.1.2)(hk:k<ws.length):
  ∃c b,(∀i v,(Wj ws[k] c b)[i]? =some v->CM M sb (e+k*2+i) v)/\ws[k].2.length<=b/\SM M c (Ab ws[k].2):=by
 have a:k<ps.length:=by grind
 have d:ws[k]=ps[k].1:=by grind
 obtain⟨c,b,l,g,f⟩:=m ps[k] (getElem_mem a)
 rw[<-d]at l g f
 refine⟨c,b,λi v j=>Cs AT 2 Bl h (show ps[k]? =some ps[k]by simp[a]) i v ?_,g,f⟩
 simp_all [AT,Wj]
def dkOk(bs:List (List By))(ws:List Wt):Prop:=bs.length=256/\ws.length<=4096/\(∀b∈bs,b.length=128)/\∀w∈ws,0<=w.1/\w.1<256/\w.2.length=128
instance(bs:List (List By))(ws:List Wt):Decidable (dkOk bs ws):=by unfold dkOk;exact inferInstance
def GY(bs:List (List By))(ws:List Wt):Int:=if dkOk bs ws then 0 else 8
variable{α:Type}
theorem RU{p:α->Prop}{xs:List α}(hk:k<xs.length)(h:∀x∈xs.take k,p x)(a:p xs[k]):∀x∈xs.take (k+1),p x:=by
 rw[List.take_succ_eq_append_getElem hk]
 grind
theorem TL(bs:List (List By))(ws:List Wt)(y:Option Addr)(t:Nat)(g:List (List By×Value))(u:Option Addr)(s:Nat)(f:List (Wt×Value))(M:Mem)(aa:bs.length<=t)(F:SM M y (g.map (·.2)))(r:g.map (·.1)=bs)(I:∀p∈g,BS M p.2 p.1)(Z:ws.length<=s)(E:SM M u (f.flatMap AT))(o:f.map (·.1)=ws)(H:∀p∈f,BS M p.2 p.1.2):
  SpecL prog 37 #[.agg #[.slice y bs.length t,.slice u ws.length s]] M [] λv _ _=>v=.int .i64 (GY bs ws):=by
 refine sB func37 ntmps37 ?_;intro W
 refine gA λz=>?_
 refine gj (λS=>?_) λS=>?_
 ·refine gr ?_
  exact congrArg _ (Eq.symm (if_neg (λ⟨n,m,l,d⟩=>by omega)))
 refine gj (λR=>?_) λR=>?_
 ·refine gr ?_
  exact congrArg _ (Eq.symm (if_neg (λ⟨n,m,l,d⟩=>by omega)))
 refine gh ?_
 refine Cz (α:=Nat) (λk=>[(1,pB z),(18,.slice y bs.length t),(19,.int .i64 bs.length),(20,.int .i64 k)]) (λ_=>M) (λ_=>[(z,cE [.slice y bs.length t,.slice u ws.length s] 29)]) (λk=>k<=bs.length/\∀b∈bs.take k,b.length=128) (λk=>bs.length-k) 0 ⟨Nat.zero_le _,λ_ h=>by cases h⟩ ?_
 rintro k ⟨G,c⟩
 try dsimp only at G c⊢
 refine gj (λP=>?_) λP=>?_
 ·refine gh ?_
  have a:k<bs.length:=by omega
  obtain⟨sb,X,T,B⟩:=F.open (by intro e;have:=congrArg length e;rw[length_map,length_nil]at this;have Q:=congrArg length r;rw[length_map]at Q;omega)
  subst T
  obtain⟨V,U,j,D,C⟩:=Cn B r I a
  refine gh ?_
  refine lq (AE rfl rfl rfl rfl (j.cj _)) ?_
  refine gj (λO=>?_) λO=>?_
  ·refine gr ?_
   exact congrArg _ (Eq.symm (if_neg (λ⟨n,m,l,d⟩=>by have:=l bs[k] (getElem_mem _);omega)))
  refine gh ?_
  refine Bw (k+1) ⟨by omega,RU a c (by omega)⟩
 refine gh ?_
 obtain rfl:k=bs.length:=by omega
 rw[take_length]at c
 have hB:=c;clear c
 refine Cz (α:=Nat) (λk=>[(1,pB z),(29,.slice u ws.length s),(30,.int .i64 ws.length),(31,.int .i64 k)]) (λ_=>M) (λ_=>[(z,cE [.slice y bs.length t,.slice u ws.length s] 29)]) (λk=>k<=ws.length/\∀w∈ws.take k,0<=w.1/\w.1<256/\w.2.length=128) (λk=>ws.length-k) 0 ⟨Nat.zero_le _,λ_ h=>by cases h⟩ ?_
 rintro k ⟨G,c⟩
 try dsimp only at G c⊢
 refine gj (λN=>?_) λN=>?_
 ·refine gh ?_
  have a:k<ws.length:=by omega
  obtain⟨sb,X,T,B⟩:=E.open (by intro e;have:=congrArg length e;rw[Aj AT 2 Bl,length_nil]at this;have Q:=congrArg length o;rw[length_map]at Q;omega)
  subst T
  obtain⟨V,U,j,D,C⟩:=Ei B o H a
  refine gh ?_
  refine lq (Bb (cs:=Wj ws[k] V U) rfl rfl rfl rfl rfl (λi v Y=>(j i v Y).cj _)) ?_
  refine gA λb6=>?_
  refine gj (λL=>?_) λL=>?_
  ·refine gr ?_
   exact congrArg _ (Eq.symm (if_neg (λ⟨n,m,l,d⟩=>by have:=d ws[k] (getElem_mem _);omega)))
  refine gj (λK=>?_) λK=>?_
  ·refine gr ?_
   exact congrArg _ (Eq.symm (if_neg (λ⟨n,m,l,d⟩=>by have:=d ws[k] (getElem_mem _);omega)))
  refine gj (λJ=>?_) λJ=>?_
  ·refine gr ?_
   exact congrArg _ (Eq.symm (if_neg (λ⟨n,m,l,d⟩=>by have:=d ws[k] (getElem_mem _);omega)))
  refine gh ?_
  refine Bw (k+1) ⟨by omega,RU a c ⟨by omega,by omega,by omega⟩⟩
 refine gr ?_
 obtain rfl:k=ws.length:=by omega
 rw[take_length]at c
 exact congrArg _ (Eq.symm (if_pos ⟨by omega,by omega,hB,c⟩))
theorem CK(bs:List (List By))(ws:List Wt)(u v:Value)(M:Mem)(l:LS M u bs)(k:WS M v ws):SpecL prog 37 #[.agg #[u,v]] M [] λv _ _=>v=.int .i64 (GY bs ws):=by
 obtain⟨r,n,b,rfl,h,d,f,j⟩:=l
 obtain⟨o,m,a,rfl,g,c,e,i⟩:=k
 grind[TL]
def DR(xs:List By):Prop:=xs.length=256/\C3 (xs.take 8)=true
instance(xs:List By):Decidable (DR xs):=by unfold DR;exact inferInstance
def FO(xs:List By):Int:=if DR xs then 0 else 8
theorem T1(xs:List By)(a:Option Addr)(c:Nat)(M:Mem)(i:xs.length<=c)(hs:SM M a (Ab xs)):
  SpecL prog 98 #[.slice a xs.length c] M [] λv _ _=>v=.int .i64 (FO xs):=by
 refine sB func98 ntmps98 ?_;intro W
 refine gj (λg=>?_) λg=>?_
 ·refine gr ?_
  exact congrArg _ (Eq.symm (if_neg (λ⟨f,e⟩=>by omega)))
 refine gh ?_
 have d:(xs.take 8).length=8:=by grind
 refine lq (Bc (C6 rfl rfl rfl (.no _) (.of (v:=8) rfl (by omega) rfl) (.no _) (by omega) (by simp)) (v':=.slice a (xs.take 8).length c) (by rw[d,AZ];rfl)) ?_
 refine gQ (Ta a c (xs.take 8) M (by have:=hs.part (l:=0) (m:=c) (s:=1) (by omega) 8;rw[AZ]at this;simpa [Ab,List.map_take]using this) (by omega) (by omega)) ?_
 refine gj (λb=>?_) λb=>?_
 ·refine gr ?_
  exact congrArg _ (Eq.symm (if_neg (λ⟨f,e⟩=>by have:=MK (xs:=xs.take 8) (by omega);rw[e,decide_eq_true b]at this;cases this)))
 refine gr ?_
 exact congrArg _ (Eq.symm (if_pos ⟨by omega,by have:=MK (xs:=xs.take 8) (by omega);rw[decide_eq_false b]at this;cases h:C3 (xs.take 8)<;>simp_all⟩))
theorem DN(xs:List By)(v:Value)(M:Mem)(h:BS M v xs):SpecL prog 98 #[v] M [] λv _ _=>v=.int .i64 (FO xs):=by
 obtain⟨a,c,rfl,d,b⟩:=h
 grind[T1]
structure ST(M:Mem)(v:Value)(s:Sto):Prop where
 ex:∃b w n l,v=.agg #[b,w,n,l]/\LS M b s.blocks/\WS M w s.waits/\BS M n s.now/\BS M l s.last
variable{s:Sto}
theorem ST.mono{v:Value}(h:ST M v s)(a:MLe M M'):ST M' v s:=by
 obtain⟨b,w,n,l,g,f,e,d,c⟩:=h.ex;exact⟨b,w,n,l,g,f.mono a,e.mono a,d.mono a,c.mono a⟩
def Aq(s:Sto):Prop:=dkOk s.blocks s.waits/\DR s.now/\DR s.last
instance(s:Sto):Decidable (Aq s):=by unfold Aq;exact inferInstance
def Dp(s:Sto):Int:=if Aq s then 0 else 8
variable{bs:List (List By)}
theorem wNo(h:GY bs ws≠0):¬dkOk bs ws:=λk=>h (if_pos k)
variable{xs:List By}
theorem wDy(h:FO xs≠0):¬DR xs:=λk=>h (if_pos k)
theorem dk_is(h:¬GY bs ws≠0):dkOk bs ws:=Classical.byContradiction λk=>h (by unfold GY;rw[if_neg k];decide)
theorem wLq(h:¬FO xs≠0):DR xs:=Classical.byContradiction λk=>h (by unfold FO;rw[if_neg k];decide)
theorem SH(s:Sto)(b w n l:Value)(M:Mem)(h:LS M b s.blocks)(g:WS M w s.waits)(f:BS M n s.now)(e:BS M l s.last):
  SpecL prog 137 #[.agg #[b,w,n,l]] M [] λv _ _=>v=.int .i64 (Dp s):=by
 refine sB func137 ntmps137 ?_;intro W
 refine ga λi=>?_
 refine gQ (CK s.blocks s.waits b w M h g) ?_
 refine gj (λd=>?_) λd=>?_
 ·refine gr ?_
  exact congrArg _ (Eq.symm (if_neg (λq=>wNo d q.1)))
 refine gQ (DN s.now n M f) ?_
 refine gj (λc=>?_) λc=>?_
 ·refine gr ?_
  exact congrArg _ (Eq.symm (if_neg (λq=>wDy c q.2.1)))
 refine gQ (DN s.last l M e) ?_
 refine gj (λa=>?_) λa=>?_
 ·refine gr ?_
  exact congrArg _ (Eq.symm (if_neg (λq=>wDy a q.2.2)))
 refine gr ?_
 exact congrArg _ (Eq.symm (if_pos ⟨dk_is d,wLq c,wLq a⟩))
theorem CD(s:Sto)(v:Value)(M:Mem)(h:ST M v s):SpecL prog 137 #[v] M [] λv _ _=>v=.int .i64 (Dp s):=by
 obtain⟨b,w,n,l,rfl,e,d,c,a⟩:=h.ex
 grind[SH]
set_option maxRecDepth 8000
set_option maxHeartbeats 40000000
theorem bww(a:Option Addr)(n c:Nat)(M:Mem):
  SpecL prog 144 #[.slice a n c] M [] λu M' f=>∃b,u=.func (.func 189) #[] #[pB b]/\M' b=some (.cells #[.slice a n c] 27 (0,0))/\f=[]:=by
 refine sB func144 ntmps144 ?_;intro W
 refine gh ?_
 refine lh (Bf (cs:=[.slice a n c]) rfl rfl rfl rfl) ?_;rintro _ _ _ ⟨e,rfl,rfl,rfl⟩
 refine gh ?_
 refine AP e (by simp) ?_
 intro h d g
 refine gr ?_
 grind
theorem wEr(b:Nat)(a:Option Addr)(c:Nat)(xs:List (Wt×Value))(M:Mem)(F:M b=some (.cells #[.slice a xs.length c] 27 (0,0)))(hs:SM M a (xs.flatMap AT))(P:xs.length<=1000000)(l:Nat)(J B:List ((Wt×Value)×Nat)->Mem->Lc->Prop)(g:Mem)(t:Lc)(u:MLe M g)(G:∀pre y M2 L2,MLe g M2->J pre M2 L2->pre++[y]<+:bw xs 0->DD prog l ((λp:(Wt×Value)×Nat=>[.int .i64 p.2,.agg (AT p.1).toArray]) y).toArray M2 L2 λv M' L'=>(v=.bool true/\J (pre++[y]) M' L')\/(v=.bool false/\B (pre++[y]) M' L'))(H:J [] g t):
  SpecL prog 189 #[.func (.yield l) #[] #[],pB b] g t λ_ M' L'=>J (bw xs 0) M' L'\/∃pre,pre<+:bw xs 0/\B pre M' L':=by
 have m:∀{M2:Mem}(L:Lc),MLe g M2->CJ M2 L b 0 (.slice a xs.length c):=λL h=>(CM.cj ⟨_,_,_,h _ _ (u _ _ F),rfl⟩ L)
 refine sB func189 ntmps189 ?_;intro W
 refine gh ?_
 refine lq (AE rfl rfl rfl rfl (m _ (MLe.refl _))) ?_
 refine gh ?_
 refine Cz (α:=Int×Mem×Lc) (λx=>[(0,.func (.yield l) #[] #[]),(1,pB b),(3,.int .i64 x.1)]) (λx=>x.2.1) (λx=>x.2.2) (λx=> -1<=x.1/\x.1<xs.length/\MLe g x.2.1/\J (bw xs (x.1+1).toNat) x.2.1 x.2.2) (λx=>(x.1+1).toNat) ((xs.length:Int)-1,g,t) ⟨by show -1<=(xs.length:Int)-1;omega,by show (xs.length:Int)-1<xs.length;omega,MLe.refl _,by show J (bw xs ((xs.length:Int)-1+1).toNat) _ _;rw[show ((xs.length:Int)-1+1).toNat=xs.length by omega,PA];exact H⟩ ?_
 rintro⟨i,K,N⟩ ⟨o,E,d,n⟩
 try dsimp only at o E d n⊢
 refine gj (λr=>?_) λr=>?_
 ·refine gh ?_
  obtain⟨k,rfl⟩:∃k:Nat,i=k:=⟨i.toNat,by omega⟩
  have f:k<xs.length:=by omega
  obtain⟨sb,O,I,C⟩:=hs.open (by intro e;have:=congrArg length e;rw[Aj AT 2 Bl,length_nil]at this;omega)
  subst I
  refine lq (AE rfl rfl rfl rfl (m _ d)) ?_
  refine gh ?_
  refine lq (Bb (cs:=AT xs[k]) rfl rfl rfl rfl rfl (λi v D=>((Cs AT 2 Bl C (show xs[k]? =some xs[k]by simp[f]) i v D).mono (u.trans d)).cj _)) ?_
  refine lh (Hu rfl rfl rfl rfl (G (bw xs (k+1)) (xs[k],k) K N d (by rwa[show ((k:Int)+1).toNat=k+1 by omega]at n) (by rw[<-Ew xs f];exact C0 xs k))) ?_;rintro _ M' _ ⟨s,z,rfl,j⟩
  rw[<-Ew xs f]at j
  rcases j with⟨rfl,j⟩|⟨rfl,j⟩
  ·refine gh ?_
   refine Bw ((k:Int)-1,M',z) ⟨by show -1<=(k:Int)-1;omega,by show (k:Int)-1<xs.length;omega,d.trans s,by show J (bw xs ((k:Int)-1+1).toNat) _ _;rw[show ((k:Int)-1+1).toNat=k by omega];exact j⟩
  refine gh ?_
  refine AD (L':=z) (by simp) ?_
  refine JV (rs:=[]) rfl .nil ?_
  grind[C0]
 refine gh ?_
 refine Ug ?_
 refine JV (rs:=[]) rfl .nil ?_
 grind
theorem Py(b:Nat)(a:Option Addr)(c:Nat)(xs:List (Wt×Value))(M:Mem)(e:M b=some (.cells #[.slice a xs.length c] 27 (0,0)))(hs:SM M a (xs.flatMap AT))(d:xs.length<=1000000):Iter prog 189 [pB b] M (λp:(Wt×Value)×Nat=>[.int .i64 p.2,.agg (AT p.1).toArray]) (bw xs 0):=
 λl J k i j f g h=>wEr b a c xs M e hs d l J k i j f g h
theorem QD(a:Option Addr)(n c:Nat)(M:Mem)(h:n<=c)(b:n<=1000000):
  SpecL prog 172 #[.slice a n c] M [] λv _ _=>v=.slice a n n:=by
 refine sB func172 ntmps172 ?_;intro W
 refine gh ?_
 refine lq (Bc (C6 rfl rfl rfl (.of (v:=n) rfl (by omega) (by omega)) (.of (v:=n) rfl (by omega) (by omega)) (.no _) (by omega) (by simp)) (v':=.slice a n n) (by rw[AZ];rfl)) ?_
 refine gr ?_
 rfl
abbrev Ee:TypeId:=259
structure BN(M:Mem)(v:Value)(s:Sto):Prop where
 ex:∃p bv wv nv lv,v=pB p/\M p=some (cE [bv,wv,nv,lv] Ee)/\LS M bv s.blocks/\WS M wv s.waits/\BS M nv s.now/\BS M lv s.last
variable{M M':Mem}{s:Sto}
theorem BN.mono{v:Value}(h:BN M v s)(a:MLe M M'):BN M' v s:=by
 obtain⟨p,b,w,n,l,g,i,f,e,d,c⟩:=h.ex;exact⟨p,b,w,n,l,g,a _ _ i,f.mono a,e.mono a,d.mono a,c.mono a⟩
theorem K2(s:Sto)(i nv lv:Value)(c:Option Addr)(f:Nat)(M:Mem)(k:s.waits.length<=f)(g:s.waits.length<=1000000)(l:BS M nv s.now)(h:s.now.length<=100000):
  SpecL prog 109 #[.agg #[i,.slice c s.waits.length f,nv,lv]] M [] λu M' L'=>∃b R e d,u=pB b/\L'=(b,cE [i,.slice c s.waits.length s.waits.length,.slice e s.now.length d,lv] Ee)::R/\Own (.slice e s.now.length d) R 5 1 s.now.length (Ab s.now):=by
 refine sB func109 ntmps109 ?_;intro W
 refine ga λr=>?_
 refine gC (Bv nv s.now M l h) ?_;rintro _ o n m a
 obtain⟨e,d,rfl⟩:=a.form
 refine gq (QD c s.waits.length f o k g) ?_
 refine ga λj=>?_
 refine AD (L':=(j,cE [i,.slice c s.waits.length s.waits.length,.slice e s.now.length d,lv] Ee)::n) (by simp) ?_
 refine Gd rfl rfl ?_
 grind
theorem on_ro(s:Sto)(m nv lv:Value)(e:Option Addr)(d:Nat)(M:Mem)(n:s.waits.length<=d)(h:s.waits.length<=1000000)(o:BS M nv s.now)(j:s.now.length<=100000):
  SpecL prog 109 #[.agg #[m,.slice e s.waits.length d,nv,lv]] M [] λu M' L'=>(∃b g f,u=pB b/\M' b=some (cE [m,.slice e s.waits.length s.waits.length,.slice g s.now.length f,lv] Ee)/\BS M' (.slice g s.now.length f) s.now)/\L'=[]:=by
 refine sB func109 ntmps109 ?_;intro W
 refine ga λD=>?_
 refine gC (Bv nv s.now M o j) ?_;rintro _ B F t a
 obtain⟨g,f,rfl⟩:=a.form
 refine gq (QD e s.waits.length d B n h) ?_
 refine ga λc=>?_
 refine Cj a (by simp) ?_
 intro H E C r z k i;cases z
 refine AP c (by simp) ?_
 intro G l y
 refine AD (L':=[]) (by simp) ?_
 refine gr ?_
 exact⟨⟨c,_,_,rfl,y,⟨_,_,rfl,k,i.mono l⟩⟩,rfl⟩
theorem Kh(s:Sto)(v:Value)(M:Mem)(h:ST M v s)(e:s.waits.length<=1000000)(j:s.now.length<=100000):
  SpecL prog 109 #[v] M [] λu M' r=>(∀c,MLe M' c->MLe M c->BN c u s)/\r=[]:=by
 obtain⟨b,w,n,l,rfl,D,⟨m,t,ps,rfl,f,d,i,z⟩,C,B⟩:=h.ex
 refine(on_ro s b n l m t M f e C j).mono λu M' r y=>?_
 obtain⟨⟨p,F,E,rfl,g,k⟩,rfl⟩:=y
 exact⟨λc o a=>⟨p,b,_,_,l,rfl,o _ _ g,D.mono a,⟨m,_,ps,rfl,Nat.le_refl _,d.mono a,i,λp i=>(z p i).mono a⟩,k.mono o,B.mono a⟩,rfl⟩
def seen(s:Sto)(k:Nat):List By:=match s.waits.reverse.find? (λw=>w.1==(k:Int))with
 |some w=>w.2
 |none=>s.blocks.getD k []
def Ai(s:Sto)(k:Nat):Option (Int×List It):=if s.now.getD k 0=0 then none else C1 (seen s k)
def BnPost(s:Sto)(k:Nat)(u:Value)(M':Mem):Prop:=match Ai s k with
 |some (lv,xs)=>∃sl,u=.tuple #[.agg #[.int .i64 lv,sl],.int .i64 0]/\NS M' sl xs
 |none=>u=.tuple #[.agg zeroNd.toArray,.int .i64 8]
variable{blk:List By}{u:Value}
theorem NdPost.form(h:NdPost blk u M'):∃lv a n c e,u=.tuple #[.agg #[.int .i64 lv,.slice a n c],.int .i64 e]/\((e≠0/\C1 blk=none)\/(e=0/\∃xs,C1 blk=some (lv,xs)/\NS M' (.slice a n c) xs)):=by
 unfold NdPost at h
 split at h
 ·rename_i lv xs d
  obtain⟨sl,rfl,b⟩:=h
  obtain⟨a,c,ps,rfl,k,j,i,g⟩:=id b
  grind
 rename_i d
 obtain⟨e,f,rfl⟩:=h
 exact⟨0,none,0,0,e,rfl,.inl ⟨f,d⟩⟩
variable{k:Nat}{α:Type}{xs:List α}
theorem Dy(h:k<xs.length)(d:α):xs.getD k d=xs[k]:=by grind
variable{ps:List (Wt×Value)}
theorem KU(hp:ps.map (·.1)=s.waits)(h:∀p∈bw ps 0,p.1.1.1≠(k:Int)):seen s k=s.blocks.getD k []:=by
 unfold seen
 have:s.waits.reverse.find? (λw=>w.1==(k:Int))=none:=by
  rw[List.find?_eq_none]
  intro w a
  rw[<-hp,<-List.map_reverse,<-JT,map_map]at a
  grind
 grind
variable{y:(Wt×Value)×Nat}
theorem KT(hp:ps.map (·.1)=s.waits){pre:List ((Wt×Value)×Nat)}(a:pre++[y]<+:bw ps 0)(h:∀p∈pre,p.1.1.1≠(k:Int))(b:y.1.1.1=(k:Int)):seen s k=y.1.1.2:=by
 unfold seen
 obtain⟨r,c⟩:=a
 have:s.waits.reverse.find? (λw=>w.1==(k:Int))=some y.1.1:=by
  rw[<-hp,<-List.map_reverse,<-JT,map_map,<-c,map_append,map_append,List.append_assoc,List.find?_append,List.find?_eq_none.2]
  ·simp [b]
  grind
 grind
theorem Nx(h:Aq s)(hk:k<256):(seen s k).length=128:=by
 obtain⟨⟨d,c,b,a⟩,_⟩:=h
 grind[seen,Dy]
theorem Pz{y:α×Nat}(h:y∈bw xs 0):y.1∈xs:=by
 grind[bw,JT]
theorem Wc(s:Sto)(k:Nat)(hk:k<256)(G:Aq s)(p:Nat)(bv nv lv:Value)(X:Option Addr)(V:Nat)(ps:List (Wt×Value))(M:Mem)(ac:M p=some (cE [bv,.slice X s.waits.length V,nv,lv] Ee))(h1:LS M bv s.blocks)(aq:s.waits.length<=V)(Z:SM M X (ps.flatMap AT))(hp:ps.map (·.1)=s.waits)(hb:∀q∈ps,BS M q.2 q.1.2)(h3:BS M nv s.now):
  SpecL prog 121 #[pB p,.int .i64 k] M [] λu M' L'=>BnPost s k u (Cf M M')/\L'=[]:=by
 have H:∀{M2:Mem}(L:Lc)(i:Nat)(v:Value),MLe M M2->[bv,.slice X s.waits.length V,nv,lv][i]? =some v->CJ M2 L p i v:=λL i v h hv=>(CM.cj ⟨_,_,_,h _ _ ac,by simpa using hv⟩ L)
 obtain⟨⟨ax,aw,av,au⟩,⟨az,_⟩,_⟩:=id G
 obtain⟨na,nc,rfl,ay,b⟩:=h3
 obtain⟨nb,no,e0,ae⟩:=b.open (by intro e;have:=congrArg length e;rw[Af,length_nil]at this;omega)
 subst e0
 obtain⟨ba,bc,am,rfl,a0,ah,S,ai⟩:=h1
 obtain⟨bb,bo,e0,ag⟩:=ah.open (by intro e;have:=congrArg length e;rw[length_map,length_nil]at this;have h2:=congrArg length S;rw[length_map]at h2;omega)
 subst e0
 obtain⟨K,J,af,ab,aa⟩:=Cn ag S ai (k:=k) (by omega)
 refine sB func121 ntmps121 ?_;intro W
 refine gh ?_
 refine lh (Bf (cs:=[.int .i64 k]) rfl rfl rfl rfl) ?_;rintro _ _ _ ⟨b3,rfl,rfl,rfl⟩
 refine ga λb4=>?_
 refine JG [0,1,2,3,4,5,6,7,8] ?_
 refine gh ?_
 refine dq rfl (AE rfl rfl rfl rfl (H _ 2 _ (by first|exact MLe.refl _|assumption) rfl)) ?_
 refine gh ?_
 refine dq rfl (AE rfl rfl rfl rfl ((ae _ _ (by rw[Nat.mul_one];exact Cc (j:=k) (by omega))).cj _)) ?_
 refine gj (λr=>?_) λr=>?_
 ·refine gr ?_
  refine⟨?_,rfl⟩
  unfold BnPost Ai;rw[if_pos (UInt8.toNat.inj (by simpa using r))];rfl
 refine gh ?_
 refine JG [0,1,2,3,4,5,6,7,8,109,110] ?_
 refine gh ?_
 refine dq rfl (AE rfl rfl rfl rfl (H _ 0 _ (by first|exact MLe.refl _|assumption) rfl)) ?_
 refine gh ?_
 refine dq rfl (AE rfl rfl rfl rfl (af.cj _)) ?_
 refine DA rfl rfl rfl (AM rfl rfl) ?_;rintro _ _ _ ⟨U,rfl,rfl,rfl⟩
 refine Cp (MLe.refl _) (λ_ h=>List.mem_cons_of_mem _ h) (by first|exact MLe.refl _|assumption) (by simp) ?_
 refine Df rfl rfl (Ae rfl rfl rfl rfl rfl rfl rfl rfl) ?_;rintro _ _ _ ⟨rfl,rfl⟩
 refine Cp (MLe.refl _) (λ_ h=>List.mem_cons_of_mem _ h) (by first|exact MLe.refl _|assumption) (by simp) ?_
 refine gh ?_
 refine lq (AE rfl rfl rfl rfl (H _ 1 _ (by first|exact MLe.refl _|assumption) rfl)) ?_
 refine gC (bww _ _ _ M) ?_;rintro _ M1 _ n ⟨ak,rfl,C,rfl⟩
 have ad:ps.length=s.waits.length:=by grind
 rw[<-ad]at C
 refine gh ?_
 refine B1 b3 (by simp) ?_
 intro al E e3
 replace C:=E _ _ C
 replace n:=n.trans E
 refine D1 (R:=[(U,cE [.slice K s.blocks[k].length J] 30)]) (xs:=bw ps 0) (enc:=(λp:(Wt×Value)×Nat=>[.int .i64 p.2,.agg (AT p.1).toArray])) (ps:=[37,38]) rfl (by kernel_rfl) (Py ak X V ps al C (Z.mono n) (by omega))
  (λpre _ R=>R=[(U,cE [.slice K s.blocks[k].length J] 30)]/\∀q∈pre,q.1.1.1≠(k:Int))
  (λc _ M' R=>c=.exit 0/\∃v,R=[(U,cE [v] 30)]/\BS M' v (seen s k))
  (λ_=>rfl) (by decide) ⟨rfl,λ_ h=>by cases h⟩ ?_ ?_ ?_
 ·intro l W2 pre y M2 R2 m B z
  obtain⟨rfl,B⟩:=B
  have Y:y.1∈ps:=Pz (z.subset (by simp))
  obtain⟨⟨yw,yv⟩,yi⟩:=y
  have O:=hb _ Y
  obtain⟨ya,yc,N,ap,ao⟩:=id O
  change yv=Value.slice ya yw.2.length yc at N;subst N
  refine ga λb8=>?_
  refine jK λW'=>?_
  refine gh ?_
  refine lq (AE rfl rfl rfl rfl (CM.cj ⟨_,_,_,m _ _ e3,rfl⟩ _)) ?_
  refine gj (λT=>?_) λT=>?_
  ·refine gh ?_
   refine jBo rfl ?_
   refine AD (L':=[(U,cE [.slice ya yw.2.length yc] 30)]) (by simp) ?_
   refine jQx ?_
   refine⟨rfl,_,rfl,?_⟩
   rw[KT hp z B T]
   exact O.mono (n.trans m)
  refine gh ?_
  refine AD (L':=[(U,cE [.slice K s.blocks[k].length J] 30)]) (by simp) ?_
  refine Zj ?_
  grind
 ·intro d M2 R2 m B
  obtain⟨rfl,B⟩:=B
  have P:=KU hp B
  rw[Dy (by omega)]at P
  obtain⟨I,D⟩:∃I,I=Value.slice K s.blocks[k].length J:=⟨_,rfl⟩
  have F:BS M2 I (seen s k):=by rw[P,D];exact⟨K,J,rfl,ab,aa.mono (n.trans m)⟩
  rw[<-D]
  refine gc (K4 I (seen s k) M2 F (by rw[Nx G hk];omega)) ?_;rintro _ M3 aj g
  replace g:=g.mono (Fd (n.trans m):MLe _ (Cf M M3))
  obtain⟨nl,la,ln,lc,e,rfl,a⟩:=NdPost.form g
  refine gA λb9=>?_
  refine gj (λo=>?_) λo=>?_
  ·refine gh ?_
   refine Bi (L2:=_) Rm.perm ?_
   refine gr ?_
   refine⟨?_,rfl⟩
   have f:¬s.now.getD k 0=0:=λe=>r (by rw[e];rfl)
   unfold BnPost Ai;rw[if_neg f]
   rcases a with⟨Q,t⟩|⟨rfl,xs,t,b⟩
   ·rw [t];first|rfl|exact absurd Q o
   omega
  refine gh ?_
  refine Bi (L2:=_) Rm.perm ?_
  refine gr ?_
  refine⟨?_,rfl⟩
  have f:¬s.now.getD k 0=0:=λe=>r (by rw[e];rfl)
  unfold BnPost Ai;rw[if_neg f]
  rcases a with⟨Q,t⟩|⟨rfl,xs,t,b⟩
  ·omega
  rw[t];first|exact⟨_,rfl,b⟩|exact absurd rfl o
 intro d c pre M2 R2 m z B
 obtain⟨rfl,I,rfl,F⟩:=B
 refine gc (K4 I (seen s k) M2 F (by rw[Nx G hk];omega)) ?_;rintro _ M3 aj g
 replace g:=g.mono (Fd (n.trans m):MLe _ (Cf M M3))
 obtain⟨nl,la,ln,lc,e,rfl,a⟩:=NdPost.form g
 refine gA λb9=>?_
 refine gj (λo=>?_) λo=>?_
 ·refine gh ?_
  refine Bi (L2:=_) Rm.perm ?_
  refine gr ?_
  refine⟨?_,rfl⟩
  have f:¬s.now.getD k 0=0:=λe=>r (by rw[e];rfl)
  unfold BnPost Ai;rw[if_neg f]
  rcases a with⟨Q,t⟩|⟨rfl,xs,t,b⟩
  ·rw [t];first|rfl|exact absurd Q o
  omega
 refine gh ?_
 refine Bi (L2:=_) Rm.perm ?_
 refine gr ?_
 refine⟨?_,rfl⟩
 have f:¬s.now.getD k 0=0:=λe=>r (by rw[e];rfl)
 unfold BnPost Ai;rw[if_neg f]
 rcases a with⟨Q,t⟩|⟨rfl,xs,t,b⟩
 ·omega
 rw[t];first|exact⟨_,rfl,b⟩|exact absurd rfl o
theorem BnPost.mono(h:BnPost s k u M)(a:MLe M M'):BnPost s k u M':=by
 unfold BnPost at *
 split at h
 ·obtain ⟨s,e,b⟩:=h;exact⟨s,e,b.mono a⟩
 omega
theorem QI(s:Sto)(k:Nat)(v:Value)(M:Mem)(d:Aq s)(hk:k<256)(h:BN M v s):SpecL prog 121 #[v,.int .i64 k] M [] λu M' f=>BnPost s k u (Cf M M')/\f=[]:=by
 obtain⟨p,b,w,n,l,rfl,e,t,⟨i,g,ps,rfl,c,a,j,m⟩,r,o⟩:=h.ex
 grind[Wc]
theorem Ep(s:Sto)(k:Nat)(v:Value)(M:Mem)(a:Aq s)(hk:k<256)(h:BN M v s):SpecL prog 121 #[v,.int .i64 k] M [] λu M' d=>BnPost s k u M'/\d=[]:=
 (QI s k v M a hk h).mono λ_ _ _ ⟨c,b⟩=>⟨c.mono (EF _ _),b⟩
set_option maxRecDepth 8000
structure Sp where
 first:Ky
 last:Ky
 is:Bool
abbrev LE(p:Sp):List Value:=[.int .u8 p.first.kind,.int .u32 p.first.id,.int .u32 p.first.off,.int .u8 p.last.kind,.int .u32 p.last.id,.int .u32 p.last.off,.bool p.is]
def Co:Sp:=⟨⟨0,0,0⟩,⟨0,0,0⟩,false⟩
def As(one:Sp)(o:Option Sp)(x:It):Bool:=one.is&&decide (one.first=x.key)&&(match o with|none=>true|some p=>Ap p.last one.first)
def A7(one:Sp)(o:Option Sp):Sp:=⟨(match o with|none=>one.first|some p=>p.first),one.last,true⟩
def A2(f:It->Sp):Option Sp->List It->Sp
 |o,[]=>o.getD Co
 |o,x::xs=>if As (f x) o x then A2 f (some (A7 (f x) o)) xs else Co
def AL(s:Sto):Nat->It->Sp
 |0,x=>⟨x.key,x.key,decide (x.ref=0)||decide (0<((s.now.getD x.ref.toNat 0).toNat:Int))⟩
 |l+1,x=>match Ai s x.ref.toNat with
  |some (lv,ys)=>if lv=(l:Int)/\ys≠[]then A2 (AL s l) none ys else Co
  |none=>Co
variable{f:It->Sp}{k:Nat}{o:Option Sp}{xs:List It}
theorem Dm(hk:k<xs.length)(a:A2 f none xs=A2 f o (xs.drop k))(h:As (f xs[k]) o xs[k]=false):A2 f none xs=Co:=by
 rw[a,List.drop_eq_getElem_cons hk,A2,if_neg (by rw[h];decide)]
theorem GV(hk:k<xs.length)(a:A2 f none xs=A2 f o (xs.drop k))(h:As (f xs[k]) o xs[k]=true):A2 f none xs=A2 f (some (A7 (f xs[k]) o)) (xs.drop (k+1)):=by
 rw[a,List.drop_eq_getElem_cons hk,A2,if_pos h]
theorem VF(hk:k=xs.length)(a:A2 f none xs=A2 f o (xs.drop k)):A2 f none xs=o.getD Co:=by
 grind[A2]
variable{l:Nat}{s:Sto}
theorem KR{x:It}(h:Ai s x.ref.toNat=none):As (AL s (l+1) x) o x=false:=by simp_all [AL,As,Co]
variable{lv:Int}{ys:List It}
theorem KQ{x:It}(h:Ai s x.ref.toNat=some (lv,ys))(a:¬(lv=(l:Int)/\ys≠[])):As (AL s (l+1) x) o x=false:=by
 simp only[AL,h];rw[if_neg a];simp[As,Co]
theorem BX:∀{ab:Bool}{p:Option Ky}{xs:List It},BB ab p xs=true->∀x∈xs,BQ x=false/\(ab=true->x.ref≠0/\x.val=[])
 |_,_,[],_,x,a=>by grind
 |ab,p,y::ys,h,x,a=>by
  simp only[BB,Bool.and_eq_true,Bool.not_eq_true',Bool.or_eq_true]at h
  rcases List.mem_cons.1 a with rfl|a
  ·grind
  exact BX h.2 x a
structure NdOk(lv:Int)(xs:List It):Prop where
 lev:0<=lv/\lv<6
 len:xs.length<=5
 ref:∀x∈xs,x.ref=0\/8<=x.ref/\x.ref<256
 up:0<lv->∀x∈xs,x.ref≠0
 ok:BB (decide (0<lv)) none xs=true
theorem NdOk.of(h:Cw lv xs=true):NdOk lv xs:=by
 unfold Cw at h
 rw[Bool.and_eq_true,decide_eq_true_eq]at h
 refine⟨⟨h.1.1,h.1.2.1⟩,h.1.2.2.1,λx a=>?_,λb x a=>((BX h.2 x a).2 (by simpa using b)).1,h.2⟩
 have:=(BX h.2 x a).1
 grind[BQ]
variable{blk:List By}
theorem X7(h:C1 blk=some (lv,xs)):NdOk lv xs:=by
 grind[C1,NdOk.of,CW,Cw]
theorem Ar(h:Ai s k=some (lv,xs)):NdOk lv xs:=by
 grind[Ai,X7]
def AV(s:Sto)(l:Nat)(xs:List It):Prop:=xs≠[]->(A2 (AL s l) none xs).is=true
instance(s:Sto)(l:Nat)(xs:List It):Decidable (AV s l xs):=by unfold AV;exact inferInstance
theorem Gg:∀{xs:List It}{o:Option Sp},(A2 f o xs).is=true->∀x∈xs,(f x).is=true/\(f x).first=x.key
 |[],_,_,x,a=>by grind
 |y::ys,o,h,x,a=>by
  rw[A2]at h
  split at h
  ·rename_i b
   rcases List.mem_cons.1 a with rfl|a
   ·simp_all [As]
   exact Gg h x a
  cases h
theorem Q2{x:It}(h:(AL s (l+1) x).is=true):∃ys,Ai s x.ref.toNat=some ((l:Int),ys)/\ys≠[]/\AL s (l+1) x=A2 (AL s l) none ys:=by
 simp only[AL]at h⊢
 split at h
 ·rename_i lv ys a
  split at h
  ·grind
  cases h
 cases h
theorem BA(h:AV s (l+1) xs){x:It}(a:x∈xs):∃ys,Ai s x.ref.toNat=some ((l:Int),ys)/\ys≠[]/\AV s l ys:=by
 have b:=(Gg (h (List.ne_nil_of_mem a)) x a).1
 obtain⟨ys,e,d,c⟩:=Q2 b
 exact⟨ys,e,d,λ_=>by rw[<-c];exact b⟩
def kid(s:Sto)(x:It):List It:=match Ai s x.ref.toNat with|some (_,ys)=>ys|none=>[]
variable{M':Mem}{u:Value}
theorem BnPost.form(h:BnPost s k u M'):∃lv a n c e,u=.tuple #[.agg #[.int .i64 lv,.slice a n c],.int .i64 e]/\((e=8/\Ai s k=none)\/(e=0/\∃xs,Ai s k=some (lv,xs)/\n=xs.length/\NS M' (.slice a xs.length c) xs)):=by
 unfold BnPost at h
 split at h
 ·rename_i lv xs d
  obtain⟨sl,rfl,b⟩:=h
  obtain⟨a,c,ps,rfl,j,i,g,f⟩:=id b
  grind
 rename_i d
 exact⟨0,none,0,0,8,h,.inl ⟨rfl,d⟩⟩
end Go.Proofs.YtdahhoicackcaaaGreat
