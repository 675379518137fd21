/- Trees of nodes, without a program in sight. No statement of the seat is proved here. -/
import Derived.Test.YtjheijhahehnmaaGreatDoorZHn
import Derived.Test.YtjheijhahehnmaaGreatDoorZNode
namespace Go.Proofs.YtjheijhahehnmaaGreatDoor
open Go.Proofs.Tryz
open List (length length_nil length_drop take_length map_append length_map getElem_mem map_map)
set_option linter.unusedSimpArgs false
set_option linter.unusedVariables false
set_option linter.unusedSectionVars false
set_option maxHeartbeats 40000000
set_option maxRecDepth 8000
open Go.RowKit
theorem Y3(v:Value)(xs:List By)(M:Mem)(m:BS M v xs)(o:xs.length<=100000):SpecL prog 233 #[v] M [] λu M' b=>∃x f d,∃g:Int,u=.tuple #[.agg (E1 x f d).toArray,.int .i64 g,.int .i64 (VU xs)]/\(VU xs=0->x=HN xs/\g=E7 xs/\x.val.length<=d/\SM (Cn M M') f (Aa x.val))/\b=[]:=by
 obtain⟨a,c,rfl,y,n⟩:=m;have err:∀e:Int,e≠0->VU xs=e->SpecL prog 233 #[.slice a xs.length c] M [] (λv _ b=>v=.tuple #[.agg zeroIt.toArray,.int .i64 0,.int .i64 e]/\b=[])->SpecL prog 233 #[.slice a xs.length c] M [] λu M' b=>∃x f d,∃g:Int,u=.tuple #[.agg (E1 x f d).toArray,.int .i64 g,.int .i64 (VU xs)]/\(VU xs=0->x=HN xs/\g=E7 xs/\x.val.length<=d/\SM (Cn M M') f (Aa x.val))/\b=[]:=
  λe w j h=>h.mono λu M' b i=>⟨⟨⟨0,0,0⟩,0,[]⟩,none,0,0,by rw[j];exact i.1,λD=>absurd (j▸D) w,i.2⟩
 by_cases C:xs.length<12
 ·simp_all [VU,wGk]
 by_cases B:xs.length<E7 xs
 ·simp_all [VU,Y4]
 have j:VU xs=Cd (HN xs):=by grind[VU]
 by_cases z:Cd (HN xs)=0
 ·refine (wNt a c xs M y n o C B z).mono λu M' b i=>?_;obtain⟨G,E,⟨s,rfl,f,d,rfl,l,k⟩,F⟩:=i;grind
 grind[wGm]
variable{xs:List By}
theorem wLd(h:VU xs=0):12<=xs.length/\E7 xs<=xs.length/\E7 xs<=24/\Cd (HN xs)=0:=by
 unfold VU at h;split at h
 ·cases h
 split at h
 ·cases h
 rename_i c b;have a:=CQ h;grind[T0,BB,HN]
def Ce:Nat->List By->List It->Option (List It×List By)
 |0,r,acc=>some (acc,r)
 |n+1,r,acc=>if VU r=0 then Ce n (r.drop (E7 r)) (acc++[HN r])else none
def Dk(blk:List By):Option (Int×List It):=
 if CO blk=0 then
  if (blk.drop 4).getD 0 0=78/\(blk.drop 4).getD 2 0<=5 then
   match Ce ((blk.drop 4).getD 2 0).toNat ((blk.drop 4).drop 3) []with
   |some (xs,r)=>if C0 (((blk.drop 4).getD 1 0).toNat:Int) xs=0/\Db r=true then some ((((blk.drop 4).getD 1 0).toNat:Int),xs)else none
   |none=>none
  else none
 else none
def zeroNd:List Value:=[.int .i64 0,.slice none 0 0]
def NdPost(blk:List By)(u:Value)(M':Mem):Prop:=match Dk blk with
 |some (lv,xs)=>∃s,u=.tuple #[.agg #[.int .i64 lv,s],.int .i64 0]/\NS M' s xs
 |none=>∃e:Int,e≠0/\u=.tuple #[.agg zeroNd.toArray,.int .i64 e]
theorem YC(v:Value)(a:List By)(M:Mem)(b:BS M v a)(f:a.length<=100000)(h:CO a≠0):
  SpecL prog 151 #[v] M [] λu M' e=>NdPost a u (Cn M M')/\e=[]:=by
 refine sB func151 ntmps151 ?_;intro W;refine ga λg=>?_;refine gC (J3 v a M b) ?_;rintro _ i _ d ⟨s,rfl,c,rfl⟩;refine gu ?_;exact⟨by unfold NdPost Dk;rw[if_neg h];exact⟨_,h,rfl⟩,rfl⟩
theorem Wi(v:Value)(a:List By)(M:Mem)(l:BS M v a)(F:a.length<=100000)(h:CO a=0)(G:((a.drop 4).getD 0 0).toNat≠78):
  SpecL prog 151 #[v] M [] λu M' z=>NdPost a u (Cn M M')/\z=[]:=by
 refine sB func151 ntmps151 ?_;intro W;refine ga λI=>?_;refine gC (J3 v a M l) ?_;rintro _ J _ o ⟨s,rfl,c,rfl⟩;have c:=c h;have n:(a.drop 4).length=124:=by grind[CO]
 obtain⟨B,k,rfl,m,d⟩:=c;obtain⟨sb,i,y,f⟩:=d.open (by intro e;have:=congrArg length e;rw[Ad,length_nil]at this;omega);subst y;generalize w:a.drop 4=b at *;have E:=(b.getD 0 0).toNat_lt;have D:=(b.getD 1 0).toNat_lt;have C:=(b.getD 2 0).toNat_lt;refine gt ?_;refine lq (Au rfl rfl rfl rfl ((f ((1:Int).toNat*1) _ (Ca (j:=1) (by omega))).cj _)) ?_;refine lq (C7 rfl rfl rfl (by omega)) ?_;refine ga λH=>?_;refine lq (Bh (CL rfl rfl rfl (.no _) (.no _) (.of (v:=3) rfl (by omega) rfl) (by omega) (by simp)) (v':=.slice (some ⟨sb,i+3*1,none⟩) (b.drop 3).length (k-3)) (by rw[AH (by omega),length_drop])) ?_;refine gh ?_;refine lq (Au rfl rfl rfl rfl ((f ((0:Int).toNat*1) _ (Ca (j:=0) (by omega))).cj _)) ?_;refine gu ?_;refine⟨?_,rfl⟩;unfold NdPost Dk;rw[if_pos h,w,if_neg (by intro g;have:=congrArg UInt8.toNat g.1;have:=UInt8.le_iff_toNat_le.1 g.2;simp at *;omega)];exact⟨8,by decide,rfl⟩
theorem Wh(v:Value)(a:List By)(M:Mem)(l:BS M v a)(G:a.length<=100000)(h:CO a=0)(H:((a.drop 4).getD 0 0).toNat=78)(n:5<((a.drop 4).getD 2 0).toNat):
  SpecL prog 151 #[v] M [] λu M' B=>NdPost a u (Cn M M')/\B=[]:=by
 refine sB func151 ntmps151 ?_;intro W;refine ga λJ=>?_;refine gC (J3 v a M l) ?_;rintro _ K _ w ⟨s,rfl,c,rfl⟩;have c:=c h;have o:(a.drop 4).length=124:=by grind[CO]
 obtain⟨C,k,rfl,m,f⟩:=c;obtain⟨sb,i,z,d⟩:=f.open (by intro e;have:=congrArg length e;rw[Ad,length_nil]at this;omega);subst z;generalize y:a.drop 4=b at *;have F:=(b.getD 0 0).toNat_lt;have E:=(b.getD 1 0).toNat_lt;have D:=(b.getD 2 0).toNat_lt;refine gt ?_;refine lq (Au rfl rfl rfl rfl ((d ((1:Int).toNat*1) _ (Ca (j:=1) (by omega))).cj _)) ?_;refine lq (C7 rfl rfl rfl (by omega)) ?_;refine ga λI=>?_;refine lq (Bh (CL rfl rfl rfl (.no _) (.no _) (.of (v:=3) rfl (by omega) rfl) (by omega) (by simp)) (v':=.slice (some ⟨sb,i+3*1,none⟩) (b.drop 3).length (k-3)) (by rw[AH (by omega),length_drop])) ?_;refine gh ?_;refine lq (Au rfl rfl rfl rfl ((d ((0:Int).toNat*1) _ (Ca (j:=0) (by omega))).cj _)) ?_;refine gt ?_;refine lq (Au rfl rfl rfl rfl ((d ((2:Int).toNat*1) _ (Ca (j:=2) (by omega))).cj _)) ?_;refine gu ?_;refine⟨?_,rfl⟩;unfold NdPost Dk;rw[if_pos h,y,if_neg (by intro g;have:=congrArg UInt8.toNat g.1;have:=UInt8.le_iff_toNat_le.1 g.2;simp at *;omega)];exact⟨8,by decide,rfl⟩
variable{acc:List It}{m:Nat}
theorem Qc{r:List By}(h:VU r=0):Ce (m+1) r acc=Ce m (r.drop (E7 r)) (acc++[HN r]):=by grind[Ce]
theorem VT{r:List By}(h:VU r≠0):Ce (m+1) r acc=none:=by grind[Ce]
abbrev IT:TypeId:=162
variable{blk:List By}
theorem GD{b:List By}(d:blk.drop 4=b)(h:CO blk=0)(c:(b.getD 0 0).toNat=78)(a:(b.getD 2 0).toNat<=5):
  Dk blk=match Ce (b.getD 2 0).toNat (b.drop 3) []with
   |some (xs,r)=>if C0 ((b.getD 1 0).toNat:Int) xs=0/\Db r=true then some (((b.getD 1 0).toNat:Int),xs)else none
   |none=>none:=by
 unfold Dk;rw[if_pos h,d,if_pos ⟨UInt8.toNat.inj c,UInt8.le_iff_toNat_le.2 a⟩]
variable{M:Mem}{e:Int}
theorem Ja(h:Dk blk=none)(a:e≠0):NdPost blk (.tuple #[.agg zeroNd.toArray,.int .i64 e]) M:=by
 grind[NdPost]
theorem YD(v:Value)(a:List By)(M:Mem)(hv:BS M v a)(hn:a.length<=100000)(h:CO a=0)(U:((a.drop 4).getD 0 0).toNat=78)(g:((a.drop 4).getD 2 0).toNat<=5):
  SpecL prog 151 #[v] M [] λu M' L'=>NdPost a u (Cn M M')/\L'=[]:=by
 refine sB func151 ntmps151 ?_;intro W;refine ga λb2=>?_;refine gC (J3 v a M hv) ?_;rintro _ M1 _ O ⟨s,rfl,F,rfl⟩;have F:=F h;have ap:(a.drop 4).length=124:=by grind[CO]
 obtain⟨sa,Z,rfl,am,ac⟩:=F;obtain⟨sb,T,e0,J⟩:=ac.open (by intro e;have:=congrArg length e;rw[Ad,length_nil]at this;omega);subst e0;generalize V:a.drop 4=b at *;have q0:=(b.getD 0 0).toNat_lt;have q1:=(b.getD 1 0).toNat_lt;have q2:=(b.getD 2 0).toNat_lt;refine gt ?_;refine lq (Au rfl rfl rfl rfl ((J ((1:Int).toNat*1) _ (Ca (j:=1) (by omega))).cj _)) ?_;refine lq (C7 rfl rfl rfl (by omega)) ?_;refine ga λb6=>?_;refine lq (Bh (CL rfl rfl rfl (.no _) (.no _) (.of (v:=3) rfl (by omega) rfl) (by omega) (by simp)) (v':=.slice (some ⟨sb,T+3*1,none⟩) (b.drop 3).length (Z-3)) (by rw[AH (by omega),length_drop])) ?_;refine gh ?_;refine lq (Au rfl rfl rfl rfl ((J ((0:Int).toNat*1) _ (Ca (j:=0) (by omega))).cj _)) ?_;refine gt ?_;refine lq (Au rfl rfl rfl rfl ((J ((2:Int).toNat*1) _ (Ca (j:=2) (by omega))).cj _)) ?_;refine gt ?_;refine lq (Au rfl rfl rfl rfl ((J ((2:Int).toNat*1) _ (Ca (j:=2) (by omega))).cj _)) ?_;refine gh ?_;have ao:(b.drop 3).length=121:=by grind
 have ak:BS M1 (.slice (some ⟨sb,T+3*1,none⟩) (b.drop 3).length (Z-3)) (b.drop 3):=⟨_,_,rfl,by omega,.inr ⟨sb,T+3*1,rfl,λi u hu=>by have:=SM.sub 3 (b.drop 3).length J;rw[take_length]at this;exact this i u hu⟩⟩;refine CC (α:=Nat×Mem×Lc×Value×Value×List By×List (It×Value)) (λx=>[(2,pB b2),(6,pB b6),(7,x.2.2.2.2.1),(41,.int .u8 ((b.getD 2 0).toNat:Int)),(42,.int .u8 (x.1:Int))]) (λx=>x.2.1) (λx=>x.2.2.1++[(b6,cE [.int .i64 ((b.getD 1 0).toNat:Int),x.2.2.2.1] 81),(b2,cE [.int .i64 0,.slice none 0 0] 81)]) (λx=>x.1<=(b.getD 2 0).toNat/\MLe M1 x.2.1/\Own x.2.2.2.1 x.2.2.1 IT 5 x.2.2.2.2.2.2.length (x.2.2.2.2.2.2.flatMap Ae)/\(∀p∈x.2.2.2.2.2.2,BS (Cn M x.2.1) p.2 p.1.val)/\BS x.2.1 x.2.2.2.2.1 x.2.2.2.2.2.1/\121<=x.2.2.2.2.2.1.length+24*x.1/\x.2.2.2.2.2.1.length<=121/\Ce (b.getD 2 0).toNat (b.drop 3) []=Ce ((b.getD 2 0).toNat-x.1) x.2.2.2.2.2.1 (x.2.2.2.2.2.2.map (·.1))/\x.2.2.2.2.2.2.length=x.1) (λx=>(b.getD 2 0).toNat-x.1) (0,M1,[],.slice none 0 0,.slice (some ⟨sb,T+3*1,none⟩) (b.drop 3).length (Z-3),b.drop 3,[]) ⟨Nat.zero_le _,MLe.refl _,Own.nil _ _,(λ_ h=>by cases h),ak,by show 121<=(b.drop 3).length+24*0;omega,by show (b.drop 3).length<=121;omega,rfl,rfl⟩ ?_;rintro⟨k,Mk,R,s,rv,r,ps⟩ ⟨hk,n,c,B,z,af,ae,H,ag⟩;try dsimp only at hk n c B z af ae H ag⊢
 refine gj (λal=>?_) λal=>?_
 ·refine gh ?_;obtain⟨I,y,rfl,K,f⟩:=z;refine gC (Y3 _ r Mk ⟨I,y,rfl,K,f⟩ (by omega)) ?_;rintro _ P _ d ⟨x,S,Q,sz,rfl,ah,rfl⟩;refine gA λb8=>?_;refine gj (λw=>?_) λw=>?_
  ·refine gr ?_;refine⟨?_,rfl⟩;refine Ja ?_ w;rw[GD V h U g,H,show (b.getD 2 0).toNat-k=((b.getD 2 0).toNat-(k+1))+1 by omega,VT w]
  refine gh ?_;have hE:VU r=0:=Classical.not_not.1 w;obtain⟨z1,z2,z3,z4⟩:=wLd hE;obtain⟨rfl,rfl,ab,aa⟩:=ah hE;refine Gt [9] [5,6,7,9,10] [0,1,2,5,6,7,103,104,8,109,10] P ([(b8,cE (E1 (HN r) S Q) IT),(b6,cE [.int .i64 ((b.getD 1 0).toNat:Int),s] 81),(b2,cE [.int .i64 0,.slice none 0 0] 81)]) ([]) ?_;refine gh ?_;refine wNm rfl rfl rfl (Bh (CL rfl rfl rfl (.no _) (.no _) (.of (v:=E7 r) rfl (by omega) (by omega)) (by omega) (by simp)) (v':=.slice (HE I (E7 r) y 1) (r.drop (E7 r)).length (y-E7 r)) (by rw[length_drop])) ?_;refine GP rfl rfl rfl (Ab (cs:=[_,_,_,_,_]) rfl rfl rfl (by rfl) (by rfl) (by rfl)) ?_;rintro _ _ _ ⟨aq,rfl,rfl,rfl⟩;refine Cv (MLe.refl _) (λ_ h=>List.mem_cons_of_mem _ h) (by first|exact MLe.refl _|assumption) (by simp) ?_;refine dh rfl (AY (R:=R) (m:=1) rfl rfl rfl rfl c rfl (λi v hv=>CJ.loc (by simpa using hv)) rfl (by rfl) (by simp[Value.oneCell']) (by omega) (by omega)) ?_;rintro s' _ _ ⟨rfl,R',rfl,D,_⟩;refine⟨MLe.refl _,by simp,?_⟩;obtain⟨Y,X,rfl⟩:=D.form;refine gh ?_;refine lq (wTr rfl rfl rfl rfl rfl (by rw[IntKind.wrap_u8];omega)) ?_;refine gh ?_;refine BD (k+1,P,R',.slice Y (ps.length+1) X,.slice (HE I (E7 r) y 1) (r.drop (E7 r)).length (y-E7 r),r.drop (E7 r),ps++[(HN r,.slice S (HN r).val.length Q)]) ⟨by show k+1<=(b.getD 2 0).toNat;omega,n.trans d,?_,?_,?_,?_,?_,?_,?_⟩ (hs:=λ_ h=>h.fewer (by first|exact List.Sublist.refl _|(simp)))
  ·grind [Own,Ae]
  ·intro p C;rcases List.mem_append.1 C with C|C
   ·exact (B p C).mono (Qw d)
   rw[List.mem_singleton.1 C];exact⟨S,Q,rfl,ab,aa.mono (FJ (O.trans n))⟩
  ·refine ⟨_,_,rfl,?_,?_⟩
   ·grind
   have:=f.part (l:=E7 r) (m:=y) (s:=1) (by omega) (Aa r).length;rw[List.take_of_length_le (by rw[length_drop];omega),Nat.mul_one]at this;rw[show Aa (r.drop (E7 r))=(Aa r).drop (E7 r)by simp[Aa,List.map_drop]];exact this.mono d
  ·grind
  ·grind
  ·show Ce _ _ _=Ce ((b.getD 2 0).toNat-(k+1)) (r.drop (E7 r)) ((ps++[(HN r,Value.slice S (HN r).val.length Q)]).map (·.1));rw[H,show (b.getD 2 0).toNat-k=((b.getD 2 0).toNat-(k+1))+1 by omega,Qc hE,map_append];rfl
  grind
 refine gh ?_;have E:(b.getD 2 0).toNat-k=0:=by omega
 refine Ui c (by simp) ?_;intro M2 Y X N e2 aj ad;subst e2;have L:NS (Cn M M2) (.slice Y ps.length X) (ps.map (·.1)):=⟨Y,X,ps,by rw[length_map],by rw[length_map];exact aj,ad.mono (FJ (O.trans n)),rfl,λp C=>(B p C).mono (Qw N)⟩;refine gQ (Gd _ (ps.map (·.1)) _ M2 (L.mono (EZ _ _))) ?_;refine gj (λo=>?_) λo=>?_
 ·refine gr ?_;refine⟨?_,rfl⟩;refine Ja ?_ o;rw[GD V h U g,H,E];show (if _ then _ else _)=none;rw[if_neg (λhh=>o hh.1)]
 refine gh ?_;obtain⟨I,y,rfl,K,f⟩:=z;refine gQ (Wu I y r M2 (f.mono N) (by omega) (by omega)) ?_;refine gj (λG=>?_) λG=>?_
 ·refine gr ?_;refine⟨?_,rfl⟩;refine Ja ?_ (by decide);rw[GD V h U g,H,E];show (if _ then _ else _)=none;rw[if_neg (λhh=>by have:=Px (xs:=r) (by omega);rw[hh.2,decide_eq_true G]at this;cases this)]
 refine gr ?_;refine⟨?_,rfl⟩;unfold NdPost;rw[GD V h U g,H,E];have ai:Db r=true:=by have:=Px (xs:=r) (by omega);rw[decide_eq_false G]at this;cases hn:Db r<;>simp_all
 rw[show Ce 0 r (ps.map (·.1))=some (ps.map (·.1),r)from rfl];simp only[];rw[if_pos ⟨Classical.not_not.1 o,ai⟩];exact⟨_,rfl,L⟩
theorem Nh(v:Value)(a:List By)(M:Mem)(c:BS M v a)(d:a.length<=100000):SpecL prog 151 #[v] M [] λu M' b=>NdPost a u (Cn M M')/\b=[]:=by
 grind[CO,YD,Wh,Wi,YC]
variable{M M':Mem}{blk:List By}{u:Value}
theorem NdPost.mono(h:NdPost blk u M)(a:MLe M M'):NdPost blk u M':=by
 unfold NdPost at *;split at h
 ·obtain ⟨s,e,b⟩:=h;exact⟨s,e,b.mono a⟩
 omega
theorem YB(v:Value)(a:List By)(M:Mem)(b:BS M v a)(c:a.length<=100000):SpecL prog 151 #[v] M [] λu M' f=>NdPost a u M'/\f=[]:=
 (Nh v a M b c).mono λ_ _ _ ⟨e,d⟩=>⟨e.mono (EZ _ _),d⟩
abbrev Wt:=Int×List By
structure Sto where
 blocks:List (List By)
 waits:List Wt
 now:List By
 last:List By
def AZ(p:Wt×Value):List Value:=[.int .i64 p.1.1,p.2]
theorem BX(p:Wt×Value):(AZ p).length=2:=rfl
abbrev wXy(w:Wt)(va:Option Addr)(vc:Nat):List Value:=[.int .i64 w.1,.slice va w.2.length vc]
def LS(M:Mem)(v:Value)(bs:List (List By)):Prop:=∃a c,∃ps:List (List By×Value),v=.slice a bs.length c/\bs.length<=c/\SM M a (ps.map (·.2))/\ps.map (·.1)=bs/\∀p∈ps,BS M p.2 p.1
def WS(M:Mem)(v:Value)(ws:List Wt):Prop:=∃a c,∃ps:List (Wt×Value),v=.slice a ws.length c/\ws.length<=c/\SM M a (ps.flatMap AZ)/\ps.map (·.1)=ws/\∀p∈ps,BS M p.2 p.1.2
theorem LS.mono{v:Value}{xs:List (List By)}(h:LS M v xs)(b:MLe M M'):LS M' v xs:=by
 obtain⟨a,c,ps,j,i,g,f,e⟩:=h;exact⟨a,c,ps,j,i,g.mono b,f,λp d=>(e p d).mono b⟩
theorem WS.mono{v:Value}{xs:List Wt}(h:WS M v xs)(b:MLe M M'):WS M' v xs:=by
 obtain⟨a,c,ps,j,i,g,f,e⟩:=h;exact⟨a,c,ps,j,i,g.mono b,f,λp d=>(e p d).mono b⟩
theorem CX{M:Mem}{e d:Nat}{bs:List (List By)}{ps:List (List By×Value)}(h:∀i u,(ps.map (·.2))[i]? =some u->CM M e (d+i) u)(m:ps.map (·.1)=bs)(g:∀p∈ps,BS M p.2 p.1){k:Nat}(hk:k<bs.length):
  ∃b a,CM M e (d+k*1) (.slice b bs[k].length a)/\bs[k].length<=a/\SM M b (Aa bs[k]):=by
 have c:k<ps.length:=by grind
 have f:bs[k]=ps[k].1:=by grind
 obtain⟨b,a,j,n,l⟩:=g ps[k] (getElem_mem c);grind
variable{k sb:Nat}{ps:List (Wt×Value)}{ws:List Wt}
theorem JI{e:Nat}(h:∀i u,(ps.flatMap AZ)[i]? =some u->CM M sb (e+i) u)(n:ps.map (·.1)=ws)(m:∀p∈ps,BS M p.2 p.1.2)(hk:k<ws.length):
  ∃c b,(∀i v,(wXy ws[k] c b)[i]? =some v->CM M sb (e+k*2+i) v)/\ws[k].2.length<=b/\SM M c (Aa ws[k].2):=by
 have a:k<ps.length:=by grind
 have d:ws[k]=ps[k].1:=by grind
 obtain⟨c,b,l,g,f⟩:=m ps[k] (getElem_mem a);rw[<-d]at l g f;refine⟨c,b,λi v j=>Bs AZ 2 BX h (show ps[k]? =some ps[k]by simp[a]) i v ?_,g,f⟩;simp_all [AZ,wXy]
def Jv(bs:List (List By))(ws:List Wt):Prop:=bs.length=256/\ws.length<=4096/\(∀b∈bs,b.length=128)/\∀w∈ws,0<=w.1/\w.1<256/\w.2.length=128
instance(bs:List (List By))(ws:List Wt):Decidable (Jv bs ws):=by unfold Jv;exact inferInstance
def Tx(bs:List (List By))(ws:List Wt):Int:=if Jv bs ws then 0 else 8
variable{α:Type}
theorem U5{p:α->Prop}{xs:List α}(hk:k<xs.length)(h:∀x∈xs.take k,p x)(a:p xs[k]):∀x∈xs.take (k+1),p x:=by
 rw[List.take_succ_eq_append_getElem hk];grind
theorem Xs(bs:List (List By))(a:List Wt)(C:Option Addr)(z:Nat)(j:List (List By×Value))(B:Option Addr)(y:Nat)(g:List (Wt×Value))(M:Mem)(ab:bs.length<=z)(I:SM M C (j.map (·.2)))(u:j.map (·.1)=bs)(L:∀p∈j,BS M p.2 p.1)(aa:a.length<=y)(H:SM M B (g.flatMap AZ))(s:g.map (·.1)=a)(K:∀p∈g,BS M p.2 p.1.2):
  SpecL prog 82 #[.agg #[.slice C bs.length z,.slice B a.length y]] M [] λv _ _=>v=.int .i64 (Tx bs a):=by
 refine sB func82 ntmps82 ?_;intro W;refine gA λD=>?_;refine gj (λV=>?_) λV=>?_
 ·refine gr ?_;exact congrArg _ (Eq.symm (if_neg (λ⟨o,n,m,f⟩=>by omega)))
 refine gj (λU=>?_) λU=>?_
 ·refine gr ?_;exact congrArg _ (Eq.symm (if_neg (λ⟨o,n,m,f⟩=>by omega)))
 refine gh ?_;refine CC (α:=Nat) (λk=>[(1,pB D),(18,.slice C bs.length z),(19,.int .i64 bs.length),(20,.int .i64 k)]) (λ_=>M) (λ_=>[(D,cE [.slice C bs.length z,.slice B a.length y] 25)]) (λk=>k<=bs.length/\∀b∈bs.take k,b.length=128) (λk=>bs.length-k) 0 ⟨Nat.zero_le _,λ_ h=>by cases h⟩ ?_;rintro k ⟨J,d⟩;try dsimp only at J d⊢
 refine gj (λS=>?_) λS=>?_
 ·refine gh ?_;have c:k<bs.length:=by omega
  obtain⟨sb,so,X,E⟩:=I.open (by intro e;have:=congrArg length e;rw[length_map,length_nil]at this;have T:=congrArg length u;rw[length_map]at T;omega);subst X;obtain⟨Z,Y,l,G,F⟩:=CX E u L c;refine gh ?_;refine lq (Au rfl rfl rfl rfl (l.cj _)) ?_;refine gj (λR=>?_) λR=>?_
  ·refine gr ?_;exact congrArg _ (Eq.symm (if_neg (λ⟨o,n,m,f⟩=>by have:=m bs[k] (getElem_mem _);omega)))
  refine gh ?_;refine BD (k+1) ⟨by omega,U5 c d (by omega)⟩
 refine gh ?_;obtain rfl:k=bs.length:=by omega
 rw[take_length]at d;have hB:=d;clear d;refine CC (α:=Nat) (λk=>[(1,pB D),(29,.slice B a.length y),(30,.int .i64 a.length),(31,.int .i64 k)]) (λ_=>M) (λ_=>[(D,cE [.slice C bs.length z,.slice B a.length y] 25)]) (λk=>k<=a.length/\∀w∈a.take k,0<=w.1/\w.1<256/\w.2.length=128) (λk=>a.length-k) 0 ⟨Nat.zero_le _,λ_ h=>by cases h⟩ ?_;rintro k ⟨J,d⟩;try dsimp only at J d⊢
 refine gj (λQ=>?_) λQ=>?_
 ·refine gh ?_;have c:k<a.length:=by omega
  obtain⟨sb,so,X,E⟩:=H.open (by intro e;have:=congrArg length e;rw[Aj AZ 2 BX,length_nil]at this;have T:=congrArg length s;rw[length_map]at T;omega);subst X;obtain⟨Z,Y,l,G,F⟩:=JI E s K c;refine gh ?_;refine lq (A1 (cs:=wXy a[k] Z Y) rfl rfl rfl rfl rfl (λi v hv=>(l i v hv).cj _)) ?_;refine gA λb6=>?_;refine gj (λP=>?_) λP=>?_
  ·refine gr ?_;exact congrArg _ (Eq.symm (if_neg (λ⟨o,n,m,f⟩=>by have:=f a[k] (getElem_mem _);omega)))
  refine gj (λO=>?_) λO=>?_
  ·refine gr ?_;exact congrArg _ (Eq.symm (if_neg (λ⟨o,n,m,f⟩=>by have:=f a[k] (getElem_mem _);omega)))
  refine gj (λN=>?_) λN=>?_
  ·refine gr ?_;exact congrArg _ (Eq.symm (if_neg (λ⟨o,n,m,f⟩=>by have:=f a[k] (getElem_mem _);omega)))
  refine gh ?_;refine BD (k+1) ⟨by omega,U5 c d ⟨by omega,by omega,by omega⟩⟩
 refine gr ?_;obtain rfl:k=a.length:=by omega
 rw[take_length]at d;exact congrArg _ (Eq.symm (if_pos ⟨by omega,by omega,hB,d⟩))
theorem Pb(bs:List (List By))(a:List Wt)(u v:Value)(M:Mem)(m:LS M u bs)(l:WS M v a):SpecL prog 82 #[.agg #[u,v]] M [] λv _ _=>v=.int .i64 (Tx bs a):=by
 obtain⟨w,o,c,rfl,i,e,g,k⟩:=m;obtain⟨s,n,b,rfl,h,d,f,j⟩:=l;grind[Xs]
def HA(xs:List By):Prop:=xs.length=256/\Db (xs.take 8)=true
instance(xs:List By):Decidable (HA xs):=by unfold HA;exact inferInstance
def KA(xs:List By):Int:=if HA xs then 0 else 8
theorem XD(xs:List By)(a:Option Addr)(c:Nat)(M:Mem)(i:xs.length<=c)(hs:SM M a (Aa xs)):
  SpecL prog 83 #[.slice a xs.length c] M [] λv _ _=>v=.int .i64 (KA xs):=by
 refine sB func83 ntmps83 ?_;intro W;refine gj (λg=>?_) λg=>?_
 ·refine gr ?_;exact congrArg _ (Eq.symm (if_neg (λ⟨f,e⟩=>by omega)))
 refine gh ?_;have d:(xs.take 8).length=8:=by grind
 refine lq (Bh (CL rfl rfl rfl (.no _) (.of (v:=8) rfl (by omega) rfl) (.no _) (by omega) (by simp)) (v':=.slice a (xs.take 8).length c) (by rw[d,AU];rfl)) ?_;refine gQ (Wu a c (xs.take 8) M (by have:=hs.part (l:=0) (m:=c) (s:=1) (by omega) 8;rw[AU]at this;simpa [Aa,List.map_take]using this) (by omega) (by omega)) ?_;refine gj (λb=>?_) λb=>?_
 ·refine gr ?_;exact congrArg _ (Eq.symm (if_neg (λ⟨f,e⟩=>by have:=Px (xs:=xs.take 8) (by omega);rw[e,decide_eq_true b]at this;cases this)))
 refine gr ?_;exact congrArg _ (Eq.symm (if_pos ⟨by omega,by have:=Px (xs:=xs.take 8) (by omega);rw[decide_eq_false b]at this;cases h:Db (xs.take 8)<;>simp_all⟩))
theorem Jz(xs:List By)(v:Value)(M:Mem)(h:BS M v xs):SpecL prog 83 #[v] M [] λv _ _=>v=.int .i64 (KA xs):=by
 obtain⟨a,c,rfl,d,b⟩:=h;grind[XD]
structure ST(M:Mem)(v:Value)(s:Sto):Prop where
 ex:∃b w n l,v=.agg #[b,w,n,l]/\LS M b s.blocks/\WS M w s.waits/\BS M n s.now/\BS M l s.last
variable{s:Sto}
theorem ST.mono{v:Value}(h:ST M v s)(a:MLe M M'):ST M' v s:=by
 obtain⟨b,w,n,l,g,f,e,d,c⟩:=h.ex;exact⟨b,w,n,l,g,f.mono a,e.mono a,d.mono a,c.mono a⟩
def Av(s:Sto):Prop:=Jv s.blocks s.waits/\HA s.now/\HA s.last
instance(s:Sto):Decidable (Av s):=by unfold Av;exact inferInstance
def DJ(s:Sto):Int:=if Av s then 0 else 8
variable{bs:List (List By)}
theorem UH(h:Tx bs ws≠0):¬Jv bs ws:=λk=>h (if_pos k)
variable{xs:List By}
theorem wQs(h:KA xs≠0):¬HA xs:=λk=>h (if_pos k)
theorem dk_is(h:¬Tx bs ws≠0):Jv bs ws:=Classical.byContradiction λk=>h (by unfold Tx;rw[if_neg k];decide)
theorem wXn(h:¬KA xs≠0):HA xs:=Classical.byContradiction λk=>h (by unfold KA;rw[if_neg k];decide)
theorem VV(s:Sto)(b w n l:Value)(M:Mem)(h:LS M b s.blocks)(g:WS M w s.waits)(f:BS M n s.now)(e:BS M l s.last):
  SpecL prog 41 #[.agg #[b,w,n,l]] M [] λv _ _=>v=.int .i64 (DJ s):=by
 refine sB func41 ntmps41 ?_;intro W;refine ga λi=>?_;refine gQ (Pb s.blocks s.waits b w M h g) ?_;refine gj (λd=>?_) λd=>?_
 ·refine gr ?_;exact congrArg _ (Eq.symm (if_neg (λq=>UH d q.1)))
 refine gQ (Jz s.now n M f) ?_;refine gj (λc=>?_) λc=>?_
 ·refine gr ?_;exact congrArg _ (Eq.symm (if_neg (λq=>wQs c q.2.1)))
 refine gQ (Jz s.last l M e) ?_;refine gj (λa=>?_) λa=>?_
 ·refine gr ?_;exact congrArg _ (Eq.symm (if_neg (λq=>wQs a q.2.2)))
 refine gr ?_;exact congrArg _ (Eq.symm (if_pos ⟨dk_is d,wXn c,wXn a⟩))
theorem CK(s:Sto)(v:Value)(M:Mem)(h:ST M v s):SpecL prog 41 #[v] M [] λv _ _=>v=.int .i64 (DJ s):=by
 obtain⟨b,w,n,l,rfl,e,d,c,a⟩:=h.ex;grind[VV]
theorem bww(a:Option Addr)(n c:Nat)(M:Mem):
  SpecL prog 150 #[.slice a n c] M [] λu M' f=>∃b,u=.func (.func 231) #[] #[pB b]/\M' b=some (.cells #[.slice a n c] 23 (0,0))/\f=[]:=by
 refine sB func150 ntmps150 ?_;intro W;refine gh ?_;refine lh (Bt (cs:=[.slice a n c]) rfl rfl rfl rfl) ?_;rintro _ _ _ ⟨e,rfl,rfl,rfl⟩;refine gh ?_;refine AF e (by simp) ?_;intro h d g;refine gr ?_;grind
theorem wRg(b:Nat)(a:Option Addr)(c:Nat)(xs:List (Wt×Value))(M:Mem)(G:M b=some (.cells #[.slice a xs.length c] 23 (0,0)))(hs:SM M a (xs.flatMap AZ))(Q:xs.length<=1000000)(l:Nat)(J C:List ((Wt×Value)×Nat)->Mem->Lc->Prop)(g:Mem)(w:Lc)(z:MLe M g)(H:∀pre y M2 L2,MLe g M2->J pre M2 L2->pre++[y]<+:bw xs 0->Em prog l ((λp:(Wt×Value)×Nat=>[.int .i64 p.2,.agg (AZ p.1).toArray]) y).toArray M2 L2 λv M' L'=>(v=.bool true/\J (pre++[y]) M' L')\/(v=.bool false/\C (pre++[y]) M' L'))(I:J [] g w):
  SpecL prog 231 #[.func (.yield l) #[] #[],pB b] g w λ_ M' L'=>J (bw xs 0) M' L'\/∃pre,pre<+:bw xs 0/\C pre M' L':=by
 have m:∀{M2:Mem}(L:Lc),MLe g M2->CJ M2 L b 0 (.slice a xs.length c):=λL h=>(CM.cj ⟨_,_,_,h _ _ (z _ _ G),rfl⟩ L);refine sB func231 ntmps231 ?_;intro W;refine gh ?_;refine lq (Au rfl rfl rfl rfl (m _ (MLe.refl _))) ?_;refine gh ?_;refine CC (α:=Int×Mem×Lc) (λx=>[(0,.func (.yield l) #[] #[]),(1,pB b),(3,.int .i64 x.1)]) (λx=>x.2.1) (λx=>x.2.2) (λx=> -1<=x.1/\x.1<xs.length/\MLe g x.2.1/\J (bw xs (x.1+1).toNat) x.2.1 x.2.2) (λx=>(x.1+1).toNat) ((xs.length:Int)-1,g,w) ⟨by show -1<=(xs.length:Int)-1;omega,by show (xs.length:Int)-1<xs.length;omega,MLe.refl _,by show J (bw xs ((xs.length:Int)-1+1).toNat) _ _;rw[show ((xs.length:Int)-1+1).toNat=xs.length by omega,RO];exact I⟩ ?_;rintro⟨i,N,O⟩ ⟨o,F,d,n⟩;try dsimp only at o F d n⊢
 refine gj (λs=>?_) λs=>?_
 ·refine gh ?_;obtain⟨k,rfl⟩:∃k:Nat,i=k:=⟨i.toNat,by omega⟩;have f:k<xs.length:=by omega
  obtain⟨sb,P,K,D⟩:=hs.open (by intro e;have:=congrArg length e;rw[Aj AZ 2 BX,length_nil]at this;omega);subst K;refine lq (Au rfl rfl rfl rfl (m _ d)) ?_;refine gh ?_;refine lq (A1 (cs:=AZ xs[k]) rfl rfl rfl rfl rfl (λi v E=>((Bs AZ 2 BX D (show xs[k]? =some xs[k]by simp[f]) i v E).mono (z.trans d)).cj _)) ?_;refine lh (K4 rfl rfl rfl rfl (H (bw xs (k+1)) (xs[k],k) N O d (by rwa[show ((k:Int)+1).toNat=k+1 by omega]at n) (by rw[<-EP xs f];exact C3 xs k))) ?_;rintro _ M' _ ⟨u,B,rfl,j⟩;rw[<-EP xs f]at j;rcases j with⟨rfl,j⟩|⟨rfl,j⟩
  ·refine gh ?_;refine BD ((k:Int)-1,M',B) ⟨by show -1<=(k:Int)-1;omega,by show (k:Int)-1<xs.length;omega,d.trans u,by show J (bw xs ((k:Int)-1+1).toNat) _ _;rw[show ((k:Int)-1+1).toNat=k by omega];exact j⟩
  refine gh ?_;refine AB (L':=B) (by simp) ?_;refine Pi (rs:=[]) rfl .nil ?_;grind[C3]
 refine gh ?_;refine YU ?_;refine Pi (rs:=[]) rfl .nil ?_;grind
theorem RM(b:Nat)(a:Option Addr)(c:Nat)(xs:List (Wt×Value))(M:Mem)(e:M b=some (.cells #[.slice a xs.length c] 23 (0,0)))(hs:SM M a (xs.flatMap AZ))(d:xs.length<=1000000):Iter prog 231 [pB b] M (λp:(Wt×Value)×Nat=>[.int .i64 p.2,.agg (AZ p.1).toArray]) (bw xs 0):=
 λl J k i j f g h=>wRg b a c xs M e hs d l J k i j f g h
theorem TD(a:Option Addr)(n c:Nat)(M:Mem)(h:n<=c)(b:n<=1000000):
  SpecL prog 84 #[.slice a n c] M [] λv _ _=>v=.slice a n n:=by
 refine sB func84 ntmps84 ?_;intro W;refine gh ?_;refine lq (Bh (CL rfl rfl rfl (.of (v:=n) rfl (by omega) (by omega)) (.of (v:=n) rfl (by omega) (by omega)) (.no _) (by omega) (by simp)) (v':=.slice a n n) (by rw[AU];rfl)) ?_;refine gr ?_;rfl
abbrev Ew:TypeId:=156
structure BN(M:Mem)(v:Value)(s:Sto):Prop where
 ex:∃p bv wv nv lv,v=pB p/\M p=some (cE [bv,wv,nv,lv] Ew)/\LS M bv s.blocks/\WS M wv s.waits/\BS M nv s.now/\BS M lv s.last
variable{M M':Mem}{s:Sto}
theorem BN.mono{v:Value}(h:BN M v s)(a:MLe M M'):BN M' v s:=by
 obtain⟨p,b,w,n,l,g,i,f,e,d,c⟩:=h.ex;exact⟨p,b,w,n,l,g,a _ _ i,f.mono a,e.mono a,d.mono a,c.mono a⟩
theorem Nf(s:Sto)(j g lv:Value)(c:Option Addr)(f:Nat)(M:Mem)(l:s.waits.length<=f)(h:s.waits.length<=1000000)(m:BS M g s.now)(i:s.now.length<=100000):
  SpecL prog 42 #[.agg #[j,.slice c s.waits.length f,g,lv]] M [] λu M' L'=>∃b R e d,u=pB b/\L'=(b,cE [j,.slice c s.waits.length s.waits.length,.slice e s.now.length d,lv] Ew)::R/\Own (.slice e s.now.length d) R 5 1 s.now.length (Aa s.now):=by
 refine sB func42 ntmps42 ?_;intro W;refine ga λy=>?_;refine gC (B6 g s.now M m i) ?_;rintro _ w o n a;obtain⟨e,d,rfl⟩:=a.form;refine gq (TD c s.waits.length f w l h) ?_;refine ga λk=>?_;refine AB (L':=(k,cE [j,.slice c s.waits.length s.waits.length,.slice e s.now.length d,lv] Ew)::o) (by simp) ?_;refine FX rfl rfl ?_;grind
theorem on_ro(s:Sto)(n f lv:Value)(e:Option Addr)(d:Nat)(M:Mem)(o:s.waits.length<=d)(i:s.waits.length<=1000000)(w:BS M f s.now)(k:s.now.length<=100000):
  SpecL prog 42 #[.agg #[n,.slice e s.waits.length d,f,lv]] M [] λu M' L'=>(∃b h g,u=pB b/\M' b=some (cE [n,.slice e s.waits.length s.waits.length,.slice h s.now.length g,lv] Ew)/\BS M' (.slice h s.now.length g) s.now)/\L'=[]:=by
 refine sB func42 ntmps42 ?_;intro W;refine ga λF=>?_;refine gC (B6 f s.now M w k) ?_;rintro _ D H z a;obtain⟨h,g,rfl⟩:=a.form;refine gq (TD e s.waits.length d D o i) ?_;refine ga λc=>?_;refine BK a (by simp) ?_;intro J G E y C l j;cases C;refine AF c (by simp) ?_;intro I m B;refine AB (L':=[]) (by simp) ?_;refine gr ?_;exact⟨⟨c,_,_,rfl,B,⟨_,_,rfl,l,j.mono m⟩⟩,rfl⟩
theorem LJ(s:Sto)(v:Value)(M:Mem)(h:ST M v s)(e:s.waits.length<=1000000)(j:s.now.length<=100000):
  SpecL prog 42 #[v] M [] λu M' y=>(∀c,MLe M' c->MLe M c->BN c u s)/\y=[]:=by
 obtain⟨b,w,n,l,rfl,F,⟨m,z,ps,rfl,f,d,i,C⟩,E,D⟩:=h.ex;refine(on_ro s b n l m z M f e E j).mono λu M' y B=>?_;obtain⟨⟨p,H,G,rfl,g,k⟩,rfl⟩:=B;exact⟨λc o a=>⟨p,b,_,_,l,rfl,o _ _ g,F.mono a,⟨m,_,ps,rfl,Nat.le_refl _,d.mono a,i,λp i=>(C p i).mono a⟩,k.mono o,D.mono a⟩,rfl⟩
def seen(s:Sto)(k:Nat):List By:=match s.waits.reverse.find? (λw=>w.1==(k:Int))with
 |some w=>w.2
 |none=>s.blocks.getD k []
def Ak(s:Sto)(k:Nat):Option (Int×List It):=if s.now.getD k 0=0 then none else Dk (seen s k)
def BnPost(s:Sto)(k:Nat)(u:Value)(M':Mem):Prop:=match Ak s k with
 |some (lv,xs)=>∃sl,u=.tuple #[.agg #[.int .i64 lv,sl],.int .i64 0]/\NS M' sl xs
 |none=>u=.tuple #[.agg zeroNd.toArray,.int .i64 8]
variable{blk:List By}{u:Value}
theorem NdPost.form(h:NdPost blk u M'):∃lv a n c e,u=.tuple #[.agg #[.int .i64 lv,.slice a n c],.int .i64 e]/\((e≠0/\Dk blk=none)\/(e=0/\∃xs,Dk blk=some (lv,xs)/\NS M' (.slice a n c) xs)):=by
 unfold NdPost at h;split at h
 ·rename_i lv xs d;obtain⟨sl,rfl,b⟩:=h;obtain⟨a,c,ps,rfl,k,j,i,g⟩:=id b;grind
 rename_i d;obtain⟨e,f,rfl⟩:=h;exact⟨0,none,0,0,e,rfl,.inl ⟨f,d⟩⟩
variable{k:Nat}{α:Type}{xs:List α}
theorem Ej(h:k<xs.length)(d:α):xs.getD k d=xs[k]:=by grind
variable{ps:List (Wt×Value)}
theorem MZ(b:ps.map (·.1)=s.waits)(h:∀p∈bw ps 0,p.1.1.1≠(k:Int)):seen s k=s.blocks.getD k []:=by
 unfold seen;have:s.waits.reverse.find? (λw=>w.1==(k:Int))=none:=by
  rw[List.find?_eq_none];intro w a;rw[<-b,<-List.map_reverse,<-JB,map_map]at a;grind
 grind
variable{pre:List ((Wt×Value)×Nat)}{y:(Wt×Value)×Nat}
theorem MY(d:ps.map (·.1)=s.waits)(a:pre++[y]<+:bw ps 0)(h:∀p∈pre,p.1.1.1≠(k:Int))(b:y.1.1.1=(k:Int)):seen s k=y.1.1.2:=by
 unfold seen;obtain⟨r,c⟩:=a;have:s.waits.reverse.find? (λw=>w.1==(k:Int))=some y.1.1:=by
  rw[<-d,<-List.map_reverse,<-JB,map_map,<-c,map_append,map_append,List.append_assoc,List.find?_append,List.find?_eq_none.2]
  ·simp [b]
  grind
 grind
theorem LC(h:Av s)(hk:k<256):(seen s k).length=128:=by
 obtain⟨⟨d,c,b,a⟩,_⟩:=h;grind[seen,Ej]
theorem RN{y:α×Nat}(h:y∈bw xs 0):y.1∈xs:=by
 grind[bw,JB]
theorem ZV(s:Sto)(k:Nat)(hk:k<256)(H:Av s)(p:Nat)(bv Z lv:Value)(Y:Option Addr)(X:Nat)(ps:List (Wt×Value))(M:Mem)(ae:M p=some (cE [bv,.slice Y s.waits.length X,Z,lv] Ew))(h1:LS M bv s.blocks)(av:s.waits.length<=X)(ab:SM M Y (ps.flatMap AZ))(hp:ps.map (·.1)=s.waits)(hb:∀q∈ps,BS M q.2 q.1.2)(h3:BS M Z s.now):
  SpecL prog 85 #[pB p,.int .i64 k] M [] λu M' L'=>BnPost s k u (Cn M M')/\L'=[]:=by
 have I:∀{M2:Mem}(L:Lc)(i:Nat)(v:Value),MLe M M2->[bv,.slice Y s.waits.length X,Z,lv][i]? =some v->CJ M2 L p i v:=λL i v h hv=>(CM.cj ⟨_,_,_,h _ _ ae,by simpa using hv⟩ L);obtain⟨⟨az,ay,ax,aw⟩,⟨a1,_⟩,_⟩:=id H;obtain⟨na,nc,rfl,a0,b⟩:=h3;obtain⟨nb,no,e0,ag⟩:=b.open (by intro e;have:=congrArg length e;rw[Ad,length_nil]at this;omega);subst e0;obtain⟨ba,bc,ap,rfl,a2,aj,T,ak⟩:=h1;obtain⟨bb,bo,e0,ai⟩:=aj.open (by intro e;have:=congrArg length e;rw[length_map,length_nil]at this;have h2:=congrArg length T;rw[length_map]at h2;omega);subst e0;obtain⟨N,K,ah,ad,ac⟩:=CX ai T ak (k:=k) (by omega);refine sB func85 ntmps85 ?_;intro W;refine gh ?_;refine lh (Bt (cs:=[.int .i64 k]) rfl rfl rfl rfl) ?_;rintro _ _ _ ⟨b3,rfl,rfl,rfl⟩;refine ga λb4=>?_;refine QQ [0,1,2,3,4,5,6,7,8] ?_;refine gh ?_;refine dq rfl (Au rfl rfl rfl rfl (I _ 2 _ (by first|exact MLe.refl _|assumption) rfl)) ?_;refine gh ?_;refine dq rfl (Au rfl rfl rfl rfl ((ag _ _ (by rw[Nat.mul_one];exact Ca (j:=k) (by omega))).cj _)) ?_;refine gj (λw=>?_) λw=>?_
 ·refine gr ?_;refine⟨?_,rfl⟩;unfold BnPost Ak;rw[if_pos (UInt8.toNat.inj (by simpa using w))];rfl
 refine gh ?_;refine QQ [0,1,2,3,4,5,6,7,8,109,110] ?_;refine gh ?_;refine dq rfl (Au rfl rfl rfl rfl (I _ 0 _ (by first|exact MLe.refl _|assumption) rfl)) ?_;refine gh ?_;refine dq rfl (Au rfl rfl rfl rfl (ah.cj _)) ?_;refine GP rfl rfl rfl (AX rfl rfl) ?_;rintro _ _ _ ⟨V,rfl,rfl,rfl⟩;refine Cv (MLe.refl _) (λ_ h=>List.mem_cons_of_mem _ h) (by first|exact MLe.refl _|assumption) (by simp) ?_;refine DF rfl rfl (Ao rfl rfl rfl rfl rfl rfl rfl rfl) ?_;rintro _ _ _ ⟨rfl,rfl⟩;refine Cv (MLe.refl _) (λ_ h=>List.mem_cons_of_mem _ h) (by first|exact MLe.refl _|assumption) (by simp) ?_;refine gh ?_;refine lq (Au rfl rfl rfl rfl (I _ 1 _ (by first|exact MLe.refl _|assumption) rfl)) ?_;refine gC (bww _ _ _ M) ?_;rintro _ M1 _ n ⟨am,rfl,D,rfl⟩;have af:ps.length=s.waits.length:=by grind
 rw[<-af]at D;refine gh ?_;refine BL b3 (by simp) ?_;intro ao F e3;replace D:=F _ _ D;replace n:=n.trans F;refine Ef (R:=[(V,cE [.slice N s.blocks[k].length K] 26)]) (xs:=bw ps 0) (enc:=(λp:(Wt×Value)×Nat=>[.int .i64 p.2,.agg (AZ p.1).toArray])) (ps:=[37,38]) rfl (by kernel_rfl) (RM am Y X ps ao D (ab.mono n) (by omega))
  (λpre _ R=>R=[(V,cE [.slice N s.blocks[k].length K] 26)]/\∀q∈pre,q.1.1.1≠(k:Int))
  (λc _ M' R=>c=.exit 0/\∃v,R=[(V,cE [v] 26)]/\BS M' v (seen s k))
  (λ_=>rfl) (by decide) ⟨rfl,λ_ h=>by cases h⟩ ?_ ?_ ?_
 ·intro l W2 pre y M2 R2 m C B;obtain⟨rfl,C⟩:=C;have aa:y.1∈ps:=RN (B.subset (by simp));obtain⟨⟨yw,yv⟩,yi⟩:=y;have P:=hb _ aa;obtain⟨ya,yc,O,au,aq⟩:=id P;change yv=Value.slice ya yw.2.length yc at O;subst O;refine ga λb8=>?_;refine jK λW'=>?_;refine gh ?_;refine lq (Au rfl rfl rfl rfl (CM.cj ⟨_,_,_,m _ _ e3,rfl⟩ _)) ?_;refine gj (λU=>?_) λU=>?_
  ·refine gh ?_;refine wXe rfl ?_;refine AB (L':=[(V,cE [.slice ya yw.2.length yc] 26)]) (by simp) ?_;refine jQx ?_;refine⟨rfl,_,rfl,?_⟩;rw[MY hp B C U];exact P.mono (n.trans m)
  refine gh ?_;refine AB (L':=[(V,cE [.slice N s.blocks[k].length K] 26)]) (by simp) ?_;refine wJi ?_;grind
 ·intro d M2 R2 m C;obtain⟨rfl,C⟩:=C;have Q:=MZ hp C;rw[Ej (by omega)]at Q;obtain⟨J,E⟩:∃J,J=Value.slice N s.blocks[k].length K:=⟨_,rfl⟩;have G:BS M2 J (seen s k):=by rw[Q,E];exact⟨N,K,rfl,ad,ac.mono (n.trans m)⟩
  rw[<-E];refine gc (Nh J (seen s k) M2 G (by rw[LC H hk];omega)) ?_;rintro _ M3 al g;replace g:=g.mono (FJ (n.trans m):MLe _ (Cn M M3));obtain⟨nl,la,ln,lc,e,rfl,a⟩:=NdPost.form g;refine gA λb9=>?_;refine gj (λo=>?_) λo=>?_
  ·refine gh ?_;refine Bu (L2:=_) Rm.perm ?_;refine gr ?_;refine⟨?_,rfl⟩;have f:¬s.now.getD k 0=0:=λe=>w (by rw[e];rfl);unfold BnPost Ak;rw[if_neg f];rcases a with⟨S,z⟩|⟨rfl,xs,z,b⟩
   ·rw [z];first|rfl|exact absurd S o
   omega
  refine gh ?_;refine Bu (L2:=_) Rm.perm ?_;refine gr ?_;refine⟨?_,rfl⟩;have f:¬s.now.getD k 0=0:=λe=>w (by rw[e];rfl);unfold BnPost Ak;rw[if_neg f];rcases a with⟨S,z⟩|⟨rfl,xs,z,b⟩
  ·omega
  rw[z];first|exact⟨_,rfl,b⟩|exact absurd rfl o
 intro d c pre M2 R2 m B C;obtain⟨rfl,J,rfl,G⟩:=C;refine gc (Nh J (seen s k) M2 G (by rw[LC H hk];omega)) ?_;rintro _ M3 al g;replace g:=g.mono (FJ (n.trans m):MLe _ (Cn M M3));obtain⟨nl,la,ln,lc,e,rfl,a⟩:=NdPost.form g;refine gA λb9=>?_;refine gj (λo=>?_) λo=>?_
 ·refine gh ?_;refine Bu (L2:=_) Rm.perm ?_;refine gr ?_;refine⟨?_,rfl⟩;have f:¬s.now.getD k 0=0:=λe=>w (by rw[e];rfl);unfold BnPost Ak;rw[if_neg f];rcases a with⟨S,z⟩|⟨rfl,xs,z,b⟩
  ·rw [z];first|rfl|exact absurd S o
  omega
 refine gh ?_;refine Bu (L2:=_) Rm.perm ?_;refine gr ?_;refine⟨?_,rfl⟩;have f:¬s.now.getD k 0=0:=λe=>w (by rw[e];rfl);unfold BnPost Ak;rw[if_neg f];rcases a with⟨S,z⟩|⟨rfl,xs,z,b⟩
 ·omega
 rw[z];first|exact⟨_,rfl,b⟩|exact absurd rfl o
theorem BnPost.mono(h:BnPost s k u M)(a:MLe M M'):BnPost s k u M':=by
 unfold BnPost at *;split at h
 ·obtain ⟨s,e,b⟩:=h;exact⟨s,e,b.mono a⟩
 omega
theorem TF(s:Sto)(k:Nat)(v:Value)(M:Mem)(d:Av s)(hk:k<256)(h:BN M v s):SpecL prog 85 #[v,.int .i64 k] M [] λu M' f=>BnPost s k u (Cn M M')/\f=[]:=by
 obtain⟨p,b,w,n,l,rfl,e,z,⟨i,g,ps,rfl,c,a,j,m⟩,y,o⟩:=h.ex;grind[ZV]
theorem EI(s:Sto)(k:Nat)(v:Value)(M:Mem)(a:Av s)(hk:k<256)(h:BN M v s):SpecL prog 85 #[v,.int .i64 k] M [] λu M' d=>BnPost s k u M'/\d=[]:=
 (TF s k v M a hk h).mono λ_ _ _ ⟨c,b⟩=>⟨c.mono (EZ _ _),b⟩
structure Sp where
 first:Ky
 last:Ky
 is:Bool
abbrev NQ(p:Sp):List Value:=[.int .u8 p.first.kind,.int .u32 p.first.id,.int .u32 p.first.off,.int .u8 p.last.kind,.int .u32 p.last.id,.int .u32 p.last.off,.bool p.is]
def Cu:Sp:=⟨⟨0,0,0⟩,⟨0,0,0⟩,false⟩
def Aq(one:Sp)(o:Option Sp)(x:It):Bool:=one.is&&decide (one.first=x.key)&&(match o with|none=>true|some p=>Ap p.last one.first)
def Bk(one:Sp)(o:Option Sp):Sp:=⟨(match o with|none=>one.first|some p=>p.first),one.last,true⟩
def A6(f:It->Sp):Option Sp->List It->Sp
 |o,[]=>o.getD Cu
 |o,x::xs=>if Aq (f x) o x then A6 f (some (Bk (f x) o)) xs else Cu
def AR(s:Sto):Nat->It->Sp
 |0,x=>⟨x.key,x.key,decide (x.ref=0)||decide (0<((s.now.getD x.ref.toNat 0).toNat:Int))⟩
 |l+1,x=>match Ak s x.ref.toNat with
  |some (lv,ys)=>if lv=(l:Int)/\ys≠[]then A6 (AR s l) none ys else Cu
  |none=>Cu
variable{f:It->Sp}{k:Nat}{o:Option Sp}{xs:List It}
theorem DG(hk:k<xs.length)(a:A6 f none xs=A6 f o (xs.drop k))(h:Aq (f xs[k]) o xs[k]=false):A6 f none xs=Cu:=by
 rw[a,List.drop_eq_getElem_cons hk,A6,if_neg (by rw[h];decide)]
theorem HH(hk:k<xs.length)(a:A6 f none xs=A6 f o (xs.drop k))(h:Aq (f xs[k]) o xs[k]=true):A6 f none xs=A6 f (some (Bk (f xs[k]) o)) (xs.drop (k+1)):=by
 rw[a,List.drop_eq_getElem_cons hk,A6,if_pos h]
theorem Ze(hk:k=xs.length)(a:A6 f none xs=A6 f o (xs.drop k)):A6 f none xs=o.getD Cu:=by
 grind[A6]
variable{l:Nat}{s:Sto}
theorem MX{x:It}(h:Ak s x.ref.toNat=none):Aq (AR s (l+1) x) o x=false:=by simp_all [AR,Aq,Cu]
variable{lv:Int}{ys:List It}
theorem MW{x:It}(h:Ak s x.ref.toNat=some (lv,ys))(a:¬(lv=(l:Int)/\ys≠[])):Aq (AR s (l+1) x) o x=false:=by
 simp only[AR,h];rw[if_neg a];simp[Aq,Cu]
theorem B5:∀{ab:Bool}{p:Option Ky}{xs:List It},BQ ab p xs=true->∀x∈xs,BB x=false/\(ab=true->x.ref≠0/\x.val=[])
 |_,_,[],_,x,a=>by grind
 |ab,p,y::ys,h,x,a=>by
  simp only[BQ,Bool.and_eq_true,Bool.not_eq_true',Bool.or_eq_true]at h;rcases List.mem_cons.1 a with rfl|a
  ·grind
  exact B5 h.2 x a
structure NdOk(lv:Int)(xs:List It):Prop where
 lev:0<=lv/\lv<6
 len:xs.length<=5
 ref:∀x∈xs,x.ref=0\/8<=x.ref/\x.ref<256
 up:0<lv->∀x∈xs,x.ref≠0
 ok:BQ (decide (0<lv)) none xs=true
theorem NdOk.of(h:CD lv xs=true):NdOk lv xs:=by
 unfold CD at h;rw[Bool.and_eq_true,decide_eq_true_eq]at h;refine⟨⟨h.1.1,h.1.2.1⟩,h.1.2.2.1,λx a=>?_,λb x a=>((B5 h.2 x a).2 (by simpa using b)).1,h.2⟩;have:=(B5 h.2 x a).1;grind[BB]
variable{blk:List By}
theorem wEk(h:Dk blk=some (lv,xs)):NdOk lv xs:=by
 grind[Dk,NdOk.of,C0,CD]
theorem Ar(h:Ak s k=some (lv,xs)):NdOk lv xs:=by
 grind[Ak,wEk]
def A3(s:Sto)(l:Nat)(xs:List It):Prop:=xs≠[]->(A6 (AR s l) none xs).is=true
instance(s:Sto)(l:Nat)(xs:List It):Decidable (A3 s l xs):=by unfold A3;exact inferInstance
theorem GS:∀{xs:List It}{o:Option Sp},(A6 f o xs).is=true->∀x∈xs,(f x).is=true/\(f x).first=x.key
 |[],_,_,x,a=>by grind
 |y::ys,o,h,x,a=>by
  rw[A6]at h;split at h
  ·rename_i b;rcases List.mem_cons.1 a with rfl|a
   ·simp_all [Aq]
   exact GS h x a
  cases h
theorem T4{x:It}(h:(AR s (l+1) x).is=true):∃ys,Ak s x.ref.toNat=some ((l:Int),ys)/\ys≠[]/\AR s (l+1) x=A6 (AR s l) none ys:=by
 simp only[AR]at h⊢;split at h
 ·rename_i lv ys a;split at h
  ·grind
  cases h
 cases h
theorem BJ(h:A3 s (l+1) xs){x:It}(a:x∈xs):∃ys,Ak s x.ref.toNat=some ((l:Int),ys)/\ys≠[]/\A3 s l ys:=by
 have b:=(GS (h (List.ne_nil_of_mem a)) x a).1;obtain⟨ys,e,d,c⟩:=T4 b;exact⟨ys,e,d,λ_=>by rw[<-c];exact b⟩
def kid(s:Sto)(x:It):List It:=match Ak s x.ref.toNat with|some (_,ys)=>ys|none=>[]
variable{M':Mem}{u:Value}
theorem BnPost.form(h:BnPost s k u M'):∃lv a n c e,u=.tuple #[.agg #[.int .i64 lv,.slice a n c],.int .i64 e]/\((e=8/\Ak s k=none)\/(e=0/\∃xs,Ak s k=some (lv,xs)/\n=xs.length/\NS M' (.slice a xs.length c) xs)):=by
 unfold BnPost at h;split at h
 ·rename_i lv xs d;obtain⟨sl,rfl,b⟩:=h;obtain⟨a,c,ps,rfl,j,i,g,f⟩:=id b;grind
 rename_i d;exact⟨0,none,0,0,8,h,.inl ⟨rfl,d⟩⟩
end Go.Proofs.YtjheijhahehnmaaGreatDoor
