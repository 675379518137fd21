/- Lemmas. -/
import Derived.Test.YtjheijhahehnmaaGreatDoorXTab
namespace Go.Proofs.YtjheijhahehnmaaGreatDoor
open Go.Proofs.Tryz
open List (drop_eq_nil_of_le map_map length length_nil range replicate map_drop length_map length_drop)
set_option linter.unusedSimpArgs false
set_option linter.unusedVariables false
set_option linter.unusedSectionVars false
set_option maxHeartbeats 40000000
set_option maxRecDepth 8000
open Go.RowKit
structure Ky where
 kind:Int
 id:Int
 off:Int
 deriving DecidableEq,Repr
def Az(k:Ky):List Value:=[iB k.kind,iU k.id,iU k.off]
def KM(a b:Int):Int:=if a<b then -1 else if b<a then 1 else 0
def Ap(a b:Ky):Bool:=decide (a.kind<b.kind\/a.kind=b.kind/\(a.id<b.id\/a.id=b.id/\a.off<b.off))
def wWe:List Int->Int
 |[]=>0
 |x::xs=>if x≠0 then x else wWe xs
theorem wKj(a b:Ky):decide (wWe [KM a.kind b.kind,KM a.id b.id,KM a.off b.off]<0)=Ap a b:=by
 grind[Ap,wWe,KM]
def Al(xs:List Int):List Value:=xs.map (Value.int .i64)
theorem wJs(a:Int)(M:Mem):
  Sg 238 #[iB a] M [] λv _ _=>v=.bool false:=by
 refine sB func238 ntmps238 ?_;intro W;refine gr ?_;simp
theorem wXq(a b:Int)(M:Mem):
  Sg 157 #[iB a,iB b] M [] λv _ _=>v=iL (KM a b):=by
 refine sB func157 ntmps157 ?_;intro W;refine gq (wJs _ M) ?_;refine gQ (wJs _ M) ?_;refine gj (λd=>?_) λd=>?_
 ·refine gr ?_;grind[KM]
 refine gj (λc=>?_) λc=>?_
 ·refine gr ?_;grind[KM]
 refine gr ?_;grind[KM]
theorem Zz(a:Int)(M:Mem):
  Sg 239 #[iU a] M [] λv _ _=>v=.bool false:=by
 refine sB func239 ntmps239 ?_;intro W;refine gr ?_;simp
theorem Z4(a b:Int)(M:Mem):
  Sg 158 #[iU a,iU b] M [] λv _ _=>v=iL (KM a b):=by
 refine sB func158 ntmps158 ?_;intro W;refine gq (Zz _ M) ?_;refine gQ (Zz _ M) ?_;refine gj (λd=>?_) λd=>?_
 ·refine gr ?_;grind[KM]
 refine gj (λc=>?_) λc=>?_
 ·refine gr ?_;grind[KM]
 refine gr ?_;grind[KM]
theorem wRh(b:Nat)(xs:List Int)(h:xs.length<=1000)(M:Mem):
  Sg 156 #[.slice (sA b 0) xs.length xs.length] M [(b,cE (Al xs) 3)] λv _ L'=>v=iL (wWe xs)/\L'=[]:=by
 refine sB func156 ntmps156 ?_;intro W;refine gh ?_;refine Cy (α:=Nat) (λk=>[(3,iL 0),(6,.slice (sA b 0) xs.length xs.length),(7,iL xs.length),(8,iL k)]) (λ_=>M) (λ_=>[(b,cE (Al xs) 3)]) (λk=>k<=xs.length/\wWe xs=wWe (xs.drop k)) (λk=>xs.length-k) 0 ⟨zL,rfl⟩ ?_;rintro k ⟨g,d⟩;try dsimp only at g d⊢
 refine gj (λe=>?_) λe=>?_
 ·refine gh ?_;have c:k<xs.length:=by omega
  have f:xs.drop k=xs[k]::xs.drop (k+1):=List.drop_eq_getElem_cons c;refine gh ?_;refine lq (Aw rfl rfl rfl rfl (CJ.loc (v:=iL xs[k]) (by simp[Al,c]))) ?_;refine gj (λa=>?_) λa=>?_
  ·refine gh ?_;refine AE (L':=[]) (by simp) ?_;refine gr ?_;exact⟨by rw[d,f];show _=Value.int _ (if _ then _ else _);rw[iP (by simpa using a)],rfl⟩
  refine gh ?_;refine BB (k+1) ⟨by omega,?_⟩;rw[d,f];show (if _ then _ else _)=_;rw[iN (by simpa using a)]
 refine gh ?_;refine AE (L':=[]) (by simp) ?_;refine gr ?_;exact⟨by rw[d,drop_eq_nil_of_le (by omega)];rfl,rfl⟩
theorem or3(b:Nat)(x y z:Int)(M:Mem):Sg 156 #[.slice (sA b 0) 3 3] M [(b,cE [iL x,iL y,iL z] 3)] λv _ a=>v=iL (wWe [x,y,z])/\a=[]:=wRh b [x,y,z] (by simp) M
theorem Ch(a b:Ky)(M:Mem):
  Sg 89 #[.agg (Az a).toArray,.agg (Az b).toArray] M [] λv _ _=>v=.bool (Ap a b):=by
 refine sB func89 ntmps89 ?_;intro W;refine JM λf e=>?_;refine Qp [0,1,2,3,4,5,6,7,8,9,10,11,12,13,14,115,116,17,18] ?_;refine gq (wXq _ _ M) ?_;refine gq (Z4 _ _ M) ?_;refine gq (Z4 _ _ M) ?_;refine Gu rfl rfl rfl (Ab (cs:=[_,_,_]) rfl rfl rfl (by rfl) (by rfl) (by rfl)) ?_;rintro _ _ _ ⟨d,rfl,rfl,rfl⟩;refine Cr (mR) (λ_ h=>List.mem_cons_of_mem _ h) (mR) (λ_ h=>h) ?_;refine Gu rfl rfl rfl (BU rfl rfl rfl rfl rfl (by kernel_rfl) (or3 d (KM a.kind b.kind) (KM a.id b.id) (KM a.off b.off) M)) ?_;rintro _ g _ ⟨c,_,rfl,⟨rfl,rfl⟩⟩;refine⟨_,_,mR,c,λ_ h=>h,λ_ h=>h,?_⟩;refine gr ?_;grind[wKj]
structure It where
 key:Ky
 ref:Int
 val:List By
 deriving DecidableEq,Repr
def IR(M:Mem)(cs:List Value)(x:It):Prop:=∃s,cs=[iB x.key.kind,iU x.key.id,iU x.key.off,iL x.ref,s]/\BS M s x.val
def Bv(x:It):Bool:=decide (x.ref≠0/\(x.ref<8\/256<=x.ref)\/12<x.val.length)
def Ca(x:It):Int:=if Bv x then 8 else 0
def AK(xs:List By):ByteArray:=⟨xs.toArray⟩
theorem Np(bs:ByteArray):∀(n i:Nat)(r:List UInt8),bs.size-i=n->ByteArray.toList.loop bs i r=r.reverse++bs.data.toList.drop i
 |0,i,r,h=>by
  unfold ByteArray.toList.loop;rw[iN (by omega),drop_eq_nil_of_le (by have:bs.data.toList.length=bs.size:=rfl;omega),List.append_nil]
 |n+1,i,r,h=>by
  unfold ByteArray.toList.loop;have a:i<bs.data.toList.length:=by have:bs.data.toList.length=bs.size:=rfl;omega
  rw[iP (by omega),Np bs n (i+1) _ (by omega),List.drop_eq_getElem_cons a,List.reverse_cons,List.append_assoc];congr 2;show [bs.data[i]!]++_=_;rw[getElem!_pos bs.data i (by simpa using a)];rfl
theorem Uy(xs:List By):(AK xs).toList=xs:=by
 unfold ByteArray.toList;rw[Np _ _ 0 [] rfl];rfl
theorem wQb(xs ys:List By):((AK xs).toList==(AK ys).toList)=decide (xs=ys):=by
 grind[Uy]
theorem HC(xs:List By):strOfNums (xs.map λb=>(b.toNat:Int))=AK xs:=by
 unfold strOfNums AK;congr 2;rw[map_map];conv=>rhs;rw[<-List.map_id xs]
 apply List.map_congr_left;simp_all
theorem Yx(u v:Value)(xs ys:List By)(M:Mem)(e:BS M u xs)(d:BS M v ys):
  Sg 235 #[u,v] M [] λr _ _=>r=.bool (decide (xs=ys)):=by
 obtain⟨i,g,rfl,-,c⟩:=e;obtain⟨h,f,rfl,-,a⟩:=d;refine sB func235 ntmps235 ?_;intro W;refine gh ?_;refine lq (Bo (wVr (xs:=xs.map λb=>(b.toNat:Int)) rfl rfl rfl (by simp) (by simpa [Aa,map_map,Function.comp_def]using c.sj _)) (v':=.string (AK xs)) (by rw[HC])) ?_;refine gh ?_;refine lq (Bo (wVr (xs:=ys.map λb=>(b.toNat:Int)) rfl rfl rfl (by simp) (by simpa [Aa,map_map,Function.comp_def]using a.sj _)) (v':=.string (AK ys)) (by rw[HC])) ?_;refine lq (Bo (qP rfl rfl) (v':=.bool (decide (xs=ys))) (cA _ (wQb xs ys))) ?_;refine gr ?_;rfl
theorem DZ(a b:Ky):decide ([a.kind,a.id,a.off]=[b.kind,b.id,b.off])=decide (a=b):=by
 apply decide_eq_decide.2;constructor
 ·intro h;cases a;cases b;simp at h;simp[h]
 grind
theorem Own.ofBuf(b:Nat):Own (.slice (sA b 0) 0 0) [(b,cE ([]:List Value) 5)] 5 1 0 []:=⟨rfl,.inr ⟨b,0,#[],rfl,rfl,by omega,by decide,rfl,rfl⟩⟩
theorem YU(c:Nat)(M:Mem):
  Sg 81 #[.slice none 0 c] M [] λv _ a=>Own v a 5 1 0 []:=by
 refine sB func81 ntmps81 ?_;intro W;refine gh ?_;refine lq (Bo (Rz rfl rfl rfl rfl) (v':=.bool true) (by simp)) ?_;refine gr ?_;grind[Own.nil]
theorem WB(b:Addr)(c:Nat)(M:Mem):
  Sg 81 #[.slice (some b) 0 c] M [] λv _ d=>Own v d 5 1 0 []:=by
 refine sB func81 ntmps81 ?_;intro W;refine gh ?_;refine lq (Bo (Rz rfl rfl rfl rfl) (v':=.bool false) (by simp)) ?_;refine gh ?_;refine lh (Ab (z:=[iB 0]) (cs:=[]) rfl rfl rfl (by rfl) (by rfl) (by rfl)) ?_;rintro _ _ _ ⟨a,rfl,rfl,rfl⟩;refine gh ?_;refine lh (Qx rfl rfl rfl rfl (Own.ofBuf a)) ?_;rintro _ _ _ ⟨rfl,rfl,rfl⟩;refine jp rfl ?_;refine Am (jT (BG ?_));refine GK rfl rfl ?_;exact Own.ofBuf a
theorem WC(b off c:Nat)(xs:List By)(M:Mem)(d:∀i v,(Aa xs)[i]? =some v->CM M b (off+i) v)(j:xs.length<=100000):
  Sg 81 #[.slice (sA b off) xs.length c] M [] λv _ g=>Own v g 5 1 xs.length (Aa xs):=by
 refine sB func81 ntmps81 ?_;intro W;refine gh ?_;refine lq (Bo (Rz rfl rfl rfl rfl) (v':=.bool false) (by simp)) ?_;refine gh ?_;refine lh (Ab (z:=[iB 0]) (cs:=[]) rfl rfl rfl (by rfl) (by rfl) (by rfl)) ?_;rintro _ _ _ ⟨f,rfl,rfl,rfl⟩;refine gh ?_;refine lh (AY (n:=0) (xs:=[]) (news:=Aa xs) rfl rfl rfl rfl (Own.ofBuf f) (by rw[Ac];omega) (λi v e=>(d i v e).cj _) rfl rfl (BI xs) (by omega) (by decide)) ?_;rintro h _ _ ⟨rfl,k,rfl,a,_⟩;refine jp rfl ?_;refine Am (jT (BG ?_));refine GK rfl rfl ?_;grind
theorem B2(v:Value)(xs:List By)(M:Mem)(h:BS M v xs)(k:xs.length<=100000):Sg 81 #[v] M [] λu _ i=>Own u i 5 1 xs.length (Aa xs):=by
 obtain⟨a,c,rfl,-,g⟩:=h;cases a with
 |none=>
  have d:xs=[]:=by
   rcases g with h|⟨b,f,h,_⟩
   ·grind [Ac]
   grind
  subst d
  exact YU c M
 |some a=>
  by_cases d:xs=[]
  ·subst d;exact WB a c M
  obtain⟨b,f,e,j⟩:=g.open (by intro e;have:=cA length e;rw[Ac]at this;exact d (List.eq_nil_of_length_eq_zero this))
  grind[WC]
theorem Xg(c:Nat)(M:Mem):
  Sg 198 #[.slice none 0 c] M [] λv _ a=>Own v a 5 1 0 []:=by
 refine sB func198 ntmps198 ?_;intro W;refine gh ?_;refine lq (Bo (Rz rfl rfl rfl rfl) (v':=.bool true) (by simp)) ?_;refine gr ?_;grind[Own.nil]
theorem UH(b:Addr)(c:Nat)(M:Mem):
  Sg 198 #[.slice (some b) 0 c] M [] λv _ d=>Own v d 5 1 0 []:=by
 refine sB func198 ntmps198 ?_;intro W;refine gh ?_;refine lq (Bo (Rz rfl rfl rfl rfl) (v':=.bool false) (by simp)) ?_;refine gh ?_;refine lh (Ab (z:=[iB 0]) (cs:=[]) rfl rfl rfl (by rfl) (by rfl) (by rfl)) ?_;rintro _ _ _ ⟨a,rfl,rfl,rfl⟩;refine gh ?_;refine lh (Qx rfl rfl rfl rfl (Own.ofBuf a)) ?_;rintro _ _ _ ⟨rfl,rfl,rfl⟩;refine jp rfl ?_;refine Am (jT (BG ?_));refine GK rfl rfl ?_;exact Own.ofBuf a
theorem UI(b off c:Nat)(xs:List By)(M:Mem)(d:∀i v,(Aa xs)[i]? =some v->CM M b (off+i) v)(j:xs.length<=100000):
  Sg 198 #[.slice (sA b off) xs.length c] M [] λv _ g=>Own v g 5 1 xs.length (Aa xs):=by
 refine sB func198 ntmps198 ?_;intro W;refine gh ?_;refine lq (Bo (Rz rfl rfl rfl rfl) (v':=.bool false) (by simp)) ?_;refine gh ?_;refine lh (Ab (z:=[iB 0]) (cs:=[]) rfl rfl rfl (by rfl) (by rfl) (by rfl)) ?_;rintro _ _ _ ⟨f,rfl,rfl,rfl⟩;refine gh ?_;refine lh (AY (n:=0) (xs:=[]) (news:=Aa xs) rfl rfl rfl rfl (Own.ofBuf f) (by rw[Ac];omega) (λi v e=>(d i v e).cj _) rfl rfl (BI xs) (by omega) (by decide)) ?_;rintro h _ _ ⟨rfl,k,rfl,a,_⟩;refine jp rfl ?_;refine Am (jT (BG ?_));refine GK rfl rfl ?_;grind
theorem EF(v:Value)(xs:List By)(M:Mem)(h:BS M v xs)(k:xs.length<=100000):Sg 198 #[v] M [] λu _ i=>Own u i 5 1 xs.length (Aa xs):=by
 obtain⟨a,c,rfl,-,g⟩:=h;cases a with
 |none=>
  have d:xs=[]:=by
   rcases g with h|⟨b,f,h,_⟩
   ·grind [Ac]
   grind
  subst d
  exact Xg c M
 |some a=>
  by_cases d:xs=[]
  ·subst d;exact UH a c M
  obtain⟨b,f,e,j⟩:=g.open (by intro e;have:=cA length e;rw[Ac]at this;exact d (List.eq_nil_of_length_eq_zero this))
  grind[UI]
theorem CO(x:It)(s:Value)(M:Mem)(hs:BS M s x.val):
  Sg 88 #[.agg #[iB x.key.kind,iU x.key.id,iU x.key.off,iL x.ref,s]] M [] λv _ _=>v=iL (Ca x):=by
 obtain⟨a,c,rfl,-,-⟩:=hs;refine sB func88 ntmps88 ?_;intro W;refine gA λg=>?_;refine gj (λf=>?_) λf=>?_
 ·refine gj (λe=>?_) λe=>?_
  ·refine gr ?_;grind[Ca,Bv]
  refine gj (λd=>?_) λd=>?_
  ·refine gr ?_;grind[Ca,Bv]
  refine gj (λb=>?_) λb=>?_
  ·refine gr ?_;grind[Ca,Bv]
  refine gr ?_;grind[Ca,Bv]
 refine gj (λb=>?_) λb=>?_
 ·refine gr ?_;grind[Ca,Bv]
 refine gr ?_;grind[Ca,Bv]
theorem VE(x y:It)(s t:Value)(M:Mem)(h:BS M s x.val)(g:BS M t y.val):
  Sg 154 #[.agg #[iB x.key.kind,iU x.key.id,iU x.key.off,iL x.ref,s],.agg #[iB y.key.kind,iU y.key.id,iU y.key.off,iL y.ref,t]] M [] λv _ _=>v=.bool (decide (x=y)):=by
 refine sB func154 ntmps154 ?_;intro W;refine NF λj i=>?_;refine BK rfl rfl (wVx (ns:=[x.key.kind,x.key.id,x.key.off]) (ms:=[y.key.kind,y.key.id,y.key.off]) rfl rfl rfl rfl rfl rfl ⟨rfl,rfl⟩) (λc=>?_) (λc=>?_)
 ·refine gj (λb=>?_) λb=>?_
  ·refine gq (Yx s t x.val y.val M h g) ?_;refine gr ?_;rw[DZ]at c;refine cA _ (decide_eq_decide.2 ⟨λd=>?_,λe=>by rw[e]⟩);have f:=oT c;cases x;cases y;simp only at f d b;subst f d b;rfl
  refine gr ?_;have a:x≠y:=by grind
  simp[a]
 refine gr ?_;have a:x≠y:=by grind
 simp[a]
theorem wAp(x:It)(s:Value)(M:Mem)(hs:BS M s x.val)(f:x.val.length<=100000):
  Sg 295 #[.agg #[iB x.key.kind,iU x.key.id,iU x.key.off,iL x.ref,s]] M [] λv k l=>∃e,v=.agg e.toArray/\IR (Ck M k) e x/\l=[]:=by
 refine sB func295 ntmps295 ?_;intro W;refine JM λn m=>?_;refine gC (B2 s x.val M hs f) ?_;rintro _ u _ d b;refine Tz b (by simp) ?_;intro o j i g h c a;subst h;replace a:=a.mono (Fp d);refine gr ?_;exact⟨_,rfl,⟨_,rfl,j,i,rfl,c,a⟩,rfl⟩
def bw{α:Type}(xs:List α)(k:Nat):List (α×Nat):=(xs.zipIdx.drop k).reverse
variable{α:Type}
theorem Q6(xs:List α):bw xs xs.length=[]:=by simp_all [bw]
variable{k:Nat}
theorem EA(xs:List α)(h:k<xs.length):bw xs k=bw xs (k+1)++[(xs[k],k)]:=by
 unfold bw;rw[List.drop_eq_getElem_cons (by simpa using h),List.reverse_cons];simp
theorem CV(xs:List α)(k:Nat):bw xs k<+:bw xs 0:=by
 unfold bw;rw[List.drop_zero];exact List.reverse_prefix.2 (List.drop_suffix k _)
theorem Jc(xs:List α):(bw xs 0).map (·.1)=xs.reverse:=by
 simp_all [bw]
theorem bwb(a:Option Addr)(n c:Nat)(M:Mem):
  Sg 280 #[.slice a n c] M [] λu f g=>∃b,u=.func (.func 324) #[] #[pB b]/\f b=some (.cells #[.slice a n c] 26 (0,0))/\g=[]:=by
 refine sB func280 ntmps280 ?_;intro W;refine gh ?_;refine lh (Bz (cs:=[.slice a n c]) rfl rfl rfl rfl) ?_;rintro _ _ _ ⟨e,rfl,rfl,rfl⟩;refine gh ?_;refine AD e (by simp) ?_;intro i d h;refine gr ?_;grind
theorem wNs(b:Nat)(s:Option Addr)(c:Nat)(xs:List (By))(M:Mem)(H:M b=some (.cells #[.slice s xs.length c] 26 (0,0)))(hs:SM M s (Aa xs))(Q:xs.length<=1000000)(l:Nat)(J E:List (By×Nat)->Mem->Lc->Prop)(g:Mem)(B:Lc)(C:MLe M g)(I:∀a y M2 L2,MLe g M2->J a M2 L2->a++[y]<+:bw xs 0->D7 prog l ((λp:By×Nat=>[iL p.2,iB p.1.toNat]) y).toArray M2 L2 λv j L'=>(v=.bool true/\J (a++[y]) j L')\/(v=.bool false/\E (a++[y]) j L'))(K:J [] g B):
  Sg 324 #[.func (.yield l) #[] #[],pB b] g B λ_ j L'=>J (bw xs 0) j L'\/∃a,a<+:bw xs 0/\E a j L':=by
 have n:∀{M2:Mem}(L:Lc),MLe g M2->CJ M2 L b 0 (.slice s xs.length c):=λL h=>(CM.cj ⟨_,_,_,h _ _ (C _ _ H),rfl⟩ L);refine sB func324 ntmps324 ?_;intro W;refine gh ?_;refine lq (Aw rfl rfl rfl rfl (n _ (mR))) ?_;refine gh ?_;refine Cy (α:=Int×Mem×Lc) (λx=>[(0,.func (.yield l) #[] #[]),(1,pB b),(3,iL x.1)]) (λx=>x.2.1) (λx=>x.2.2) (λx=> -1<=x.1/\x.1<xs.length/\MLe g x.2.1/\J (bw xs (x.1+1).toNat) x.2.1 x.2.2) (λx=>(x.1+1).toNat) ((xs.length:Int)-1,g,B) ⟨by show -1<=(xs.length:Int)-1;omega,by show (xs.length:Int)-1<xs.length;omega,mR,by show J (bw xs ((xs.length:Int)-1+1).toNat) _ _;rw[show ((xs.length:Int)-1+1).toNat=xs.length by omega,Q6];exact K⟩ ?_;rintro⟨i,N,O⟩ ⟨u,G,d,o⟩;try dsimp only at u G d o⊢
 refine gj (λw=>?_) λw=>?_
 ·refine gh ?_;obtain⟨k,rfl⟩:∃k:Nat,i=k:=⟨i.toNat,by omega⟩;have f:k<xs.length:=by omega
  obtain⟨sb,P,rfl,F⟩:=hs.open (by intro e;have:=cA length e;rw[Ac,length_nil]at this;omega);refine lq (Aw rfl rfl rfl rfl (n _ d)) ?_;refine gh ?_;refine lq (Bo (Aw rfl rfl rfl rfl (((F (((k:Nat):Int).toNat*1) (iB xs[k].toNat) (by simp[Aa,f])).mono (C.trans d)).cj _)) (v':=iB xs[k].toNat) rfl) ?_;refine lh (KF rfl rfl rfl rfl (I (bw xs (k+1)) (xs[k],k) N O d (by rwa[show ((k:Int)+1).toNat=k+1 by omega]at o) (by rw[<-EA xs f];exact CV xs k))) ?_;rintro _ j _ ⟨z,D,rfl,m⟩;rw[<-EA xs f]at m;rcases m with⟨rfl,m⟩|⟨rfl,m⟩
  ·refine gh ?_;refine BB ((k:Int)-1,j,D) ⟨by show -1<=(k:Int)-1;omega,by show (k:Int)-1<xs.length;omega,d.trans z,by show J (bw xs ((k:Int)-1+1).toNat) _ _;rw[show ((k:Int)-1+1).toNat=k by omega];exact m⟩
  refine gh ?_;refine AE (L':=D) (by simp) ?_;refine NT (rs:=[]) rfl .nil ?_;grind[CV]
 refine gh ?_;refine XR ?_;refine NT (rs:=[]) rfl .nil ?_;grind
theorem Wz(b:Nat)(a:Option Addr)(c:Nat)(xs:List (By))(M:Mem)(e:M b=some (.cells #[.slice a xs.length c] 26 (0,0)))(hs:SM M a (Aa xs))(d:xs.length<=1000000):
  Iter prog 324 [pB b] M (λp:By×Nat=>[iL p.2,iB p.1.toNat]) (bw xs 0):=
 λl J k i j f g h=>wNs b a c xs M e hs d  l J k i j f g h
def D3(ys:List By):Int:=ys.foldl (λn x=>Nf .u32 (LV .u32 n 8) (x.toNat:Int)) 0
def Ee(xs:List By)(at_ n:Nat):Int:=D3 ((xs.drop at_).take n).reverse
theorem E5(ys:List By)(y:By):D3 (ys++[y])=Nf .u32 (LV .u32 (D3 ys) 8) (y.toNat:Int):=by simp[D3]
theorem Z5(a b:Int):0<=Nf .u32 a b/\Nf .u32 a b<4294967296:=by
 unfold Nf;rw[IntKind.wrap_u32];omega
theorem QB(ys:List By):0<=D3 ys/\D3 ys<4294967296:=by
 rcases List.eq_nil_or_concat ys with rfl|⟨zs,z,rfl⟩
 ·decide
 simp_all [E5,Z5]
variable{M:Mem}{b:Nat}{xs:List By}
theorem SM.sub{off:Nat}(l k:Nat)(h:∀i v,(Aa xs)[i]? =some v->CM M b (off+i) v):∀i v,(Aa ((xs.drop l).take k))[i]? =some v->CM M b (off+l*1+i) v:=λi v a=>by
 have:=h (l+i) v (by
  simp only[Aa,List.getElem?_map,List.getElem?_take,List.getElem?_drop]at a⊢
  split at a
  ·exact a
  simp at a)
 rwa[show off+l*1+i=off+(l+i)by omega]
theorem VU(s:Option Addr)(c:Nat)(xs:List By)(a m:Nat)(M:Mem)(hs:SM M s (Aa xs))(K:xs.length<=c)(h:a+m<=xs.length)(J:0<m)(I:xs.length<=1000000):
  Sg 234 #[.slice s xs.length c,iL a,iL m] M [] λv _ H=>v=.tuple #[iU (Ee xs a m),iL 0]/\H=[]:=by
 obtain⟨sb,z,D,B⟩:=hs.open (by intro e;have:=cA length e;rw[Ac,length_nil]at this;omega);subst D;have f:((xs.drop a).take m).length=m:=by grind
 refine sB func234 ntmps234 ?_;intro W;refine gA λw=>?_;refine gt ?_;refine lq (Bo (CK rfl rfl rfl (.no _) (.of (v:=a+m) rfl (by omega) (by omega)) (.of (v:=a) rfl (by omega) (by omega)) (by omega) (by simp)) (v':=.slice (some ⟨sb,z+a*1,none⟩) ((xs.drop a).take m).length (c-a)) (by rw[AG (by omega),f,Nat.add_sub_cancel_left])) ?_;refine gC (bwb _ _ _ M) ?_;rintro _ G _ j ⟨o,rfl,n,rfl⟩;refine gh ?_;refine D0 (R:=[(w,cE [iU 0] 29)]) (xs:=bw ((xs.drop a).take m) 0) (enc:=(λp:By×Nat=>[iL p.2,iB p.1.toNat])) (ps:=[27,28]) rfl (by kernel_rfl) (Wz o _ _ ((xs.drop a).take m) G n (.inr ⟨_,_,rfl,λi v C=>(SM.sub a m B i v C).mono j⟩) (by omega))
  (λb _ R=>R=[(w,cE [iU (D3 (b.map (·.1)))] 29)])
  (λ_ _ _ _=>False)
  (λ_=>rfl) (by decide) rfl ?_ ?_ ?_
 ·intro l L b y F E g k u;subst k;refine gh ?_;refine jK λN=>?_;refine gh ?_;refine lq (DE rfl rfl rfl rfl (by omega) rfl) ?_;refine gh ?_;refine lq (Eo rfl rfl rfl (by rw[IntKind.wrap_u32];have:=y.1.toNat_lt;omega)) ?_;refine lq (EH rfl rfl rfl rfl rfl) ?_;refine gh ?_;refine wFt ?_;grind[E5]
 ·intro d F E g k;subst k;refine gh ?_;refine Bn (L2:=_) (List.Perm.refl _) ?_;refine gr ?_;exact⟨by rw[Jc];rfl,rfl⟩
 grind
theorem CQ(b:Option Addr)(c:Nat)(xs:List By)(a:Nat)(M:Mem)(hs:SM M b (Aa xs))(e:xs.length<=c)(h:a+4<=xs.length)(d:xs.length<=1000000):
  Sg 153 #[.slice b xs.length c,iL a] M [] λv _ _=>v=.tuple #[iU (Ee xs a 4),iL 0]:=by
 refine sB func153 ntmps153 ?_;intro W;refine gc (VU b c xs a 4 M hs e h (by omega) d) ?_;rintro _ _ _ rfl;refine gr ?_;rfl
theorem FX(b:Option Addr)(c:Nat)(xs:List By)(a:Nat)(M:Mem)(hs:SM M b (Aa xs))(f:xs.length<=c)(h:a+2<=xs.length)(e:xs.length<=1000000):
  Sg 152 #[.slice b xs.length c,iL a] M [] λv _ _=>v=.tuple #[iL (Ee xs a 2),iL 0]:=by
 refine sB func152 ntmps152 ?_;intro W;refine gc (VU b c xs a 2 M hs f h (by omega) e) ?_;rintro _ _ _ rfl;have d:=QB ((xs.drop a).take 2).reverse;change 0<=Ee xs a 2/\Ee xs a 2<4294967296 at d;refine gh ?_;refine lq (CZ rfl rfl rfl (by omega)) ?_;refine gr ?_;rfl
def fstep(s:Int):Int:=Ua .u32 (DV .u32 s 1) (IntKind.u32.wrap (3988292384*YV .u32 s 1))
def Yn:Nat->Int->Int
 |0,s=>s
 |k+1,s=>fstep (Yn k s)
def GA(k:Nat):List Int:=(range k).map (λi:Nat=>Yn 4 (i:Int))++replicate (16-k) 0
def C7(xs:List Int):List Value:=xs.map (Value.int .u32)
theorem QG(h:k<=16):(GA k).length=16:=by grind[GA]
theorem wEo(h:k<16)(o:Nat)(b:o=k):(C7 (GA k)).take o++[iU (Yn 4 k)]++(C7 (GA k)).drop (o+[iU (Yn 4 k)].length)=C7 (GA (k+1)):=by
 subst b;have a:((range o).map (λi:Nat=>Yn 4 (i:Int))).length=o:=by simp
 have d:(GA o).take o=(range o).map (λi:Nat=>Yn 4 (i:Int)):=by grind[GA]
 have c:(GA o).drop (o+1)=replicate (16-(o+1)) 0:=by
  unfold GA;rw[List.drop_append,drop_eq_nil_of_le (by omega),a,List.nil_append,List.drop_replicate];grind
 simp only[C7,<-List.map_take,<-map_drop,List.length_singleton,d,c];unfold GA;rw[List.range_succ];simp
theorem wEr(M:Mem):
  Sg 296 #[] M [] λv _ _=>v=.agg (C7 (GA 16)).toArray:=by
 refine sB func296 ntmps296 ?_;intro W;refine ga λb=>?_;refine Cy (α:=Nat) (λk=>[(0,pB b),(3,iL k)]) (λ_=>M) (λk=>[(b,cE (C7 (GA k)) 402)]) (λk=>k<=16) (λk=>16-k) 0 (by omega) ?_ (hs:=λw h=>by rw[show C7 (GA 0)=replicate 16 (iU 0)from rfl];exact h);rintro k d;try dsimp only at d⊢
 refine gj (λl=>?_) λl=>?_
 ·refine gh ?_;refine lq (Eo rfl rfl rfl (by rw[IntKind.wrap_u32];omega)) ?_;refine gh ?_;refine Cy (α:=Nat) (λj=>[(0,pB b),(1,iL k),(2,iU (Yn j k)),(3,iL k),(8,iL j)]) (λ_=>M) (λ_=>[(b,cE (C7 (GA k)) 402)]) (λj=>j<=4) (λj=>4-j) 0 (by omega) ?_;rintro j e;try dsimp only at e⊢
  refine gj (λg=>?_) λg=>?_
  ·refine gh ?_;refine lq (DE rfl rfl rfl rfl (by omega) rfl) ?_;refine gh ?_;refine lq (EH rfl rfl rfl rfl rfl) ?_;refine lq (qP rfl rfl) ?_;refine lq (EH rfl rfl rfl rfl rfl) ?_;refine gh ?_;refine BB (j+1) (by omega)
  refine gh ?_;refine lq (FO rfl rfl rfl rfl (by omega)) ?_;have f:=QG (k:=k) (by omega);obtain rfl:j=4:=by omega
  refine Dv rfl (MT rfl rfl rfl rfl rfl rfl (by simp[Value.oneCell']) (by simp only[C7,length_map,List.length_cons,length_nil];omega)) ?_;rintro _ _ _ ⟨rfl,rfl⟩;rw[wEo (k:=k) (by omega) _ (by omega)];refine gh ?_;refine BB (k+1) (by omega)
 refine gh ?_;obtain rfl:k=16:=by omega
 have a:(C7 (GA 16)).length=16:=by grind[C7,QG]
 refine lq (A0 (cs:=C7 (GA 16)) rfl rfl rfl rfl a (λi v c=>CJ.loc (by simpa using c))) ?_;refine Dv rfl (JJ rfl rfl rfl rfl a (λv c=>by obtain⟨n,_,rfl⟩:=List.mem_map.1 c;rfl) a) ?_;rintro _ _ _ ⟨rfl,rfl⟩;refine gh ?_;refine zd ([]) rfl ?_;rfl
def ftabV:List Int:=[0,498536548,997073096,651767980,1994146192,1802195444,1303535960,1342533948,3988292384,4027552580,3604390888,3412177804,2607071920,2262029012,2685067896,3183342108]
theorem wMb:GA 16=ftabV:=by decide +kernel
def wGo(i:Int):Int:=ftabV.getD i.toNat 0
def wUd(s:Int):Int:=Ua .u32 (DV .u32 s 4) (wGo (YV .u32 s 15))
def wJf(s:Int)(x:By):Int:=wUd (wUd (Ua .u32 s (x.toNat:Int)))
def P0(xs:List By):Int:=xs.foldl wJf 4294967295
def J1(xs:List By):Int:=Ua .u32 4294967295 (P0 xs)
theorem Pn(s:Int):0<=YV .u32 s 15/\YV .u32 s 15<16:=by
 unfold YV;rw[IntKind.wrap_u32];have h:(BitVec.ofInt IntKind.u32.bits s &&& BitVec.ofInt IntKind.u32.bits 15).toNat<=15:=by
  rw[BitVec.toNat_and];exact Nat.and_le_right
 omega
variable{i:Int}
theorem Y7(h:0<=i/\i<16):(C7 (GA 16))[0+i.toNat*1]? =some (iU (wGo i)):=by
 rw[wMb,Nat.zero_add,mO];have:i.toNat<ftabV.length:=by simp_all [ftabV]
 grind[C7,wGo]
theorem Tq(d:Option Addr)(c:Nat)(xs:List By)(M:Mem)(hs:SM M d (Aa xs))(o:xs.length<=1000000):
  Sg 240 #[.slice d xs.length c] M [] λv _ _=>v=iU (J1 xs):=by
 have f:(C7 (GA 16)).length=16:=by grind[C7,QG]
 refine sB func240 ntmps240 ?_;intro W;refine gq (wEr M) ?_;refine lh (AW rfl rfl) ?_;rintro _ _ _ ⟨h,rfl,rfl,rfl⟩;refine Dv rfl (JJ rfl rfl rfl rfl f (λv i=>by obtain⟨n,_,rfl⟩:=List.mem_map.1 i;rfl) (by rfl)) ?_;rintro _ _ _ ⟨rfl,rfl⟩;refine gh ?_;refine Cy (α:=Nat) (λk=>[(3,pB h),(4,iU (P0 (xs.take k))),(8,.slice d xs.length c),(9,iL xs.length),(10,iL k)]) (λ_=>M) (λ_=>[(h,cE (C7 (GA 16)) 402)]) (λk=>k<=xs.length) (λk=>xs.length-k) 0 (zL) ?_;rintro k hk;try dsimp only at hk⊢
 refine gj (λg=>?_) λg=>?_
 ·refine gh ?_;obtain⟨s,m,l,j⟩:=hs.open (by intro e;have:=cA length e;rw[Ac,length_nil]at this;omega);subst l;have b:k<xs.length:=by omega
  refine gh ?_;refine lq (Aw rfl rfl rfl rfl ((j (((k:Nat):Int).toNat*1) (iB xs[k].toNat) (by simp[Aa,b])).cj _)) ?_;refine gh ?_;refine lq (Eo rfl rfl rfl (by rw[IntKind.wrap_u32];have:=xs[k].toNat_lt;omega)) ?_;refine lq (EH rfl rfl rfl rfl rfl) ?_;refine gh ?_;refine lq (DE rfl rfl rfl rfl (by omega) rfl) ?_;refine gh ?_;refine lq (EH rfl rfl rfl rfl rfl) ?_;refine lq (FO rfl rfl rfl rfl (Pn _)) ?_;refine lq (Aw rfl rfl rfl rfl (CJ.loc (Y7 (Pn _)))) ?_;refine lq (EH rfl rfl rfl rfl rfl) ?_;refine gh ?_;refine lq (DE rfl rfl rfl rfl (by omega) rfl) ?_;refine gh ?_;refine lq (EH rfl rfl rfl rfl rfl) ?_;refine lq (FO rfl rfl rfl rfl (Pn _)) ?_;refine lq (Aw rfl rfl rfl rfl (CJ.loc (Y7 (Pn _)))) ?_;refine lq (EH rfl rfl rfl rfl rfl) ?_;refine gh ?_;have a:P0 (xs.take (k+1))=wJf (P0 (xs.take k)) xs[k]:=by unfold P0;rw[List.take_succ_eq_append_getElem b,List.foldl_append];rfl
  refine BB (k+1) (by omega) (hk:=(kC (t:=3) rfl (Keep.ceq (t:=4) rfl (by rw[a];rfl) (kC (t:=8) rfl (kC (t:=9) rfl (kC (t:=10) rfl Keep.nil))))))
 refine gh ?_;refine lq (qNotI rfl rfl rfl) ?_;refine gr ?_;rw[show k=xs.length by omega,List.take_length];rfl
def CD(xs:List By):Int:=if xs.length≠128 then 3 else if Ee xs 0 4≠J1 (xs.drop 4)then 8 else 0
theorem wHx(v:Value)(xs:List By)(M:Mem)(a:BS M v xs)(h:xs.length≠128):
  Sg 232 #[v] M [] λu b L'=>∃s,u=.tuple #[s,iL (CD xs)]/\(CD xs=0->BS b s (xs.drop 4))/\L'=[]:=by
 obtain⟨d,c,rfl,-,e⟩:=a;have f:CD xs=3:=iP h;refine sB func232 ntmps232 ?_;intro W;refine gt ?_;refine AE (L':=[]) (by simp) ?_;refine gr ?_;simp_all
theorem wJa(v:Value)(xs:List By)(M:Mem)(g:BS M v xs)(h:xs.length=128)(j:Ee xs 0 4≠J1 (xs.drop 4)):
  Sg 232 #[v] M [] λu i L'=>∃s,u=.tuple #[s,iL (CD xs)]/\(CD xs=0->BS i s (xs.drop 4))/\L'=[]:=by
 obtain⟨a,c,rfl,e,f⟩:=g;have b:SM M (Hk a 4 c 1) (Aa (xs.drop 4)):=by have:=f.part (l:=4) (m:=c) (s:=1) (by omega) 1000;rwa[show ((Aa xs).drop (4*1)).take 1000=Aa (xs.drop 4)by rw[List.take_of_length_le (by rw[length_drop,Ac];omega)];simp[Aa,map_drop]]at this
 have d:(xs.drop 4).length=124:=by grind
 have k:CD xs=8:=by grind[CD]
 refine sB func232 ntmps232 ?_;intro W;refine gt ?_;refine gQ (CQ a c xs 0 M f e (by omega) (by omega)) ?_;refine gt ?_;refine lq (Bo (CK rfl rfl rfl (.no _) (.no _) (.of (v:=4) rfl (by omega) rfl) (by omega) (by simp)) (v':=.slice (Hk a 4 c 1) (xs.drop 4).length (c-4)) (by rw[d,h])) ?_;refine gQ (Tq _ _ (xs.drop 4) M b (by omega)) ?_;refine gt ?_;refine AE (L':=[]) (by simp) ?_;refine gr ?_;simp_all
theorem wRj(v:Value)(xs:List By)(M:Mem)(k:BS M v xs)(h:xs.length=128)(D:Ee xs 0 4=J1 (xs.drop 4)):
  Sg 232 #[v] M [] λu C L'=>∃s,u=.tuple #[s,iL (CD xs)]/\(CD xs=0->BS C s (xs.drop 4))/\L'=[]:=by
 obtain⟨e,c,rfl,g,j⟩:=k;have a:SM M (Hk e 4 c 1) (Aa (xs.drop 4)):=by have:=j.part (l:=4) (m:=c) (s:=1) (by omega) 1000;rwa[show ((Aa xs).drop (4*1)).take 1000=Aa (xs.drop 4)by rw[List.take_of_length_le (by rw[length_drop,Ac];omega)];simp[Aa,map_drop]]at this
 have d:(xs.drop 4).length=124:=by grind
 have w:CD xs=0:=by grind[CD]
 refine sB func232 ntmps232 ?_;intro W;refine gt ?_;refine gQ (CQ e c xs 0 M j g (by omega) (by omega)) ?_;refine gt ?_;refine lq (Bo (CK rfl rfl rfl (.no _) (.no _) (.of (v:=4) rfl (by omega) rfl) (by omega) (by simp)) (v':=.slice (Hk e 4 c 1) (xs.drop 4).length (c-4)) (by rw[d,h])) ?_;refine gQ (Tq _ _ (xs.drop 4) M a (by omega)) ?_;refine gt ?_;refine lq (Bo (CK rfl rfl rfl (.no _) (.no _) (.of (v:=4) rfl (by omega) rfl) (by omega) (by simp)) (v':=.slice (Hk e 4 c 1) (xs.drop 4).length (c-4)) (by rw[d,h])) ?_;refine lh (BU rfl rfl rfl rfl rfl (by kernel_rfl) (EF _ (xs.drop 4) M ⟨_,_,rfl,by omega,a⟩ (by omega))) ?_;rintro _ F _ ⟨o,_,rfl,b⟩;refine Kz b (by simp) ?_;intro E B z n y i f;subst y;refine gh ?_;refine AE (L':=[]) (by simp) ?_;refine gr ?_;exact⟨_,by rw[w],λ_=>⟨B,z,rfl,i,f⟩,rfl⟩
theorem Jy(v:Value)(xs:List By)(M:Mem)(c:BS M v xs):Sg 232 #[v] M [] λu a b=>∃s,u=.tuple #[s,iL (CD xs)]/\(CD xs=0->BS a s (xs.drop 4))/\b=[]:=by
 grind[Ee,J1,wRj,wJa,wHx]
def ER(xs:List By):Nat:=12+(xs.getD 11 0).toNat
def Hs(xs:List By):It:=⟨⟨((xs.getD 0 0).toNat:Int),Ee xs 1 4,Ee xs 5 4⟩,Ee xs 9 2,(xs.drop 12).take (ER xs-12)⟩
def UT(xs:List By):Int:=if xs.length<12 then 8 else if xs.length<ER xs then 8 else Ca (Hs xs)
def zeroIt:List Value:=[iB 0,iU 0,iU 0,iL 0,sN]
variable{j:Nat}
theorem B5{xs:List By}(h:j<xs.length):(Aa xs)[j]? =some (iB ((xs.getD j 0).toNat:Int)):=by grind[Aa]
theorem Tk{xs:List By}(h:ER xs<=xs.length):(Hs xs).val.length=ER xs-12:=by
 grind[Hs,ER]
theorem wDw(a:Option Addr)(c:Nat)(xs:List By)(M:Mem)(e:xs.length<=c)(hs:SM M a (Aa xs))(d:xs.length<=100000)(h:xs.length<12):
  Sg 233 #[.slice a xs.length c] M [] λv _ b=>v=.tuple #[.agg zeroIt.toArray,iL 0,iL (8)]/\b=[]:=by
 refine sB func233 ntmps233 ?_;intro W;refine gA λf=>?_;refine gu ?_;exact⟨rfl,rfl⟩
theorem X0(a:Option Addr)(c:Nat)(xs:List By)(M:Mem)(l:xs.length<=c)(hs:SM M a (Aa xs))(k:xs.length<=100000)(h:¬xs.length<12)(n:xs.length<ER xs):
  Sg 233 #[.slice a xs.length c] M [] λv _ g=>v=.tuple #[.agg zeroIt.toArray,iL 0,iL (8)]/\g=[]:=by
 obtain⟨sb,i,f,b⟩:=hs.open (by intro e;have:=cA length e;rw[Ac,length_nil]at this;omega);subst f;have d:=(xs.getD 11 0).toNat_lt;have m:ER xs=12+(xs.getD 11 0).toNat:=rfl;refine sB func233 ntmps233 ?_;intro W;refine gA λo=>?_;refine gt ?_;refine lq (Aw rfl rfl rfl rfl ((b ((11:Int).toNat*1) _ (B5 (j:=11) (by omega))).cj _)) ?_;refine lq (CZ rfl rfl rfl (by omega)) ?_;refine gu ?_;exact⟨rfl,rfl⟩
theorem wDx(k:Option Addr)(c:Nat)(xs:List By)(M:Mem)(g:xs.length<=c)(hs:SM M k (Aa xs))(s:xs.length<=100000)(h:¬xs.length<12)(y:¬xs.length<ER xs)(w:Ca (Hs xs)≠0):
  Sg 233 #[.slice k xs.length c] M [] λv _ n=>v=.tuple #[.agg zeroIt.toArray,iL 0,iL (Ca (Hs xs))]/\n=[]:=by
 obtain⟨sb,a,m,b⟩:=hs.open (by intro e;have:=cA length e;rw[Ac,length_nil]at this;omega);subst m;have l:=(xs.getD 11 0).toNat_lt;have u:ER xs=12+(xs.getD 11 0).toNat:=rfl;have d:=Tk (xs:=xs) (by omega);have f:SM M (Hk (sA sb a) 12 (ER xs) 1) (Aa (Hs xs).val):=by
   by_cases o:ER xs=12
   ·left;have:(Hs xs).val=[]:=List.eq_nil_of_length_eq_zero (by omega);rw[this];rfl
   rw[AG (by omega)];exact .inr ⟨sb,_,rfl,SM.sub 12 (ER xs-12) b⟩
 have i:BS M (.slice (Hk (sA sb a) 12 (ER xs) 1) (Hs xs).val.length (ER xs-12)) (Hs xs).val:=⟨_,_,rfl,by omega,f⟩;refine sB func233 ntmps233 ?_;intro W;refine gA λz=>?_;refine gt ?_;refine lq (Aw rfl rfl rfl rfl ((b ((11:Int).toNat*1) _ (B5 (j:=11) (by omega))).cj _)) ?_;refine lq (CZ rfl rfl rfl (by omega)) ?_;refine gt ?_;refine lq (Aw rfl rfl rfl rfl ((b ((0:Int).toNat*1) _ (B5 (j:=0) (by omega))).cj _)) ?_;refine gq (CQ _ c xs 1 M hs g (by omega) (by omega)) ?_;refine gq (CQ _ c xs 5 M hs g (by omega) (by omega)) ?_;refine gq (FX _ c xs 9 M hs g (by omega) (by omega)) ?_;refine lq (Bo (CK rfl rfl rfl (.of (v:=ER xs) rfl (by omega) (by omega)) (.of (v:=ER xs) rfl (by omega) (by omega)) (.of (v:=12) rfl (by omega) rfl) (by omega) (by simp)) (v':=.slice (Hk (sA sb a) 12 (ER xs) 1) (Hs xs).val.length (ER xs-12)) (by rw[d])) ?_;refine gQ (CO (Hs xs) _ M i) ?_;refine gu ?_;exact⟨rfl,rfl⟩
theorem wKy(o:Option Addr)(c:Nat)(xs:List By)(M:Mem)(m:xs.length<=c)(hs:SM M o (Aa xs))(F:xs.length<=100000)(h:¬xs.length<12)(I:¬xs.length<ER xs)(H:Ca (Hs xs)=0):
  Sg 233 #[.slice o xs.length c] M [] λv B C=>∃n,v=.tuple #[.agg n.toArray,iL (ER xs),iL 0]/\IR (Ck M B) n (Hs xs)/\C=[]:=by
 obtain⟨sb,b,w,d⟩:=hs.open (by intro e;have:=cA length e;rw[Ac,length_nil]at this;omega);subst w;have s:=(xs.getD 11 0).toNat_lt;have G:ER xs=12+(xs.getD 11 0).toNat:=rfl;have f:=Tk (xs:=xs) (by omega);have g:SM M (Hk (sA sb b) 12 (ER xs) 1) (Aa (Hs xs).val):=by
   by_cases E:ER xs=12
   ·left;have:(Hs xs).val=[]:=List.eq_nil_of_length_eq_zero (by omega);rw[this];rfl
   rw[AG (by omega)];exact .inr ⟨sb,_,rfl,SM.sub 12 (ER xs-12) d⟩
 have a:BS M (.slice (Hk (sA sb b) 12 (ER xs) 1) (Hs xs).val.length (ER xs-12)) (Hs xs).val:=⟨_,_,rfl,by omega,g⟩;refine sB func233 ntmps233 ?_;intro W;refine gA λJ=>?_;refine gt ?_;refine lq (Aw rfl rfl rfl rfl ((d ((11:Int).toNat*1) _ (B5 (j:=11) (by omega))).cj _)) ?_;refine lq (CZ rfl rfl rfl (by omega)) ?_;refine gt ?_;refine lq (Aw rfl rfl rfl rfl ((d ((0:Int).toNat*1) _ (B5 (j:=0) (by omega))).cj _)) ?_;refine gq (CQ _ c xs 1 M hs m (by omega) (by omega)) ?_;refine gq (CQ _ c xs 5 M hs m (by omega) (by omega)) ?_;refine gq (FX _ c xs 9 M hs m (by omega) (by omega)) ?_;refine lq (Bo (CK rfl rfl rfl (.of (v:=ER xs) rfl (by omega) (by omega)) (.of (v:=ER xs) rfl (by omega) (by omega)) (.of (v:=12) rfl (by omega) rfl) (by omega) (by simp)) (v':=.slice (Hk (sA sb b) 12 (ER xs) 1) (Hs xs).val.length (ER xs-12)) (by rw[f])) ?_;refine gQ (CO (Hs xs) _ M a) ?_;refine gt ?_;refine gC (wAp (Hs xs) _ M a (by omega)) ?_;rintro _ K _ u ⟨n,rfl,k,rfl⟩;obtain⟨D,rfl,z,y,rfl,l,i⟩:=k;refine gr ?_;exact⟨_,rfl,⟨_,rfl,z,y,rfl,l,i⟩,rfl⟩
def mxB(xs:List By):Int:=(xs.drop 1).foldl (λm x=>max m (x.toNat:Int)) ((xs.getD 0 0).toNat:Int)
def mxK(xs:List By)(k:Nat):Int:=((xs.drop 1).take k).foldl (λm x=>max m (x.toNat:Int)) ((xs.getD 0 0).toNat:Int)
variable{k:Nat}
theorem wJt{xs:List By}(h:k+1<xs.length):mxK xs (k+1)=max (mxK xs k) (xs[k+1].toNat:Int):=by
 unfold mxK;rw[List.take_succ_eq_append_getElem (by rw[length_drop];omega),List.foldl_append];grind
theorem mx_le(ys:List By):∀m:Int,m<=ys.foldl (λm x=>max m (x.toNat:Int)) m/\∀y∈ys,(y.toNat:Int)<=ys.foldl (λm x=>max m (x.toNat:Int)) m:=by
 induction ys with
 |nil=>grind
 |cons y ys a=>
  grind
theorem wRs(ys:List By)(h:∀y∈ys,y=0):ys.foldl (λm x=>max m (x.toNat:Int)) 0=0:=by
 induction ys with
 |nil=>rfl
 |cons y ys a=>simp_all
def C1(xs:List By):Bool:=xs.all (· ==0)
theorem N7{xs:List By}(h:0<xs.length):decide (0<mxB xs)= !C1 xs:=by
 obtain⟨x,ys,rfl⟩:=List.exists_cons_of_length_pos h;by_cases c:∀y∈x::ys,y=0
 ·have g:C1 (x::ys)=true:=by grind[C1]
  simp_all [mxB,wRs]
 have g:C1 (x::ys)=false:=by
  rw[Bool.eq_false_iff];intro e;apply c;intro y d;have:=List.all_eq_true.1 e y d;simpa using this
 have j:0<mxB (x::ys):=by
  have f:=mx_le ys ((x.toNat:Int));unfold mxB;simp only[List.drop_succ_cons,List.drop_zero,List.getD_cons_zero];obtain⟨y,a⟩:=Classical.not_forall.1 c;obtain⟨d,b⟩:=Classical.not_imp.1 a;have i:0<(y.toNat:Int):=by
   have:y.toNat≠0:=λe=>b (UInt8.toNat_inj.1 e);omega
  grind
 grind
theorem Vs(d:Option Addr)(c:Nat)(xs:List By)(M:Mem)(hs:SM M d (Aa xs))(i:xs.length<=1000000)(l:0<xs.length):
  Sg 149 #[.slice d xs.length c] M [] λv _ _=>v=iB (mxB xs):=by
 obtain⟨sb,g,h,f⟩:=hs.open (by intro e;have:=cA length e;rw[Ac,length_nil]at this;omega);subst h;refine sB func149 ntmps149 ?_;intro W;refine gt ?_;refine lq (Aw rfl rfl rfl rfl ((f ((0:Int).toNat*1) _ (B5 (j:=0) (by omega))).cj _)) ?_;refine gh ?_;refine Cy (α:=Nat) (λk=>[(0,.slice (sA sb g) xs.length c),(3,iB (mxK xs k)),(4,iL ((k+1:Nat):Int))]) (λ_=>M) (λ_=>[]) (λk=>k+1<=xs.length) (λk=>xs.length-k) 0 (by omega) ?_;rintro k hk;try dsimp only at hk⊢
 refine gj (λb=>?_) λb=>?_
 ·refine gh ?_;have a:k+1<xs.length:=by omega
  refine gh ?_;refine lq (Aw rfl rfl rfl rfl ((f ((((k+1:Nat):Int)).toNat*1) (iB xs[k+1].toNat) (by simp[Aa,a])).cj _)) ?_;refine lq (wVu rfl rfl rfl rfl) ?_;refine gh ?_;refine BB (k+1) (by omega) (hk:=(kC (t:=0) rfl (Keep.ceq (t:=3) rfl (by rw[wJt a]) (kC (t:=4) rfl Keep.nil))))
 refine gr ?_;show Value.int _ (mxK xs k)=_;unfold mxK mxB;rw[List.take_of_length_le (by rw[length_drop];omega)]
def Ad(p:It×Value):List Value:=[iB p.1.key.kind,iU p.1.key.id,iU p.1.key.off,iL p.1.ref,p.2]
theorem Ae(p:It×Value):(Ad p).length=5:=rfl
def NS(M:Mem)(v:Value)(xs:List It):Prop:=∃a c,∃ps:List (It×Value),v=.slice a xs.length c/\xs.length<=c/\SM M a (ps.flatMap Ad)/\ps.map (·.1)=xs/\∀p∈ps,BS M p.2 p.1.val
variable{M:Mem}{xs:List It}
theorem NS.mono{M':Mem}{v:Value}(h:NS M v xs)(b:MLe M M'):NS M' v xs:=by
 obtain⟨a,c,ps,j,i,g,f,e⟩:=h;exact⟨a,c,ps,j,i,g.mono b,f,λp d=>(e p d).mono b⟩
theorem NS.nil:NS M (sN) []:=⟨none,0,[],rfl,lR,SM.nil,rfl,λ_ h=>by cases h⟩
def BL(above:Bool):Option Ky->List It->Bool
 |_,[]=>true
 |p,x::xs=> !Bv x&&(match p with|none=>true|some q=>Ap q x.key)&&(!above||(x.ref != 0&&x.val.length==0))&&BL above (some x.key) xs
def Cx(lv:Int)(xs:List It):Bool:=decide (0<=lv/\lv<6/\xs.length<=5/\(0<lv->xs.length≠0))&&BL (decide (0<lv)) none xs
def CT(lv:Int)(xs:List It):Int:=if Cx lv xs then 0 else 8
def Ek(xs:List It)(k:Nat):Option Ky:=match k with|0=>none|j+1=>(xs[j]?).map (·.key)
theorem HT(x:It):(Bv x=true/\Ca x=8)\/(Bv x=false/\Ca x=0):=by
 grind[Ca,Bv]
theorem Vp(lv:Int)(xs:List It)(a:Option Addr)(c:Nat)(ps:List (It×Value))(M:Mem)(j:xs.length<=c)(hs:SM M a (ps.flatMap Ad))(i:ps.map (·.1)=xs)(k:∀p∈ps,BS M p.2 p.1.val)(h:¬(0<=lv/\lv<6/\xs.length<=5/\(0<lv->xs.length≠0))):
  Sg 47 #[.agg #[iL lv,.slice a xs.length c]] M [] λv _ _=>v=iL (CT lv xs):=by
 refine sB func47 ntmps47 ?_;intro W;refine gA λl=>?_;refine gj (λg=>?_) λg=>?_
 ·refine gj (λe=>?_) λe=>?_
  ·refine gr ?_;omega
  refine gj (λd=>?_) λd=>?_
  ·refine gr ?_;grind[CT,Cx]
  refine gj (λb=>?_) λb=>?_
  ·refine gr ?_;grind[CT,Cx]
  refine gj (λf=>?_) λf=>?_
  ·refine gr ?_;grind[CT,Cx]
  omega
 refine gj (λe=>?_) λe=>?_
 ·refine gr ?_;grind[CT,Cx]
 refine gj (λd=>?_) λd=>?_
 ·refine gr ?_;omega
 refine gj (λb=>?_) λb=>?_
 ·refine gr ?_;grind[CT,Cx]
 omega
theorem Xt(h:k<xs.length):Ek xs (k+1)=some xs[k].key:=by grind[Ek]
variable{ab:Bool}
theorem LA(h:k<xs.length):BL ab (Ek xs k) (xs.drop k)=(!Bv xs[k]&&(match Ek xs k with|none=>true|some q=>Ap q xs[k].key)&&(!ab||(xs[k].ref != 0&&xs[k].val.length==0))&&BL ab (Ek xs (k+1)) (xs.drop (k+1))):=by
 rw[List.drop_eq_getElem_cons h,Xt h];rfl
abbrev EL(x:It)(va:Option Addr)(vc:Nat):List Value:=[iB x.key.kind,iU x.key.id,iU x.key.off,iL x.ref,.slice va x.val.length vc]
variable{ps:List (It×Value)}{sb:Nat}
theorem Av{e:Nat}(h:∀i u,(ps.flatMap Ad)[i]? =some u->CM M sb (e+i) u)(n:ps.map (·.1)=xs)(m:∀p∈ps,BS M p.2 p.1.val)(hk:k<xs.length):
  ∃c b,(∀i v,(EL xs[k] c b)[i]? =some v->CM M sb (e+k*5+i) v)/\xs[k].val.length<=b/\SM M c (Aa xs[k].val):=by
 have a:k<ps.length:=by grind
 have d:xs[k]=ps[k].1:=by grind
 obtain⟨c,b,l,g,f⟩:=m ps[k] (List.getElem_mem a);rw[<-d]at l g f;refine⟨c,b,λi v j=>Bx Ad 5 Ae h (show ps[k]? =some ps[k]by simp[a]) i v ?_,g,f⟩;simp_all [Ad,EL]
def JV(ab:Bool)(xs:List It)(k:Nat)(h:k<xs.length):Bool:= !Bv xs[k]&&(match Ek xs k with|none=>true|some q=>Ap q xs[k].key)&&(!ab||(xs[k].ref != 0&&xs[k].val.length==0))
variable{lv:Int}
theorem HK(a:decide (0<lv)=ab)(hk:k<xs.length)(c:BL ab none xs=BL ab (Ek xs k) (xs.drop k))(b:JV ab xs k hk=false):CT lv xs=8:=by
 grind[CT,Cx,LA,JV]
theorem Zy(hk:k<xs.length)(b:BL ab none xs=BL ab (Ek xs k) (xs.drop k))(a:JV ab xs k hk=true):BL ab none xs=BL ab (Ek xs (k+1)) (xs.drop (k+1)):=by
 grind[LA,JV]
theorem wJk(h:0<=lv/\lv<6/\xs.length<=5/\(0<lv->xs.length≠0))(a:decide (0<lv)=ab)(hk:k=xs.length)(b:BL ab none xs=BL ab (Ek xs k) (xs.drop k)):CT lv xs=0:=by
 unfold CT Cx;rw[iP];rw[a,b,drop_eq_nil_of_le (by omega)];simp only[Bool.and_eq_true,decide_eq_true_eq];exact⟨h,rfl⟩
theorem Rb{x:It}(h:Ca x≠0):Bv x=true/\Ca x=8:=(HT x).resolve_right λa=>h a.2
theorem CH{x:It}(h:Ca x=0):Bv x=false:=((HT x).resolve_left λa=>by rw[a.2]at h;cases h).1
theorem Vn(lv:Int)(xs:List It)(a:Option Addr)(c:Nat)(ps:List (It×Value))(M:Mem)(Q:xs.length<=c)(hs:SM M a (ps.flatMap Ad))(l:ps.map (·.1)=xs)(F:∀p∈ps,BS M p.2 p.1.val)(h:0<=lv/\lv<6/\xs.length<=5/\(0<lv->xs.length≠0))(I:lv=0):
  Sg 47 #[.agg #[iL lv,.slice a xs.length c]] M [] λv _ _=>v=iL (CT lv xs):=by
 have K:decide (0<lv)=false:=by grind
 refine sB func47 ntmps47 ?_;intro W;refine gA λG=>?_;refine gt ?_;refine Cy (α:=Nat) (λk=>[(1,pB G),(3,.bool false),(34,.slice a xs.length c),(35,iL xs.length),(36,iL k)]) (λ_=>M) (λ_=>[(G,cE [iL lv,.slice a xs.length c] 81)]) (λk=>k<=xs.length/\BL false none xs=BL false (Ek xs k) (xs.drop k)) (λk=>xs.length-k) 0 ⟨zL,rfl⟩ ?_;rintro k ⟨J,u⟩;try dsimp only at J u⊢
 refine gj (λB=>?_) λB=>?_
 ·refine gh ?_;have d:k<xs.length:=by omega
  obtain⟨sb,H,N,E⟩:=hs.open (by intro e;have:=cA length e;rw[Af Ad 5 Ae,length_nil]at this;have L:=cA length l;rw[length_map]at L;omega);subst N;obtain⟨D,C,o,g,f⟩:=Av E l F d;refine gh ?_;refine lq (A0 (cs:=EL xs[k] D C) rfl rfl rfl rfl rfl (λi v b=>(o i v b).cj _)) ?_;refine ga λR=>?_;refine gQ (CO xs[k] _ M ⟨D,C,rfl,g,f⟩) ?_;refine gj (λz=>?_) λz=>?_
  ·refine gr ?_;grind[Rb,HK,JV]
  refine gh ?_;refine Qp [0,1,2,3,4,5,6,7,8,9,10,11,12,13,14,15,16,17,18,19,20,21,22,23,24,25,26,27,28] ?_;refine gj (λy=>?_) λy=>?_
  ·refine dp rfl rfl ?_;refine dq rfl (Ah rfl rfl rfl rfl rfl) ?_;refine dq rfl (Aw rfl rfl rfl rfl (CJ.loc rfl)) ?_;refine dp rfl rfl ?_;refine da rfl rfl (by omega) ?_;obtain⟨j,rfl⟩:∃j,k=j+1:=⟨k-1,by omega⟩;have m:j<xs.length:=by omega
   obtain⟨P,O,s,-,-⟩:=Av E l F m;refine dq rfl (Bo (FN rfl rfl rfl rfl (by omega)) (v':=.pointer (some ⟨sb,H+j*5,none⟩)) (by congr 3;omega)) ?_;refine gh ?_;refine dq rfl (A0 (cs:=Az xs[j].key) rfl rfl rfl rfl rfl (λi v b=>(s i v (by match i,b with|0,b=>simpa [Az]using b|1,b=>simpa [Az]using b|2,b=>simpa [Az]using b|n+3,b=>simp[Az]at b)).cj _)) ?_;refine gg ?_;refine Sq rfl rfl rfl (Dc rfl rfl rfl rfl rfl (by kernel_rfl) (Ch xs[j].key xs[j+1].key M)) (λw=>?_) (λw=>?_)
   ·refine gh ?_;refine BB (j+1+1) ⟨by omega,Zy d u ?_⟩;grind[JV,Ek,CH]
   refine gr ?_;grind[HK,JV,Ek]
  refine gh ?_;refine BB (k+1) ⟨by omega,Zy d u ?_⟩;simp_all [JV,Ek,CH]
 refine gr ?_;grind[wJk]
theorem Vm(lv:Int)(xs:List It)(a:Option Addr)(c:Nat)(ps:List (It×Value))(M:Mem)(S:xs.length<=c)(hs:SM M a (ps.flatMap Ad))(o:ps.map (·.1)=xs)(H:∀p∈ps,BS M p.2 p.1.val)(h:0<=lv/\lv<6/\xs.length<=5/\(0<lv->xs.length≠0))(K:0<lv):
  Sg 47 #[.agg #[iL lv,.slice a xs.length c]] M [] λv _ _=>v=iL (CT lv xs):=by
 have N:decide (0<lv)=true:=by grind
 refine sB func47 ntmps47 ?_;intro W;refine gA λI=>?_;refine gt ?_;refine Cy (α:=Nat) (λk=>[(1,pB I),(3,.bool true),(34,.slice a xs.length c),(35,iL xs.length),(36,iL k)]) (λ_=>M) (λ_=>[(I,cE [iL lv,.slice a xs.length c] 81)]) (λk=>k<=xs.length/\BL true none xs=BL true (Ek xs k) (xs.drop k)) (λk=>xs.length-k) 0 ⟨zL,rfl⟩ ?_;rintro k ⟨L,y⟩;try dsimp only at L y⊢
 refine gj (λD=>?_) λD=>?_
 ·refine gh ?_;have d:k<xs.length:=by omega
  obtain⟨sb,J,P,G⟩:=hs.open (by intro e;have:=cA length e;rw[Af Ad 5 Ae,length_nil]at this;have O:=cA length o;rw[length_map]at O;omega);subst P;obtain⟨F,E,u,m,l⟩:=Av G o H d;refine gh ?_;refine lq (A0 (cs:=EL xs[k] F E) rfl rfl rfl rfl rfl (λi v b=>(u i v b).cj _)) ?_;refine ga λT=>?_;refine gQ (CO xs[k] _ M ⟨F,E,rfl,m,l⟩) ?_;refine gj (λC=>?_) λC=>?_
  ·refine gr ?_;grind[Rb,HK,JV]
  refine gh ?_;refine Qp [0,1,2,3,4,5,6,7,8,9,10,11,12,13,14,15,16,17,18,19,20,21,22,23,24,25,26,27,28] ?_;refine gj (λB=>?_) λB=>?_
  ·refine dp rfl rfl ?_;refine dq rfl (Ah rfl rfl rfl rfl rfl) ?_;refine dq rfl (Aw rfl rfl rfl rfl (CJ.loc rfl)) ?_;refine dp rfl rfl ?_;refine da rfl rfl (by omega) ?_;obtain⟨j,rfl⟩:∃j,k=j+1:=⟨k-1,by omega⟩;have s:j<xs.length:=by omega
   obtain⟨R,Q,w,-,-⟩:=Av G o H s;refine dq rfl (Bo (FN rfl rfl rfl rfl (by omega)) (v':=.pointer (some ⟨sb,J+j*5,none⟩)) (by congr 3;omega)) ?_;refine gh ?_;refine dq rfl (A0 (cs:=Az xs[j].key) rfl rfl rfl rfl rfl (λi v b=>(w i v (by match i,b with|0,b=>simpa [Az]using b|1,b=>simpa [Az]using b|2,b=>simpa [Az]using b|n+3,b=>simp[Az]at b)).cj _)) ?_;refine gg ?_;refine Sq rfl rfl rfl (Dc rfl rfl rfl rfl rfl (by kernel_rfl) (Ch xs[j].key xs[j+1].key M)) (λz=>?_) (λz=>?_)
   ·refine gj (λg=>?_) λg=>?_
    ·refine gr ?_;grind[HK,JV]
    refine gj (λf=>?_) λf=>?_
    ·refine gr ?_;grind[HK,JV]
    refine gh ?_;refine BB (j+1+1) ⟨by omega,Zy d y ?_⟩;grind[JV,Ek,CH]
   refine gr ?_;grind[HK,JV,Ek]
  refine gj (λg=>?_) λg=>?_
  ·refine gr ?_;grind[HK,JV]
  refine gj (λf=>?_) λf=>?_
  ·refine gr ?_;grind[HK,JV]
  refine gh ?_;refine BB (k+1) ⟨by omega,Zy d y ?_⟩;simp_all [JV,Ek,CH]
 refine gr ?_;grind[wJk]
theorem FS(lv:Int)(xs:List It)(s:Value)(M:Mem)(b:NS M s xs):Sg 47 #[.agg #[iL lv,s]] M [] λv _ _=>v=iL (CT lv xs):=by
 obtain⟨a,c,ps,rfl,f,d,e,g⟩:=b;grind[Vm,Vn,Vp]
end Go.Proofs.YtjheijhahehnmaaGreatDoor
