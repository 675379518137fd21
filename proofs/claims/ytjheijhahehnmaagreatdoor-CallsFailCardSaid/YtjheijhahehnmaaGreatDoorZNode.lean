/- Walks: items and nodes read. -/
import Derived.Test.YtjheijhahehnmaaGreatDoorZHn
import Derived.Test.YtjheijhahehnmaaGreatDoorZShv
import Derived.Test.YtjheijhahehnmaaGreatDoorZTab
namespace Go.Proofs.YtjheijhahehnmaaGreatDoor
open Go.Proofs.Tryz
open List (drop_eq_nil_of_le map_map length length_nil range replicate map_drop length_map length_drop)
set_option linter.unusedSimpArgs false
set_option linter.unusedVariables false
set_option linter.unusedSectionVars false
set_option maxHeartbeats 40000000
set_option maxRecDepth 8000
open Go.RowKit
structure Ky where
 kind:Int
 id:Int
 off:Int
 deriving DecidableEq,Repr
def AA(k:Ky):List Value:=[.int .u8 k.kind,.int .u32 k.id,.int .u32 k.off]
def Lh(a b:Int):Int:=if a<b then -1 else if b<a then 1 else 0
def Ap(a b:Ky):Bool:=decide (a.kind<b.kind\/a.kind=b.kind/\(a.id<b.id\/a.id=b.id/\a.off<b.off))
def wZb:List Int->Int
 |[]=>0
 |x::xs=>if x≠0 then x else wZb xs
theorem wNf(a b:Ky):decide (wZb [Lh a.kind b.kind,Lh a.id b.id,Lh a.off b.off]<0)=Ap a b:=by
 grind[Ap,wZb,Lh]
def Al(xs:List Int):List Value:=xs.map (Value.int .i64)
theorem wMp(a:Int)(M:Mem):
  SpecL prog 238 #[.int .u8 a] M [] λv _ _=>v=.bool false:=by
 refine sB func238 ntmps238 ?_;intro W;refine gr ?_;simp
theorem UK(a b:Int)(M:Mem):
  SpecL prog 157 #[.int .u8 a,.int .u8 b] M [] λv _ _=>v=.int .i64 (Lh a b):=by
 refine sB func157 ntmps157 ?_;intro W;refine gq (wMp _ M) ?_;refine gQ (wMp _ M) ?_;refine gj (λd=>?_) λd=>?_
 ·refine gr ?_;grind[Lh]
 refine gj (λc=>?_) λc=>?_
 ·refine gr ?_;grind[Lh]
 refine gr ?_;grind[Lh]
theorem wBc(a:Int)(M:Mem):
  SpecL prog 239 #[.int .u32 a] M [] λv _ _=>v=.bool false:=by
 refine sB func239 ntmps239 ?_;intro W;refine gr ?_;simp
theorem wCi(a b:Int)(M:Mem):
  SpecL prog 158 #[.int .u32 a,.int .u32 b] M [] λv _ _=>v=.int .i64 (Lh a b):=by
 refine sB func158 ntmps158 ?_;intro W;refine gq (wBc _ M) ?_;refine gQ (wBc _ M) ?_;refine gj (λd=>?_) λd=>?_
 ·refine gr ?_;grind[Lh]
 refine gj (λc=>?_) λc=>?_
 ·refine gr ?_;grind[Lh]
 refine gr ?_;grind[Lh]
theorem wUa(b:Nat)(xs:List Int)(h:xs.length<=1000)(M:Mem):
  SpecL prog 156 #[.slice (some ⟨b,0,none⟩) xs.length xs.length] M [(b,cE (Al xs) 3)] λv _ L'=>v=.int .i64 (wZb xs)/\L'=[]:=by
 refine sB func156 ntmps156 ?_;intro W;refine gh ?_;refine CC (α:=Nat) (λk=>[(3,.int .i64 0),(6,.slice (some ⟨b,0,none⟩) xs.length xs.length),(7,.int .i64 xs.length),(8,.int .i64 k)]) (λ_=>M) (λ_=>[(b,cE (Al xs) 3)]) (λk=>k<=xs.length/\wZb xs=wZb (xs.drop k)) (λk=>xs.length-k) 0 ⟨Nat.zero_le _,rfl⟩ ?_;rintro k ⟨g,d⟩;try dsimp only at g d⊢
 refine gj (λe=>?_) λe=>?_
 ·refine gh ?_;have c:k<xs.length:=by omega
  have f:xs.drop k=xs[k]::xs.drop (k+1):=List.drop_eq_getElem_cons c;refine gh ?_;refine lq (Au rfl rfl rfl rfl (CJ.loc (v:=.int .i64 xs[k]) (by simp[Al,c]))) ?_;refine gj (λa=>?_) λa=>?_
  ·refine gh ?_;refine AB (L':=[]) (by simp) ?_;refine gr ?_;exact⟨by rw[d,f];show _=Value.int _ (if _ then _ else _);rw[if_pos (by simpa using a)],rfl⟩
  refine gh ?_;refine BD (k+1) ⟨by omega,?_⟩;rw[d,f];show (if _ then _ else _)=_;rw[if_neg (by simpa using a)]
 refine gh ?_;refine AB (L':=[]) (by simp) ?_;refine gr ?_;exact⟨by rw[d,drop_eq_nil_of_le (by omega)];rfl,rfl⟩
theorem or3(b:Nat)(x y z:Int)(M:Mem):SpecL prog 156 #[.slice (some ⟨b,0,none⟩) 3 3] M [(b,cE [.int .i64 x,.int .i64 y,.int .i64 z] 3)] λv _ a=>v=.int .i64 (wZb [x,y,z])/\a=[]:=wUa b [x,y,z] (by simp) M
theorem Ck(a b:Ky)(M:Mem):
  SpecL prog 89 #[.agg (AA a).toArray,.agg (AA b).toArray] M [] λv _ _=>v=.bool (Ap a b):=by
 refine sB func89 ntmps89 ?_;intro W;refine Ke λf e=>?_;refine QQ [0,1,2,3,4,5,6,7,8,9,10,11,12,13,14,115,116,17,18] ?_;refine gq (UK _ _ M) ?_;refine gq (wCi _ _ M) ?_;refine gq (wCi _ _ M) ?_;refine GP rfl rfl rfl (Ab (cs:=[_,_,_]) rfl rfl rfl (by rfl) (by rfl) (by rfl)) ?_;rintro _ _ _ ⟨d,rfl,rfl,rfl⟩;refine Cv (MLe.refl _) (λ_ h=>List.mem_cons_of_mem _ h) (MLe.refl _) (λ_ h=>h) ?_;refine GP rfl rfl rfl (BV rfl rfl rfl rfl rfl (by kernel_rfl) (or3 d (Lh a.kind b.kind) (Lh a.id b.id) (Lh a.off b.off) M)) ?_;rintro _ g _ ⟨c,_,rfl,⟨rfl,rfl⟩⟩;refine⟨_,_,MLe.refl _,c,λ_ h=>h,λ_ h=>h,?_⟩;refine gr ?_;grind[wNf]
structure It where
 key:Ky
 ref:Int
 val:List By
 deriving DecidableEq,Repr
def IR(M:Mem)(cs:List Value)(x:It):Prop:=∃s,cs=[.int .u8 x.key.kind,.int .u32 x.key.id,.int .u32 x.key.off,.int .i64 x.ref,s]/\BS M s x.val
def BB(x:It):Bool:=decide (x.ref≠0/\(x.ref<8\/256<=x.ref)\/12<x.val.length)
def Cd(x:It):Int:=if BB x then 8 else 0
def AD(xs:List By):ByteArray:=⟨xs.toArray⟩
theorem NN(bs:ByteArray):∀(n i:Nat)(r:List UInt8),bs.size-i=n->ByteArray.toList.loop bs i r=r.reverse++bs.data.toList.drop i
 |0,i,r,h=>by
  unfold ByteArray.toList.loop;rw[if_neg (by omega),drop_eq_nil_of_le (by have:bs.data.toList.length=bs.size:=rfl;omega),List.append_nil]
 |n+1,i,r,h=>by
  unfold ByteArray.toList.loop;have a:i<bs.data.toList.length:=by have:bs.data.toList.length=bs.size:=rfl;omega
  rw[if_pos (by omega),NN bs n (i+1) _ (by omega),List.drop_eq_getElem_cons a,List.reverse_cons,List.append_assoc];congr 2;show [bs.data[i]!]++_=_;rw[getElem!_pos bs.data i (by simpa using a)];rfl
theorem Vs(xs:List By):(AD xs).toList=xs:=by
 unfold ByteArray.toList;rw[NN _ _ 0 [] rfl];rfl
theorem Lu(xs a:List By):((AD xs).toList==(AD a).toList)=decide (xs=a):=by
 grind[Vs]
theorem BT(xs:List By):strOfNums (xs.map λb=>(b.toNat:Int))=AD xs:=by
 unfold strOfNums AD;congr 2;rw[map_map];conv=>rhs;rw[<-List.map_id xs]
 apply List.map_congr_left;simp_all
theorem Zz(u v:Value)(xs a:List By)(M:Mem)(f:BS M u xs)(e:BS M v a):
  SpecL prog 235 #[u,v] M [] λr _ _=>r=.bool (decide (xs=a)):=by
 obtain⟨j,h,rfl,-,d⟩:=f;obtain⟨i,g,rfl,-,c⟩:=e;refine sB func235 ntmps235 ?_;intro W;refine gh ?_;refine lq (Bh (Qd (xs:=xs.map λb=>(b.toNat:Int)) rfl rfl rfl (by simp) (by simpa [Aa,map_map,Function.comp_def]using d.sj _)) (v':=.string (AD xs)) (by rw[BT])) ?_;refine gh ?_;refine lq (Bh (Qd (xs:=a.map λb=>(b.toNat:Int)) rfl rfl rfl (by simp) (by simpa [Aa,map_map,Function.comp_def]using c.sj _)) (v':=.string (AD a)) (by rw[BT])) ?_;refine lq (Bh (qP rfl rfl) (v':=.bool (decide (xs=a))) (congrArg _ (Lu xs a))) ?_;refine gr ?_;rfl
theorem Ed(a b:Ky):decide ([a.kind,a.id,a.off]=[b.kind,b.id,b.off])=decide (a=b):=by
 apply decide_eq_decide.2;constructor
 ·intro h;cases a;cases b;simp at h;simp[h]
 grind
theorem Own.ofBuf(b:Nat):Own (.slice (some ⟨b,0,none⟩) 0 0) [(b,cE ([]:List Value) 5)] 5 1 0 []:=⟨rfl,.inr ⟨b,0,#[],rfl,rfl,by omega,by decide,rfl,rfl⟩⟩
theorem ZX(c:Nat)(M:Mem):
  SpecL prog 81 #[.slice none 0 c] M [] λv _ a=>Own v a 5 1 0 []:=by
 refine sB func81 ntmps81 ?_;intro W;refine gh ?_;refine lq (Bh (Sf rfl rfl rfl rfl) (v':=.bool true) (by simp)) ?_;refine gr ?_;grind[Own.nil]
theorem XH(b:Addr)(c:Nat)(M:Mem):
  SpecL prog 81 #[.slice (some b) 0 c] M [] λv _ d=>Own v d 5 1 0 []:=by
 refine sB func81 ntmps81 ?_;intro W;refine gh ?_;refine lq (Bh (Sf rfl rfl rfl rfl) (v':=.bool false) (by simp)) ?_;refine gh ?_;refine lh (Ab (z:=[.int .u8 0]) (cs:=[]) rfl rfl rfl (by rfl) (by rfl) (by rfl)) ?_;rintro _ _ _ ⟨a,rfl,rfl,rfl⟩;refine gh ?_;refine lh (L7 rfl rfl rfl rfl (Own.ofBuf a)) ?_;rintro _ _ _ ⟨rfl,rfl,rfl⟩;refine jp rfl ?_;refine Ai (jT (Bq ?_));refine FX rfl rfl ?_;exact Own.ofBuf a
theorem XI(b off c:Nat)(xs:List By)(M:Mem)(d:∀i v,(Aa xs)[i]? =some v->CM M b (off+i) v)(j:xs.length<=100000):
  SpecL prog 81 #[.slice (some ⟨b,off,none⟩) xs.length c] M [] λv _ g=>Own v g 5 1 xs.length (Aa xs):=by
 refine sB func81 ntmps81 ?_;intro W;refine gh ?_;refine lq (Bh (Sf rfl rfl rfl rfl) (v':=.bool false) (by simp)) ?_;refine gh ?_;refine lh (Ab (z:=[.int .u8 0]) (cs:=[]) rfl rfl rfl (by rfl) (by rfl) (by rfl)) ?_;rintro _ _ _ ⟨f,rfl,rfl,rfl⟩;refine gh ?_;refine lh (AY (n:=0) (xs:=[]) (news:=Aa xs) rfl rfl rfl rfl (Own.ofBuf f) (by rw[Ad];omega) (λi v e=>(d i v e).cj _) rfl rfl (BM xs) (by omega) (by decide)) ?_;rintro h _ _ ⟨rfl,k,rfl,a,_⟩;refine jp rfl ?_;refine Ai (jT (Bq ?_));refine FX rfl rfl ?_;grind
theorem B6(v:Value)(xs:List By)(M:Mem)(h:BS M v xs)(k:xs.length<=100000):SpecL prog 81 #[v] M [] λu _ i=>Own u i 5 1 xs.length (Aa xs):=by
 obtain⟨a,c,rfl,-,g⟩:=h;cases a with
 |none=>
  have d:xs=[]:=by
   rcases g with h|⟨b,f,h,_⟩
   ·grind [Ad]
   grind
  subst d
  exact ZX c M
 |some a=>
  by_cases d:xs=[]
  ·subst d;exact XH a c M
  obtain⟨b,f,e,j⟩:=g.open (by intro e;have:=congrArg length e;rw[Ad]at this;exact d (List.eq_nil_of_length_eq_zero this))
  grind[XI]
theorem Yj(c:Nat)(M:Mem):
  SpecL prog 198 #[.slice none 0 c] M [] λv _ a=>Own v a 5 1 0 []:=by
 refine sB func198 ntmps198 ?_;intro W;refine gh ?_;refine lq (Bh (Sf rfl rfl rfl rfl) (v':=.bool true) (by simp)) ?_;refine gr ?_;grind[Own.nil]
theorem VB(b:Addr)(c:Nat)(M:Mem):
  SpecL prog 198 #[.slice (some b) 0 c] M [] λv _ d=>Own v d 5 1 0 []:=by
 refine sB func198 ntmps198 ?_;intro W;refine gh ?_;refine lq (Bh (Sf rfl rfl rfl rfl) (v':=.bool false) (by simp)) ?_;refine gh ?_;refine lh (Ab (z:=[.int .u8 0]) (cs:=[]) rfl rfl rfl (by rfl) (by rfl) (by rfl)) ?_;rintro _ _ _ ⟨a,rfl,rfl,rfl⟩;refine gh ?_;refine lh (L7 rfl rfl rfl rfl (Own.ofBuf a)) ?_;rintro _ _ _ ⟨rfl,rfl,rfl⟩;refine jp rfl ?_;refine Ai (jT (Bq ?_));refine FX rfl rfl ?_;exact Own.ofBuf a
theorem VC(b off c:Nat)(xs:List By)(M:Mem)(d:∀i v,(Aa xs)[i]? =some v->CM M b (off+i) v)(j:xs.length<=100000):
  SpecL prog 198 #[.slice (some ⟨b,off,none⟩) xs.length c] M [] λv _ g=>Own v g 5 1 xs.length (Aa xs):=by
 refine sB func198 ntmps198 ?_;intro W;refine gh ?_;refine lq (Bh (Sf rfl rfl rfl rfl) (v':=.bool false) (by simp)) ?_;refine gh ?_;refine lh (Ab (z:=[.int .u8 0]) (cs:=[]) rfl rfl rfl (by rfl) (by rfl) (by rfl)) ?_;rintro _ _ _ ⟨f,rfl,rfl,rfl⟩;refine gh ?_;refine lh (AY (n:=0) (xs:=[]) (news:=Aa xs) rfl rfl rfl rfl (Own.ofBuf f) (by rw[Ad];omega) (λi v e=>(d i v e).cj _) rfl rfl (BM xs) (by omega) (by decide)) ?_;rintro h _ _ ⟨rfl,k,rfl,a,_⟩;refine jp rfl ?_;refine Ai (jT (Bq ?_));refine FX rfl rfl ?_;grind
theorem ET(v:Value)(xs:List By)(M:Mem)(h:BS M v xs)(k:xs.length<=100000):SpecL prog 198 #[v] M [] λu _ i=>Own u i 5 1 xs.length (Aa xs):=by
 obtain⟨a,c,rfl,-,g⟩:=h;cases a with
 |none=>
  have d:xs=[]:=by
   rcases g with h|⟨b,f,h,_⟩
   ·grind [Ad]
   grind
  subst d
  exact Yj c M
 |some a=>
  by_cases d:xs=[]
  ·subst d;exact VB a c M
  obtain⟨b,f,e,j⟩:=g.open (by intro e;have:=congrArg length e;rw[Ad]at this;exact d (List.eq_nil_of_length_eq_zero this))
  grind[VC]
theorem CT(x:It)(s:Value)(M:Mem)(hs:BS M s x.val):
  SpecL prog 88 #[.agg #[.int .u8 x.key.kind,.int .u32 x.key.id,.int .u32 x.key.off,.int .i64 x.ref,s]] M [] λv _ _=>v=.int .i64 (Cd x):=by
 obtain⟨a,c,rfl,-,-⟩:=hs;refine sB func88 ntmps88 ?_;intro W;refine gA λg=>?_;refine gj (λf=>?_) λf=>?_
 ·refine gj (λe=>?_) λe=>?_
  ·refine gr ?_;grind[Cd,BB]
  refine gj (λd=>?_) λd=>?_
  ·refine gr ?_;grind[Cd,BB]
  refine gj (λb=>?_) λb=>?_
  ·refine gr ?_;grind[Cd,BB]
  refine gr ?_;grind[Cd,BB]
 refine gj (λb=>?_) λb=>?_
 ·refine gr ?_;grind[Cd,BB]
 refine gr ?_;grind[Cd,BB]
theorem WF(x y:It)(s t:Value)(M:Mem)(h:BS M s x.val)(g:BS M t y.val):
  SpecL prog 154 #[.agg #[.int .u8 x.key.kind,.int .u32 x.key.id,.int .u32 x.key.off,.int .i64 x.ref,s],.agg #[.int .u8 y.key.kind,.int .u32 y.key.id,.int .u32 y.key.off,.int .i64 y.ref,t]] M [] λv _ _=>v=.bool (decide (x=y)):=by
 refine sB func154 ntmps154 ?_;intro W;refine Mo λj i=>?_;refine BP rfl rfl (wYu (ns:=[x.key.kind,x.key.id,x.key.off]) (ms:=[y.key.kind,y.key.id,y.key.off]) rfl rfl rfl rfl rfl rfl ⟨rfl,rfl⟩) (λc=>?_) (λc=>?_)
 ·refine gj (λb=>?_) λb=>?_
  ·refine gq (Zz s t x.val y.val M h g) ?_;refine gr ?_;rw[Ed]at c;refine congrArg _ (decide_eq_decide.2 ⟨λd=>?_,λe=>by rw[e]⟩);have f:=of_decide_eq_true c;cases x;cases y;simp only at f d b;subst f d b;rfl
  refine gr ?_;have a:x≠y:=by grind
  simp[a]
 refine gr ?_;have a:x≠y:=by grind
 simp[a]
theorem wDe(x:It)(s:Value)(M:Mem)(hs:BS M s x.val)(f:x.val.length<=100000):
  SpecL prog 295 #[.agg #[.int .u8 x.key.kind,.int .u32 x.key.id,.int .u32 x.key.off,.int .i64 x.ref,s]] M [] λv k l=>∃e,v=.agg e.toArray/\IR (Cn M k) e x/\l=[]:=by
 refine sB func295 ntmps295 ?_;intro W;refine Ke λn m=>?_;refine gC (B6 s x.val M hs f) ?_;rintro _ u _ d b;refine Ui b (by simp) ?_;intro o j i g h c a;subst h;replace a:=a.mono (FJ d);refine gr ?_;exact⟨_,rfl,⟨_,rfl,j,i,rfl,c,a⟩,rfl⟩
def bw{α:Type}(xs:List α)(k:Nat):List (α×Nat):=(xs.zipIdx.drop k).reverse
variable{α:Type}
theorem RO(xs:List α):bw xs xs.length=[]:=by simp_all [bw]
variable{k:Nat}
theorem EP(xs:List α)(h:k<xs.length):bw xs k=bw xs (k+1)++[(xs[k],k)]:=by
 unfold bw;rw[List.drop_eq_getElem_cons (by simpa using h),List.reverse_cons];simp
theorem C3(xs:List α)(k:Nat):bw xs k<+:bw xs 0:=by
 unfold bw;rw[List.drop_zero];exact List.reverse_prefix.2 (List.drop_suffix k _)
theorem JB(xs:List α):(bw xs 0).map (·.1)=xs.reverse:=by
 simp_all [bw]
theorem bwb(a:Option Addr)(n c:Nat)(M:Mem):
  SpecL prog 280 #[.slice a n c] M [] λu f g=>∃b,u=.func (.func 324) #[] #[pB b]/\f b=some (.cells #[.slice a n c] 26 (0,0))/\g=[]:=by
 refine sB func280 ntmps280 ?_;intro W;refine gh ?_;refine lh (Bt (cs:=[.slice a n c]) rfl rfl rfl rfl) ?_;rintro _ _ _ ⟨e,rfl,rfl,rfl⟩;refine gh ?_;refine AF e (by simp) ?_;intro i d h;refine gr ?_;grind
theorem wRn(b:Nat)(s:Option Addr)(c:Nat)(xs:List (By))(M:Mem)(H:M b=some (.cells #[.slice s xs.length c] 26 (0,0)))(hs:SM M s (Aa xs))(Q:xs.length<=1000000)(l:Nat)(J E:List (By×Nat)->Mem->Lc->Prop)(g:Mem)(B:Lc)(C:MLe M g)(I:∀a y M2 L2,MLe g M2->J a M2 L2->a++[y]<+:bw xs 0->Em prog l ((λp:By×Nat=>[.int .i64 p.2,.int .u8 p.1.toNat]) y).toArray M2 L2 λv j L'=>(v=.bool true/\J (a++[y]) j L')\/(v=.bool false/\E (a++[y]) j L'))(K:J [] g B):
  SpecL prog 324 #[.func (.yield l) #[] #[],pB b] g B λ_ j L'=>J (bw xs 0) j L'\/∃a,a<+:bw xs 0/\E a j L':=by
 have n:∀{M2:Mem}(L:Lc),MLe g M2->CJ M2 L b 0 (.slice s xs.length c):=λL h=>(CM.cj ⟨_,_,_,h _ _ (C _ _ H),rfl⟩ L);refine sB func324 ntmps324 ?_;intro W;refine gh ?_;refine lq (Au rfl rfl rfl rfl (n _ (MLe.refl _))) ?_;refine gh ?_;refine CC (α:=Int×Mem×Lc) (λx=>[(0,.func (.yield l) #[] #[]),(1,pB b),(3,.int .i64 x.1)]) (λx=>x.2.1) (λx=>x.2.2) (λx=> -1<=x.1/\x.1<xs.length/\MLe g x.2.1/\J (bw xs (x.1+1).toNat) x.2.1 x.2.2) (λx=>(x.1+1).toNat) ((xs.length:Int)-1,g,B) ⟨by show -1<=(xs.length:Int)-1;omega,by show (xs.length:Int)-1<xs.length;omega,MLe.refl _,by show J (bw xs ((xs.length:Int)-1+1).toNat) _ _;rw[show ((xs.length:Int)-1+1).toNat=xs.length by omega,RO];exact K⟩ ?_;rintro⟨i,N,O⟩ ⟨u,G,d,o⟩;try dsimp only at u G d o⊢
 refine gj (λw=>?_) λw=>?_
 ·refine gh ?_;obtain⟨k,rfl⟩:∃k:Nat,i=k:=⟨i.toNat,by omega⟩;have f:k<xs.length:=by omega
  obtain⟨sb,P,rfl,F⟩:=hs.open (by intro e;have:=congrArg length e;rw[Ad,length_nil]at this;omega);refine lq (Au rfl rfl rfl rfl (n _ d)) ?_;refine gh ?_;refine lq (Bh (Au rfl rfl rfl rfl (((F (((k:Nat):Int).toNat*1) (.int .u8 xs[k].toNat) (by simp[Aa,f])).mono (C.trans d)).cj _)) (v':=.int .u8 xs[k].toNat) rfl) ?_;refine lh (K4 rfl rfl rfl rfl (I (bw xs (k+1)) (xs[k],k) N O d (by rwa[show ((k:Int)+1).toNat=k+1 by omega]at o) (by rw[<-EP xs f];exact C3 xs k))) ?_;rintro _ j _ ⟨z,D,rfl,m⟩;rw[<-EP xs f]at m;rcases m with⟨rfl,m⟩|⟨rfl,m⟩
  ·refine gh ?_;refine BD ((k:Int)-1,j,D) ⟨by show -1<=(k:Int)-1;omega,by show (k:Int)-1<xs.length;omega,d.trans z,by show J (bw xs ((k:Int)-1+1).toNat) _ _;rw[show ((k:Int)-1+1).toNat=k by omega];exact m⟩
  refine gh ?_;refine AB (L':=D) (by simp) ?_;refine Pi (rs:=[]) rfl .nil ?_;grind[C3]
 refine gh ?_;refine YU ?_;refine Pi (rs:=[]) rfl .nil ?_;grind
theorem XF(b:Nat)(a:Option Addr)(c:Nat)(xs:List (By))(M:Mem)(e:M b=some (.cells #[.slice a xs.length c] 26 (0,0)))(hs:SM M a (Aa xs))(d:xs.length<=1000000):
  Iter prog 324 [pB b] M (λp:By×Nat=>[.int .i64 p.2,.int .u8 p.1.toNat]) (bw xs 0):=
 λl J k i j f g h=>wRn b a c xs M e hs d  l J k i j f g h
def Ei(ys:List By):Int:=ys.foldl (λn x=>ND .u32 (MK .u32 n 8) (x.toNat:Int)) 0
def Eu(xs:List By)(at_ n:Nat):Int:=Ei ((xs.drop at_).take n).reverse
theorem Fv(a:List By)(y:By):Ei (a++[y])=ND .u32 (MK .u32 (Ei a) 8) (y.toNat:Int):=by simp[Ei]
theorem wCk(a b:Int):0<=ND .u32 a b/\ND .u32 a b<4294967296:=by
 unfold ND;rw[IntKind.wrap_u32];omega
theorem Q4(a:List By):0<=Ei a/\Ei a<4294967296:=by
 rcases List.eq_nil_or_concat a with rfl|⟨zs,z,rfl⟩
 ·decide
 simp_all [Fv,wCk]
variable{M:Mem}{b:Nat}{xs:List By}
theorem SM.sub{off:Nat}(l k:Nat)(h:∀i v,(Aa xs)[i]? =some v->CM M b (off+i) v):∀i v,(Aa ((xs.drop l).take k))[i]? =some v->CM M b (off+l*1+i) v:=λi v a=>by
 have:=h (l+i) v (by
  simp only[Aa,List.getElem?_map,List.getElem?_take,List.getElem?_drop]at a⊢
  split at a
  ·exact a
  simp at a)
 rwa[show off+l*1+i=off+(l+i)by omega]
theorem WY(s:Option Addr)(c:Nat)(xs:List By)(a m:Nat)(M:Mem)(hs:SM M s (Aa xs))(K:xs.length<=c)(h:a+m<=xs.length)(J:0<m)(I:xs.length<=1000000):
  SpecL prog 234 #[.slice s xs.length c,.int .i64 a,.int .i64 m] M [] λv _ H=>v=.tuple #[.int .u32 (Eu xs a m),.int .i64 0]/\H=[]:=by
 obtain⟨sb,z,D,B⟩:=hs.open (by intro e;have:=congrArg length e;rw[Ad,length_nil]at this;omega);subst D;have f:((xs.drop a).take m).length=m:=by grind
 refine sB func234 ntmps234 ?_;intro W;refine gA λw=>?_;refine gt ?_;refine lq (Bh (CL rfl rfl rfl (.no _) (.of (v:=a+m) rfl (by omega) (by omega)) (.of (v:=a) rfl (by omega) (by omega)) (by omega) (by simp)) (v':=.slice (some ⟨sb,z+a*1,none⟩) ((xs.drop a).take m).length (c-a)) (by rw[AH (by omega),f,Nat.add_sub_cancel_left])) ?_;refine gC (bwb _ _ _ M) ?_;rintro _ G _ j ⟨o,rfl,n,rfl⟩;refine gh ?_;refine Ef (R:=[(w,cE [.int .u32 0] 29)]) (xs:=bw ((xs.drop a).take m) 0) (enc:=(λp:By×Nat=>[.int .i64 p.2,.int .u8 p.1.toNat])) (ps:=[27,28]) rfl (by kernel_rfl) (XF o _ _ ((xs.drop a).take m) G n (.inr ⟨_,_,rfl,λi v C=>(SM.sub a m B i v C).mono j⟩) (by omega))
  (λb _ R=>R=[(w,cE [.int .u32 (Ei (b.map (·.1)))] 29)])
  (λ_ _ _ _=>False)
  (λ_=>rfl) (by decide) rfl ?_ ?_ ?_
 ·intro l L b y F E g k u;subst k;refine gh ?_;refine jK λN=>?_;refine gh ?_;refine lq (DR rfl rfl rfl rfl (by omega) rfl) ?_;refine gh ?_;refine lq (ED rfl rfl rfl (by rw[IntKind.wrap_u32];have:=y.1.toNat_lt;omega)) ?_;refine lq (EW rfl rfl rfl rfl rfl) ?_;refine gh ?_;refine wJi ?_;grind[Fv]
 ·intro d F E g k;subst k;refine gh ?_;refine Bu (L2:=_) (List.Perm.refl _) ?_;refine gr ?_;exact⟨by rw[JB];rfl,rfl⟩
 grind
theorem CV(b:Option Addr)(c:Nat)(xs:List By)(a:Nat)(M:Mem)(hs:SM M b (Aa xs))(e:xs.length<=c)(h:a+4<=xs.length)(d:xs.length<=1000000):
  SpecL prog 153 #[.slice b xs.length c,.int .i64 a] M [] λv _ _=>v=.tuple #[.int .u32 (Eu xs a 4),.int .i64 0]:=by
 refine sB func153 ntmps153 ?_;intro W;refine gc (WY b c xs a 4 M hs e h (by omega) d) ?_;rintro _ _ _ rfl;refine gr ?_;rfl
theorem Gj(b:Option Addr)(c:Nat)(xs:List By)(a:Nat)(M:Mem)(hs:SM M b (Aa xs))(f:xs.length<=c)(h:a+2<=xs.length)(e:xs.length<=1000000):
  SpecL prog 152 #[.slice b xs.length c,.int .i64 a] M [] λv _ _=>v=.tuple #[.int .i64 (Eu xs a 2),.int .i64 0]:=by
 refine sB func152 ntmps152 ?_;intro W;refine gc (WY b c xs a 2 M hs f h (by omega) e) ?_;rintro _ _ _ rfl;have d:=Q4 ((xs.drop a).take 2).reverse;change 0<=Eu xs a 2/\Eu xs a 2<4294967296 at d;refine gh ?_;refine lq (C7 rfl rfl rfl (by omega)) ?_;refine gr ?_;rfl
def fstep(s:Int):Int:=U2 .u32 (D6 .u32 s 1) (IntKind.u32.wrap (3988292384*ZY .u32 s 1))
def Zq:Nat->Int->Int
 |0,s=>s
 |k+1,s=>fstep (Zq k s)
def GU(k:Nat):List Int:=(range k).map (λi:Nat=>Zq 4 (i:Int))++replicate (16-k) 0
def Dh(xs:List Int):List Value:=xs.map (Value.int .u32)
theorem Ra(h:k<=16):(GU k).length=16:=by grind[GU]
theorem wHc(h:k<16)(o:Nat)(b:o=k):(Dh (GU k)).take o++[Value.int .u32 (Zq 4 k)]++(Dh (GU k)).drop (o+[Value.int .u32 (Zq 4 k)].length)=Dh (GU (k+1)):=by
 subst b;have a:((range o).map (λi:Nat=>Zq 4 (i:Int))).length=o:=by simp
 have d:(GU o).take o=(range o).map (λi:Nat=>Zq 4 (i:Int)):=by grind[GU]
 have c:(GU o).drop (o+1)=replicate (16-(o+1)) 0:=by
  unfold GU;rw[List.drop_append,drop_eq_nil_of_le (by omega),a,List.nil_append,List.drop_replicate];grind
 simp only[Dh,<-List.map_take,<-map_drop,List.length_singleton,d,c];unfold GU;rw[List.range_succ];simp
theorem wHf(M:Mem):
  SpecL prog 296 #[] M [] λv _ _=>v=.agg (Dh (GU 16)).toArray:=by
 refine sB func296 ntmps296 ?_;intro W;refine ga λb=>?_;refine CC (α:=Nat) (λk=>[(0,pB b),(3,.int .i64 k)]) (λ_=>M) (λk=>[(b,cE (Dh (GU k)) 402)]) (λk=>k<=16) (λk=>16-k) 0 (by omega) ?_ (hs:=λw h=>by rw[show Dh (GU 0)=replicate 16 (Value.int .u32 0)from rfl];exact h);rintro k d;try dsimp only at d⊢
 refine gj (λl=>?_) λl=>?_
 ·refine gh ?_;refine lq (ED rfl rfl rfl (by rw[IntKind.wrap_u32];omega)) ?_;refine gh ?_;refine CC (α:=Nat) (λj=>[(0,pB b),(1,.int .i64 k),(2,.int .u32 (Zq j k)),(3,.int .i64 k),(8,.int .i64 j)]) (λ_=>M) (λ_=>[(b,cE (Dh (GU k)) 402)]) (λj=>j<=4) (λj=>4-j) 0 (by omega) ?_;rintro j e;try dsimp only at e⊢
  refine gj (λg=>?_) λg=>?_
  ·refine gh ?_;refine lq (DR rfl rfl rfl rfl (by omega) rfl) ?_;refine gh ?_;refine lq (EW rfl rfl rfl rfl rfl) ?_;refine lq (qP rfl rfl) ?_;refine lq (EW rfl rfl rfl rfl rfl) ?_;refine gh ?_;refine BD (j+1) (by omega)
  refine gh ?_;refine lq (F7 rfl rfl rfl rfl (by omega)) ?_;have f:=Ra (k:=k) (by omega);obtain rfl:j=4:=by omega
  refine DE rfl (Ns rfl rfl rfl rfl rfl rfl (by simp[Value.oneCell']) (by simp only[Dh,length_map,List.length_cons,length_nil];omega)) ?_;rintro _ _ _ ⟨rfl,rfl⟩;rw[wHc (k:=k) (by omega) _ (by omega)];refine gh ?_;refine BD (k+1) (by omega)
 refine gh ?_;obtain rfl:k=16:=by omega
 have a:(Dh (GU 16)).length=16:=by grind[Dh,Ra]
 refine lq (A1 (cs:=Dh (GU 16)) rfl rfl rfl rfl a (λi v c=>CJ.loc (by simpa using c))) ?_;refine DE rfl (Kc rfl rfl rfl rfl a (λv c=>by obtain⟨n,_,rfl⟩:=List.mem_map.1 c;rfl) a) ?_;rintro _ _ _ ⟨rfl,rfl⟩;refine gh ?_;refine zd ([]) rfl ?_;rfl
def ftabV:List Int:=[0,498536548,997073096,651767980,1994146192,1802195444,1303535960,1342533948,3988292384,4027552580,3604390888,3412177804,2607071920,2262029012,2685067896,3183342108]
theorem wPv:GU 16=ftabV:=by decide +kernel
def wKe(i:Int):Int:=ftabV.getD i.toNat 0
def wWx(s:Int):Int:=U2 .u32 (D6 .u32 s 4) (wKe (ZY .u32 s 15))
def wMc(s:Int)(x:By):Int:=wWx (wWx (U2 .u32 s (x.toNat:Int)))
def Qr(xs:List By):Int:=xs.foldl wMc 4294967295
def Kq(xs:List By):Int:=U2 .u32 4294967295 (Qr xs)
theorem PI(s:Int):0<=ZY .u32 s 15/\ZY .u32 s 15<16:=by
 unfold ZY;rw[IntKind.wrap_u32];have h:(BitVec.ofInt IntKind.u32.bits s &&& BitVec.ofInt IntKind.u32.bits 15).toNat<=15:=by
  rw[BitVec.toNat_and];exact Nat.and_le_right
 omega
variable{i:Int}
theorem Z7(h:0<=i/\i<16):(Dh (GU 16))[0+i.toNat*1]? =some (.int .u32 (wKe i)):=by
 rw[wPv,Nat.zero_add,Nat.mul_one];have:i.toNat<ftabV.length:=by simp_all [ftabV]
 grind[Dh,wKe]
theorem T5(d:Option Addr)(c:Nat)(xs:List By)(M:Mem)(hs:SM M d (Aa xs))(o:xs.length<=1000000):
  SpecL prog 240 #[.slice d xs.length c] M [] λv _ _=>v=.int .u32 (Kq xs):=by
 have f:(Dh (GU 16)).length=16:=by grind[Dh,Ra]
 refine sB func240 ntmps240 ?_;intro W;refine gq (wHf M) ?_;refine lh (AX rfl rfl) ?_;rintro _ _ _ ⟨h,rfl,rfl,rfl⟩;refine DE rfl (Kc rfl rfl rfl rfl f (λv i=>by obtain⟨n,_,rfl⟩:=List.mem_map.1 i;rfl) (by rfl)) ?_;rintro _ _ _ ⟨rfl,rfl⟩;refine gh ?_;refine CC (α:=Nat) (λk=>[(3,pB h),(4,.int .u32 (Qr (xs.take k))),(8,.slice d xs.length c),(9,.int .i64 xs.length),(10,.int .i64 k)]) (λ_=>M) (λ_=>[(h,cE (Dh (GU 16)) 402)]) (λk=>k<=xs.length) (λk=>xs.length-k) 0 (Nat.zero_le _) ?_;rintro k hk;try dsimp only at hk⊢
 refine gj (λg=>?_) λg=>?_
 ·refine gh ?_;obtain⟨s,m,l,j⟩:=hs.open (by intro e;have:=congrArg length e;rw[Ad,length_nil]at this;omega);subst l;have b:k<xs.length:=by omega
  refine gh ?_;refine lq (Au rfl rfl rfl rfl ((j (((k:Nat):Int).toNat*1) (.int .u8 xs[k].toNat) (by simp[Aa,b])).cj _)) ?_;refine gh ?_;refine lq (ED rfl rfl rfl (by rw[IntKind.wrap_u32];have:=xs[k].toNat_lt;omega)) ?_;refine lq (EW rfl rfl rfl rfl rfl) ?_;refine gh ?_;refine lq (DR rfl rfl rfl rfl (by omega) rfl) ?_;refine gh ?_;refine lq (EW rfl rfl rfl rfl rfl) ?_;refine lq (F7 rfl rfl rfl rfl (PI _)) ?_;refine lq (Au rfl rfl rfl rfl (CJ.loc (Z7 (PI _)))) ?_;refine lq (EW rfl rfl rfl rfl rfl) ?_;refine gh ?_;refine lq (DR rfl rfl rfl rfl (by omega) rfl) ?_;refine gh ?_;refine lq (EW rfl rfl rfl rfl rfl) ?_;refine lq (F7 rfl rfl rfl rfl (PI _)) ?_;refine lq (Au rfl rfl rfl rfl (CJ.loc (Z7 (PI _)))) ?_;refine lq (EW rfl rfl rfl rfl rfl) ?_;refine gh ?_;have a:Qr (xs.take (k+1))=wMc (Qr (xs.take k)) xs[k]:=by unfold Qr;rw[List.take_succ_eq_append_getElem b,List.foldl_append];rfl
  refine BD (k+1) (by omega) (hk:=(Keep.cons (t:=3) rfl (Keep.ceq (t:=4) rfl (by rw[a];rfl) (Keep.cons (t:=8) rfl (Keep.cons (t:=9) rfl (Keep.cons (t:=10) rfl Keep.nil))))))
 refine gh ?_;refine lq (qNotI rfl rfl rfl) ?_;refine gr ?_;rw[show k=xs.length by omega,List.take_length];rfl
def CO(xs:List By):Int:=if xs.length≠128 then 3 else if Eu xs 0 4≠Kq (xs.drop 4)then 8 else 0
theorem wLu(v:Value)(xs:List By)(M:Mem)(a:BS M v xs)(h:xs.length≠128):
  SpecL prog 232 #[v] M [] λu b L'=>∃s,u=.tuple #[s,.int .i64 (CO xs)]/\(CO xs=0->BS b s (xs.drop 4))/\L'=[]:=by
 obtain⟨d,c,rfl,-,e⟩:=a;have f:CO xs=3:=if_pos h;refine sB func232 ntmps232 ?_;intro W;refine gt ?_;refine AB (L':=[]) (by simp) ?_;refine gr ?_;simp_all
theorem wLw(v:Value)(xs:List By)(M:Mem)(g:BS M v xs)(h:xs.length=128)(j:Eu xs 0 4≠Kq (xs.drop 4)):
  SpecL prog 232 #[v] M [] λu i L'=>∃s,u=.tuple #[s,.int .i64 (CO xs)]/\(CO xs=0->BS i s (xs.drop 4))/\L'=[]:=by
 obtain⟨a,c,rfl,e,f⟩:=g;have b:SM M (HE a 4 c 1) (Aa (xs.drop 4)):=by have:=f.part (l:=4) (m:=c) (s:=1) (by omega) 1000;rwa[show ((Aa xs).drop (4*1)).take 1000=Aa (xs.drop 4)by rw[List.take_of_length_le (by rw[length_drop,Ad];omega)];simp[Aa,map_drop]]at this
 have d:(xs.drop 4).length=124:=by grind
 have k:CO xs=8:=by grind[CO]
 refine sB func232 ntmps232 ?_;intro W;refine gt ?_;refine gQ (CV a c xs 0 M f e (by omega) (by omega)) ?_;refine gt ?_;refine lq (Bh (CL rfl rfl rfl (.no _) (.no _) (.of (v:=4) rfl (by omega) rfl) (by omega) (by simp)) (v':=.slice (HE a 4 c 1) (xs.drop 4).length (c-4)) (by rw[d,h])) ?_;refine gQ (T5 _ _ (xs.drop 4) M b (by omega)) ?_;refine gt ?_;refine AB (L':=[]) (by simp) ?_;refine gr ?_;simp_all
theorem wUc(v:Value)(xs:List By)(M:Mem)(k:BS M v xs)(h:xs.length=128)(D:Eu xs 0 4=Kq (xs.drop 4)):
  SpecL prog 232 #[v] M [] λu C L'=>∃s,u=.tuple #[s,.int .i64 (CO xs)]/\(CO xs=0->BS C s (xs.drop 4))/\L'=[]:=by
 obtain⟨e,c,rfl,g,j⟩:=k;have a:SM M (HE e 4 c 1) (Aa (xs.drop 4)):=by have:=j.part (l:=4) (m:=c) (s:=1) (by omega) 1000;rwa[show ((Aa xs).drop (4*1)).take 1000=Aa (xs.drop 4)by rw[List.take_of_length_le (by rw[length_drop,Ad];omega)];simp[Aa,map_drop]]at this
 have d:(xs.drop 4).length=124:=by grind
 have w:CO xs=0:=by grind[CO]
 refine sB func232 ntmps232 ?_;intro W;refine gt ?_;refine gQ (CV e c xs 0 M j g (by omega) (by omega)) ?_;refine gt ?_;refine lq (Bh (CL rfl rfl rfl (.no _) (.no _) (.of (v:=4) rfl (by omega) rfl) (by omega) (by simp)) (v':=.slice (HE e 4 c 1) (xs.drop 4).length (c-4)) (by rw[d,h])) ?_;refine gQ (T5 _ _ (xs.drop 4) M a (by omega)) ?_;refine gt ?_;refine lq (Bh (CL rfl rfl rfl (.no _) (.no _) (.of (v:=4) rfl (by omega) rfl) (by omega) (by simp)) (v':=.slice (HE e 4 c 1) (xs.drop 4).length (c-4)) (by rw[d,h])) ?_;refine lh (BV rfl rfl rfl rfl rfl (by kernel_rfl) (ET _ (xs.drop 4) M ⟨_,_,rfl,by omega,a⟩ (by omega))) ?_;rintro _ F _ ⟨o,_,rfl,b⟩;refine Hn b (by simp) ?_;intro E B z n y i f;subst y;refine gh ?_;refine AB (L':=[]) (by simp) ?_;refine gr ?_;exact⟨_,by rw[w],λ_=>⟨B,z,rfl,i,f⟩,rfl⟩
theorem J3(v:Value)(xs:List By)(M:Mem)(c:BS M v xs):SpecL prog 232 #[v] M [] λu a b=>∃s,u=.tuple #[s,.int .i64 (CO xs)]/\(CO xs=0->BS a s (xs.drop 4))/\b=[]:=by
 grind[Eu,Kq,wUc,wLw,wLu]
def E7(xs:List By):Nat:=12+(xs.getD 11 0).toNat
def HN(xs:List By):It:=⟨⟨((xs.getD 0 0).toNat:Int),Eu xs 1 4,Eu xs 5 4⟩,Eu xs 9 2,(xs.drop 12).take (E7 xs-12)⟩
def VU(xs:List By):Int:=if xs.length<12 then 8 else if xs.length<E7 xs then 8 else Cd (HN xs)
def zeroIt:List Value:=[.int .u8 0,.int .u32 0,.int .u32 0,.int .i64 0,.slice none 0 0]
variable{j:Nat}
theorem Ca{xs:List By}(h:j<xs.length):(Aa xs)[j]? =some (.int .u8 ((xs.getD j 0).toNat:Int)):=by grind[Aa]
theorem T0{xs:List By}(h:E7 xs<=xs.length):(HN xs).val.length=E7 xs-12:=by
 grind[HN,E7]
theorem wGk(a:Option Addr)(c:Nat)(xs:List By)(M:Mem)(e:xs.length<=c)(hs:SM M a (Aa xs))(d:xs.length<=100000)(h:xs.length<12):
  SpecL prog 233 #[.slice a xs.length c] M [] λv _ b=>v=.tuple #[.agg zeroIt.toArray,.int .i64 0,.int .i64 (8)]/\b=[]:=by
 refine sB func233 ntmps233 ?_;intro W;refine gA λf=>?_;refine gu ?_;exact⟨rfl,rfl⟩
theorem Y4(a:Option Addr)(c:Nat)(xs:List By)(M:Mem)(l:xs.length<=c)(hs:SM M a (Aa xs))(k:xs.length<=100000)(h:¬xs.length<12)(n:xs.length<E7 xs):
  SpecL prog 233 #[.slice a xs.length c] M [] λv _ g=>v=.tuple #[.agg zeroIt.toArray,.int .i64 0,.int .i64 (8)]/\g=[]:=by
 obtain⟨sb,i,f,b⟩:=hs.open (by intro e;have:=congrArg length e;rw[Ad,length_nil]at this;omega);subst f;have d:=(xs.getD 11 0).toNat_lt;have m:E7 xs=12+(xs.getD 11 0).toNat:=rfl;refine sB func233 ntmps233 ?_;intro W;refine gA λo=>?_;refine gt ?_;refine lq (Au rfl rfl rfl rfl ((b ((11:Int).toNat*1) _ (Ca (j:=11) (by omega))).cj _)) ?_;refine lq (C7 rfl rfl rfl (by omega)) ?_;refine gu ?_;exact⟨rfl,rfl⟩
theorem wGm(k:Option Addr)(c:Nat)(xs:List By)(M:Mem)(g:xs.length<=c)(hs:SM M k (Aa xs))(s:xs.length<=100000)(h:¬xs.length<12)(y:¬xs.length<E7 xs)(w:Cd (HN xs)≠0):
  SpecL prog 233 #[.slice k xs.length c] M [] λv _ n=>v=.tuple #[.agg zeroIt.toArray,.int .i64 0,.int .i64 (Cd (HN xs))]/\n=[]:=by
 obtain⟨sb,a,m,b⟩:=hs.open (by intro e;have:=congrArg length e;rw[Ad,length_nil]at this;omega);subst m;have l:=(xs.getD 11 0).toNat_lt;have u:E7 xs=12+(xs.getD 11 0).toNat:=rfl;have d:=T0 (xs:=xs) (by omega);have f:SM M (HE (some ⟨sb,a,none⟩) 12 (E7 xs) 1) (Aa (HN xs).val):=by
   by_cases o:E7 xs=12
   ·left;have:(HN xs).val=[]:=List.eq_nil_of_length_eq_zero (by omega);rw[this];rfl
   rw[AH (by omega)];exact .inr ⟨sb,_,rfl,SM.sub 12 (E7 xs-12) b⟩
 have i:BS M (.slice (HE (some ⟨sb,a,none⟩) 12 (E7 xs) 1) (HN xs).val.length (E7 xs-12)) (HN xs).val:=⟨_,_,rfl,by omega,f⟩;refine sB func233 ntmps233 ?_;intro W;refine gA λz=>?_;refine gt ?_;refine lq (Au rfl rfl rfl rfl ((b ((11:Int).toNat*1) _ (Ca (j:=11) (by omega))).cj _)) ?_;refine lq (C7 rfl rfl rfl (by omega)) ?_;refine gt ?_;refine lq (Au rfl rfl rfl rfl ((b ((0:Int).toNat*1) _ (Ca (j:=0) (by omega))).cj _)) ?_;refine gq (CV _ c xs 1 M hs g (by omega) (by omega)) ?_;refine gq (CV _ c xs 5 M hs g (by omega) (by omega)) ?_;refine gq (Gj _ c xs 9 M hs g (by omega) (by omega)) ?_;refine lq (Bh (CL rfl rfl rfl (.of (v:=E7 xs) rfl (by omega) (by omega)) (.of (v:=E7 xs) rfl (by omega) (by omega)) (.of (v:=12) rfl (by omega) rfl) (by omega) (by simp)) (v':=.slice (HE (some ⟨sb,a,none⟩) 12 (E7 xs) 1) (HN xs).val.length (E7 xs-12)) (by rw[d])) ?_;refine gQ (CT (HN xs) _ M i) ?_;refine gu ?_;exact⟨rfl,rfl⟩
theorem wNt(o:Option Addr)(c:Nat)(xs:List By)(M:Mem)(m:xs.length<=c)(hs:SM M o (Aa xs))(F:xs.length<=100000)(h:¬xs.length<12)(I:¬xs.length<E7 xs)(H:Cd (HN xs)=0):
  SpecL prog 233 #[.slice o xs.length c] M [] λv B C=>∃n,v=.tuple #[.agg n.toArray,.int .i64 (E7 xs),.int .i64 0]/\IR (Cn M B) n (HN xs)/\C=[]:=by
 obtain⟨sb,b,w,d⟩:=hs.open (by intro e;have:=congrArg length e;rw[Ad,length_nil]at this;omega);subst w;have s:=(xs.getD 11 0).toNat_lt;have G:E7 xs=12+(xs.getD 11 0).toNat:=rfl;have f:=T0 (xs:=xs) (by omega);have g:SM M (HE (some ⟨sb,b,none⟩) 12 (E7 xs) 1) (Aa (HN xs).val):=by
   by_cases E:E7 xs=12
   ·left;have:(HN xs).val=[]:=List.eq_nil_of_length_eq_zero (by omega);rw[this];rfl
   rw[AH (by omega)];exact .inr ⟨sb,_,rfl,SM.sub 12 (E7 xs-12) d⟩
 have a:BS M (.slice (HE (some ⟨sb,b,none⟩) 12 (E7 xs) 1) (HN xs).val.length (E7 xs-12)) (HN xs).val:=⟨_,_,rfl,by omega,g⟩;refine sB func233 ntmps233 ?_;intro W;refine gA λJ=>?_;refine gt ?_;refine lq (Au rfl rfl rfl rfl ((d ((11:Int).toNat*1) _ (Ca (j:=11) (by omega))).cj _)) ?_;refine lq (C7 rfl rfl rfl (by omega)) ?_;refine gt ?_;refine lq (Au rfl rfl rfl rfl ((d ((0:Int).toNat*1) _ (Ca (j:=0) (by omega))).cj _)) ?_;refine gq (CV _ c xs 1 M hs m (by omega) (by omega)) ?_;refine gq (CV _ c xs 5 M hs m (by omega) (by omega)) ?_;refine gq (Gj _ c xs 9 M hs m (by omega) (by omega)) ?_;refine lq (Bh (CL rfl rfl rfl (.of (v:=E7 xs) rfl (by omega) (by omega)) (.of (v:=E7 xs) rfl (by omega) (by omega)) (.of (v:=12) rfl (by omega) rfl) (by omega) (by simp)) (v':=.slice (HE (some ⟨sb,b,none⟩) 12 (E7 xs) 1) (HN xs).val.length (E7 xs-12)) (by rw[f])) ?_;refine gQ (CT (HN xs) _ M a) ?_;refine gt ?_;refine gC (wDe (HN xs) _ M a (by omega)) ?_;rintro _ K _ u ⟨n,rfl,k,rfl⟩;obtain⟨D,rfl,z,y,rfl,l,i⟩:=k;refine gr ?_;exact⟨_,rfl,⟨_,rfl,z,y,rfl,l,i⟩,rfl⟩
def mxB(xs:List By):Int:=(xs.drop 1).foldl (λm x=>max m (x.toNat:Int)) ((xs.getD 0 0).toNat:Int)
def mxK(xs:List By)(k:Nat):Int:=((xs.drop 1).take k).foldl (λm x=>max m (x.toNat:Int)) ((xs.getD 0 0).toNat:Int)
variable{k:Nat}
theorem wMr{xs:List By}(h:k+1<xs.length):mxK xs (k+1)=max (mxK xs k) (xs[k+1].toNat:Int):=by
 unfold mxK;rw[List.take_succ_eq_append_getElem (by rw[length_drop];omega),List.foldl_append];grind
theorem mx_le(a:List By):∀m:Int,m<=a.foldl (λm x=>max m (x.toNat:Int)) m/\∀y∈a,(y.toNat:Int)<=a.foldl (λm x=>max m (x.toNat:Int)) m:=by
 induction a with
 |nil=>grind
 |cons y a b=>
  grind
theorem wUk(a:List By)(h:∀y∈a,y=0):a.foldl (λm x=>max m (x.toNat:Int)) 0=0:=by
 induction a with
 |nil=>rfl
 |cons y a b=>simp_all
def Db(xs:List By):Bool:=xs.all (· ==0)
theorem Px{xs:List By}(h:0<xs.length):decide (0<mxB xs)= !Db xs:=by
 obtain⟨x,a,rfl⟩:=List.exists_cons_of_length_pos h;by_cases d:∀y∈x::a,y=0
 ·have i:Db (x::a)=true:=by grind[Db]
  simp_all [mxB,wUk]
 have i:Db (x::a)=false:=by
  rw[Bool.eq_false_iff];intro e;apply d;intro y f;have:=List.all_eq_true.1 e y f;simpa using this
 have k:0<mxB (x::a):=by
  have g:=mx_le a ((x.toNat:Int));unfold mxB;simp only[List.drop_succ_cons,List.drop_zero,List.getD_cons_zero];obtain⟨y,b⟩:=Classical.not_forall.1 d;obtain⟨f,c⟩:=Classical.not_imp.1 b;have j:0<(y.toNat:Int):=by
   have:y.toNat≠0:=λe=>c (UInt8.toNat_inj.1 e);omega
  grind
 grind
theorem Wu(d:Option Addr)(c:Nat)(xs:List By)(M:Mem)(hs:SM M d (Aa xs))(i:xs.length<=1000000)(l:0<xs.length):
  SpecL prog 149 #[.slice d xs.length c] M [] λv _ _=>v=.int .u8 (mxB xs):=by
 obtain⟨sb,g,h,f⟩:=hs.open (by intro e;have:=congrArg length e;rw[Ad,length_nil]at this;omega);subst h;refine sB func149 ntmps149 ?_;intro W;refine gt ?_;refine lq (Au rfl rfl rfl rfl ((f ((0:Int).toNat*1) _ (Ca (j:=0) (by omega))).cj _)) ?_;refine gh ?_;refine CC (α:=Nat) (λk=>[(0,.slice (some ⟨sb,g,none⟩) xs.length c),(3,.int .u8 (mxK xs k)),(4,.int .i64 ((k+1:Nat):Int))]) (λ_=>M) (λ_=>[]) (λk=>k+1<=xs.length) (λk=>xs.length-k) 0 (by omega) ?_;rintro k hk;try dsimp only at hk⊢
 refine gj (λb=>?_) λb=>?_
 ·refine gh ?_;have a:k+1<xs.length:=by omega
  refine gh ?_;refine lq (Au rfl rfl rfl rfl ((f ((((k+1:Nat):Int)).toNat*1) (.int .u8 xs[k+1].toNat) (by simp[Aa,a])).cj _)) ?_;refine lq (wYr rfl rfl rfl rfl) ?_;refine gh ?_;refine BD (k+1) (by omega) (hk:=(Keep.cons (t:=0) rfl (Keep.ceq (t:=3) rfl (by rw[wMr a]) (Keep.cons (t:=4) rfl Keep.nil))))
 refine gr ?_;show Value.int _ (mxK xs k)=_;unfold mxK mxB;rw[List.take_of_length_le (by rw[length_drop];omega)]
def Ae(p:It×Value):List Value:=[.int .u8 p.1.key.kind,.int .u32 p.1.key.id,.int .u32 p.1.key.off,.int .i64 p.1.ref,p.2]
theorem Ag(p:It×Value):(Ae p).length=5:=rfl
def NS(M:Mem)(v:Value)(xs:List It):Prop:=∃a c,∃ps:List (It×Value),v=.slice a xs.length c/\xs.length<=c/\SM M a (ps.flatMap Ae)/\ps.map (·.1)=xs/\∀p∈ps,BS M p.2 p.1.val
variable{M:Mem}{xs:List It}
theorem NS.mono{M':Mem}{v:Value}(h:NS M v xs)(b:MLe M M'):NS M' v xs:=by
 obtain⟨a,c,ps,j,i,g,f,e⟩:=h;exact⟨a,c,ps,j,i,g.mono b,f,λp d=>(e p d).mono b⟩
theorem NS.nil:NS M (.slice none 0 0) []:=⟨none,0,[],rfl,Nat.le_refl _,SM.nil,rfl,λ_ h=>by cases h⟩
def BQ(above:Bool):Option Ky->List It->Bool
 |_,[]=>true
 |p,x::xs=> !BB x&&(match p with|none=>true|some q=>Ap q x.key)&&(!above||(x.ref != 0&&x.val.length==0))&&BQ above (some x.key) xs
def CD(lv:Int)(xs:List It):Bool:=decide (0<=lv/\lv<6/\xs.length<=5/\(0<lv->xs.length≠0))&&BQ (decide (0<lv)) none xs
def C0(lv:Int)(xs:List It):Int:=if CD lv xs then 0 else 8
def EA(xs:List It)(k:Nat):Option Ky:=match k with|0=>none|j+1=>(xs[j]?).map (·.key)
theorem Jg(x:It):(BB x=true/\Cd x=8)\/(BB x=false/\Cd x=0):=by
 grind[Cd,BB]
theorem Wo(lv:Int)(xs:List It)(a:Option Addr)(c:Nat)(ps:List (It×Value))(M:Mem)(j:xs.length<=c)(hs:SM M a (ps.flatMap Ae))(i:ps.map (·.1)=xs)(k:∀p∈ps,BS M p.2 p.1.val)(h:¬(0<=lv/\lv<6/\xs.length<=5/\(0<lv->xs.length≠0))):
  SpecL prog 47 #[.agg #[.int .i64 lv,.slice a xs.length c]] M [] λv _ _=>v=.int .i64 (C0 lv xs):=by
 refine sB func47 ntmps47 ?_;intro W;refine gA λl=>?_;refine gj (λg=>?_) λg=>?_
 ·refine gj (λe=>?_) λe=>?_
  ·refine gr ?_;omega
  refine gj (λd=>?_) λd=>?_
  ·refine gr ?_;grind[C0,CD]
  refine gj (λb=>?_) λb=>?_
  ·refine gr ?_;grind[C0,CD]
  refine gj (λf=>?_) λf=>?_
  ·refine gr ?_;grind[C0,CD]
  omega
 refine gj (λe=>?_) λe=>?_
 ·refine gr ?_;grind[C0,CD]
 refine gj (λd=>?_) λd=>?_
 ·refine gr ?_;omega
 refine gj (λb=>?_) λb=>?_
 ·refine gr ?_;grind[C0,CD]
 omega
theorem Yv(h:k<xs.length):EA xs (k+1)=some xs[k].key:=by grind[EA]
variable{ab:Bool}
theorem LY(h:k<xs.length):BQ ab (EA xs k) (xs.drop k)=(!BB xs[k]&&(match EA xs k with|none=>true|some q=>Ap q xs[k].key)&&(!ab||(xs[k].ref != 0&&xs[k].val.length==0))&&BQ ab (EA xs (k+1)) (xs.drop (k+1))):=by
 rw[List.drop_eq_getElem_cons h,Yv h];rfl
abbrev E1(x:It)(va:Option Addr)(vc:Nat):List Value:=[.int .u8 x.key.kind,.int .u32 x.key.id,.int .u32 x.key.off,.int .i64 x.ref,.slice va x.val.length vc]
variable{ps:List (It×Value)}{sb:Nat}
theorem Aw{e:Nat}(h:∀i u,(ps.flatMap Ae)[i]? =some u->CM M sb (e+i) u)(n:ps.map (·.1)=xs)(m:∀p∈ps,BS M p.2 p.1.val)(hk:k<xs.length):
  ∃c b,(∀i v,(E1 xs[k] c b)[i]? =some v->CM M sb (e+k*5+i) v)/\xs[k].val.length<=b/\SM M c (Aa xs[k].val):=by
 have a:k<ps.length:=by grind
 have d:xs[k]=ps[k].1:=by grind
 obtain⟨c,b,l,g,f⟩:=m ps[k] (List.getElem_mem a);rw[<-d]at l g f;refine⟨c,b,λi v j=>Bs Ae 5 Ag h (show ps[k]? =some ps[k]by simp[a]) i v ?_,g,f⟩;simp_all [Ae,E1]
def Kk(ab:Bool)(xs:List It)(k:Nat)(h:k<xs.length):Bool:= !BB xs[k]&&(match EA xs k with|none=>true|some q=>Ap q xs[k].key)&&(!ab||(xs[k].ref != 0&&xs[k].val.length==0))
variable{lv:Int}
theorem H7(a:decide (0<lv)=ab)(hk:k<xs.length)(c:BQ ab none xs=BQ ab (EA xs k) (xs.drop k))(b:Kk ab xs k hk=false):C0 lv xs=8:=by
 grind[C0,CD,LY,Kk]
theorem wBb(hk:k<xs.length)(b:BQ ab none xs=BQ ab (EA xs k) (xs.drop k))(a:Kk ab xs k hk=true):BQ ab none xs=BQ ab (EA xs (k+1)) (xs.drop (k+1)):=by
 grind[LY,Kk]
theorem wMh(h:0<=lv/\lv<6/\xs.length<=5/\(0<lv->xs.length≠0))(a:decide (0<lv)=ab)(hk:k=xs.length)(b:BQ ab none xs=BQ ab (EA xs k) (xs.drop k)):C0 lv xs=0:=by
 unfold C0 CD;rw[if_pos];rw[a,b,drop_eq_nil_of_le (by omega)];simp only[Bool.and_eq_true,decide_eq_true_eq];exact⟨h,rfl⟩
theorem RR{x:It}(h:Cd x≠0):BB x=true/\Cd x=8:=(Jg x).resolve_right λa=>h a.2
theorem CQ{x:It}(h:Cd x=0):BB x=false:=((Jg x).resolve_left λa=>by rw[a.2]at h;cases h).1
theorem Wn(lv:Int)(xs:List It)(a:Option Addr)(c:Nat)(ps:List (It×Value))(M:Mem)(Q:xs.length<=c)(hs:SM M a (ps.flatMap Ae))(l:ps.map (·.1)=xs)(F:∀p∈ps,BS M p.2 p.1.val)(h:0<=lv/\lv<6/\xs.length<=5/\(0<lv->xs.length≠0))(I:lv=0):
  SpecL prog 47 #[.agg #[.int .i64 lv,.slice a xs.length c]] M [] λv _ _=>v=.int .i64 (C0 lv xs):=by
 have K:decide (0<lv)=false:=by grind
 refine sB func47 ntmps47 ?_;intro W;refine gA λG=>?_;refine gt ?_;refine CC (α:=Nat) (λk=>[(1,pB G),(3,.bool false),(34,.slice a xs.length c),(35,.int .i64 xs.length),(36,.int .i64 k)]) (λ_=>M) (λ_=>[(G,cE [.int .i64 lv,.slice a xs.length c] 81)]) (λk=>k<=xs.length/\BQ false none xs=BQ false (EA xs k) (xs.drop k)) (λk=>xs.length-k) 0 ⟨Nat.zero_le _,rfl⟩ ?_;rintro k ⟨J,u⟩;try dsimp only at J u⊢
 refine gj (λB=>?_) λB=>?_
 ·refine gh ?_;have d:k<xs.length:=by omega
  obtain⟨sb,H,N,E⟩:=hs.open (by intro e;have:=congrArg length e;rw[Aj Ae 5 Ag,length_nil]at this;have L:=congrArg length l;rw[length_map]at L;omega);subst N;obtain⟨D,C,o,g,f⟩:=Aw E l F d;refine gh ?_;refine lq (A1 (cs:=E1 xs[k] D C) rfl rfl rfl rfl rfl (λi v b=>(o i v b).cj _)) ?_;refine ga λR=>?_;refine gQ (CT xs[k] _ M ⟨D,C,rfl,g,f⟩) ?_;refine gj (λz=>?_) λz=>?_
  ·refine gr ?_;grind[RR,H7,Kk]
  refine gh ?_;refine QQ [0,1,2,3,4,5,6,7,8,9,10,11,12,13,14,15,16,17,18,19,20,21,22,23,24,25,26,27,28] ?_;refine gj (λy=>?_) λy=>?_
  ·refine dp rfl rfl ?_;refine dq rfl (Ac rfl rfl rfl rfl rfl) ?_;refine dq rfl (Au rfl rfl rfl rfl (CJ.loc rfl)) ?_;refine dp rfl rfl ?_;refine da rfl rfl (by omega) ?_;obtain⟨j,rfl⟩:∃j,k=j+1:=⟨k-1,by omega⟩;have m:j<xs.length:=by omega
   obtain⟨P,O,s,-,-⟩:=Aw E l F m;refine dq rfl (Bh (EV rfl rfl rfl rfl (by omega)) (v':=.pointer (some ⟨sb,H+j*5,none⟩)) (by congr 3;omega)) ?_;refine gh ?_;refine dq rfl (A1 (cs:=AA xs[j].key) rfl rfl rfl rfl rfl (λi v b=>(s i v (by match i,b with|0,b=>simpa [AA]using b|1,b=>simpa [AA]using b|2,b=>simpa [AA]using b|n+3,b=>simp[AA]at b)).cj _)) ?_;refine gg ?_;refine Td rfl rfl rfl (CZ rfl rfl rfl rfl rfl (by kernel_rfl) (Ck xs[j].key xs[j+1].key M)) (λw=>?_) (λw=>?_)
   ·refine gh ?_;refine BD (j+1+1) ⟨by omega,wBb d u ?_⟩;grind[Kk,EA,CQ]
   refine gr ?_;grind[H7,Kk,EA]
  refine gh ?_;refine BD (k+1) ⟨by omega,wBb d u ?_⟩;simp_all [Kk,EA,CQ]
 refine gr ?_;grind[wMh]
theorem Wm(lv:Int)(xs:List It)(a:Option Addr)(c:Nat)(ps:List (It×Value))(M:Mem)(S:xs.length<=c)(hs:SM M a (ps.flatMap Ae))(o:ps.map (·.1)=xs)(H:∀p∈ps,BS M p.2 p.1.val)(h:0<=lv/\lv<6/\xs.length<=5/\(0<lv->xs.length≠0))(K:0<lv):
  SpecL prog 47 #[.agg #[.int .i64 lv,.slice a xs.length c]] M [] λv _ _=>v=.int .i64 (C0 lv xs):=by
 have N:decide (0<lv)=true:=by grind
 refine sB func47 ntmps47 ?_;intro W;refine gA λI=>?_;refine gt ?_;refine CC (α:=Nat) (λk=>[(1,pB I),(3,.bool true),(34,.slice a xs.length c),(35,.int .i64 xs.length),(36,.int .i64 k)]) (λ_=>M) (λ_=>[(I,cE [.int .i64 lv,.slice a xs.length c] 81)]) (λk=>k<=xs.length/\BQ true none xs=BQ true (EA xs k) (xs.drop k)) (λk=>xs.length-k) 0 ⟨Nat.zero_le _,rfl⟩ ?_;rintro k ⟨L,y⟩;try dsimp only at L y⊢
 refine gj (λD=>?_) λD=>?_
 ·refine gh ?_;have d:k<xs.length:=by omega
  obtain⟨sb,J,P,G⟩:=hs.open (by intro e;have:=congrArg length e;rw[Aj Ae 5 Ag,length_nil]at this;have O:=congrArg length o;rw[length_map]at O;omega);subst P;obtain⟨F,E,u,m,l⟩:=Aw G o H d;refine gh ?_;refine lq (A1 (cs:=E1 xs[k] F E) rfl rfl rfl rfl rfl (λi v b=>(u i v b).cj _)) ?_;refine ga λT=>?_;refine gQ (CT xs[k] _ M ⟨F,E,rfl,m,l⟩) ?_;refine gj (λC=>?_) λC=>?_
  ·refine gr ?_;grind[RR,H7,Kk]
  refine gh ?_;refine QQ [0,1,2,3,4,5,6,7,8,9,10,11,12,13,14,15,16,17,18,19,20,21,22,23,24,25,26,27,28] ?_;refine gj (λB=>?_) λB=>?_
  ·refine dp rfl rfl ?_;refine dq rfl (Ac rfl rfl rfl rfl rfl) ?_;refine dq rfl (Au rfl rfl rfl rfl (CJ.loc rfl)) ?_;refine dp rfl rfl ?_;refine da rfl rfl (by omega) ?_;obtain⟨j,rfl⟩:∃j,k=j+1:=⟨k-1,by omega⟩;have s:j<xs.length:=by omega
   obtain⟨R,Q,w,-,-⟩:=Aw G o H s;refine dq rfl (Bh (EV rfl rfl rfl rfl (by omega)) (v':=.pointer (some ⟨sb,J+j*5,none⟩)) (by congr 3;omega)) ?_;refine gh ?_;refine dq rfl (A1 (cs:=AA xs[j].key) rfl rfl rfl rfl rfl (λi v b=>(w i v (by match i,b with|0,b=>simpa [AA]using b|1,b=>simpa [AA]using b|2,b=>simpa [AA]using b|n+3,b=>simp[AA]at b)).cj _)) ?_;refine gg ?_;refine Td rfl rfl rfl (CZ rfl rfl rfl rfl rfl (by kernel_rfl) (Ck xs[j].key xs[j+1].key M)) (λz=>?_) (λz=>?_)
   ·refine gj (λg=>?_) λg=>?_
    ·refine gr ?_;grind[H7,Kk]
    refine gj (λf=>?_) λf=>?_
    ·refine gr ?_;grind[H7,Kk]
    refine gh ?_;refine BD (j+1+1) ⟨by omega,wBb d y ?_⟩;grind[Kk,EA,CQ]
   refine gr ?_;grind[H7,Kk,EA]
  refine gj (λg=>?_) λg=>?_
  ·refine gr ?_;grind[H7,Kk]
  refine gj (λf=>?_) λf=>?_
  ·refine gr ?_;grind[H7,Kk]
  refine gh ?_;refine BD (k+1) ⟨by omega,wBb d y ?_⟩;simp_all [Kk,EA,CQ]
 refine gr ?_;grind[wMh]
theorem Gd(lv:Int)(xs:List It)(s:Value)(M:Mem)(b:NS M s xs):SpecL prog 47 #[.agg #[.int .i64 lv,s]] M [] λv _ _=>v=.int .i64 (C0 lv xs):=by
 obtain⟨a,c,ps,rfl,f,d,e,g⟩:=b;grind[Wm,Wn,Wo]
end Go.Proofs.YtjheijhahehnmaaGreatDoor
