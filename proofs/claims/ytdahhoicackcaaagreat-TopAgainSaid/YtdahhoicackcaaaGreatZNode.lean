/- Walks: items and nodes read. -/
import Derived.Test.YtdahhoicackcaaaGreatZHn
import Derived.Test.YtdahhoicackcaaaGreatZShv
import Derived.Test.YtdahhoicackcaaaGreatZTab
namespace Go.Proofs.YtdahhoicackcaaaGreat
open Go.Proofs.Tryz
open List (drop_eq_nil_of_le map_map length length_nil range replicate map_drop length_map length_drop)
set_option linter.unusedSimpArgs false
set_option linter.unusedVariables false
set_option linter.unusedSectionVars false
open Go.RowKit
set_option maxRecDepth 8000
set_option maxHeartbeats 40000000
structure Ky where
 kind:Int
 id:Int
 off:Int
 deriving DecidableEq,Repr
def AG(k:Ky):List Value:=[.int .u8 k.kind,.int .u32 k.id,.int .u32 k.off]
def JR(a b:Int):Int:=if a<b then -1 else if b<a then 1 else 0
def Ap(a b:Ky):Bool:=decide (a.kind<b.kind\/a.kind=b.kind/\(a.id<b.id\/a.id=b.id/\a.off<b.off))
def wMp:List Int->Int
 |[]=>0
 |x::xs=>if x≠0 then x else wMp xs
theorem wBp(a b:Ky):decide (wMp [JR a.kind b.kind,JR a.id b.id,JR a.off b.off]<0)=Ap a b:=by
 grind[Ap,wMp,JR]
def Al(xs:List Int):List Value:=xs.map (Value.int .i64)
theorem wBc(a:Int)(M:Mem):
  SpecL prog 226 #[.int .u8 a] M [] λv _ _=>v=.bool false:=by
 refine sB func226 ntmps226 ?_;intro W
 refine gr ?_
 simp
theorem wNt(a b:Int)(M:Mem):
  SpecL prog 213 #[.int .u8 a,.int .u8 b] M [] λv _ _=>v=.int .i64 (JR a b):=by
 refine sB func213 ntmps213 ?_;intro W
 refine gq (wBc _ M) ?_
 refine gQ (wBc _ M) ?_
 refine gj (λd=>?_) λd=>?_
 ·refine gr ?_
  grind[JR]
 refine gj (λc=>?_) λc=>?_
 ·refine gr ?_
  grind[JR]
 refine gr ?_
 grind[JR]
theorem WM(a:Int)(M:Mem):
  SpecL prog 150 #[.int .u32 a] M [] λv _ _=>v=.bool false:=by
 refine sB func150 ntmps150 ?_;intro W
 refine gr ?_
 simp
theorem Xq(a b:Int)(M:Mem):
  SpecL prog 87 #[.int .u32 a,.int .u32 b] M [] λv _ _=>v=.int .i64 (JR a b):=by
 refine sB func87 ntmps87 ?_;intro W
 refine gq (WM _ M) ?_
 refine gQ (WM _ M) ?_
 refine gj (λd=>?_) λd=>?_
 ·refine gr ?_
  grind[JR]
 refine gj (λc=>?_) λc=>?_
 ·refine gr ?_
  grind[JR]
 refine gr ?_
 grind[JR]
theorem wHk(b:Nat)(xs:List Int)(h:xs.length<=1000)(M:Mem):
  SpecL prog 212 #[.slice (some ⟨b,0,none⟩) xs.length xs.length] M [(b,cE (Al xs) 3)] λv _ L'=>v=.int .i64 (wMp xs)/\L'=[]:=by
 refine sB func212 ntmps212 ?_;intro W
 refine gh ?_
 refine Cz (α:=Nat) (λk=>[(3,.int .i64 0),(6,.slice (some ⟨b,0,none⟩) xs.length xs.length),(7,.int .i64 xs.length),(8,.int .i64 k)]) (λ_=>M) (λ_=>[(b,cE (Al xs) 3)]) (λk=>k<=xs.length/\wMp xs=wMp (xs.drop k)) (λk=>xs.length-k) 0 ⟨Nat.zero_le _,rfl⟩ ?_
 rintro k ⟨g,d⟩
 try dsimp only at g d⊢
 refine gj (λe=>?_) λe=>?_
 ·refine gh ?_
  have c:k<xs.length:=by omega
  have f:xs.drop k=xs[k]::xs.drop (k+1):=List.drop_eq_getElem_cons c
  refine gh ?_
  refine lq (AE rfl rfl rfl rfl (CJ.loc (v:=.int .i64 xs[k]) (by simp[Al,c]))) ?_
  refine gj (λa=>?_) λa=>?_
  ·refine gh ?_
   refine AD (L':=[]) (by simp) ?_
   refine gr ?_
   exact⟨by rw[d,f];show _=Value.int _ (if _ then _ else _);rw[if_pos (by simpa using a)],rfl⟩
  refine gh ?_
  refine Bw (k+1) ⟨by omega,?_⟩
  rw[d,f];show (if _ then _ else _)=_;rw[if_neg (by simpa using a)]
 refine gh ?_
 refine AD (L':=[]) (by simp) ?_
 refine gr ?_
 exact⟨by rw[d,drop_eq_nil_of_le (by omega)];rfl,rfl⟩
theorem or3(b:Nat)(x y z:Int)(M:Mem):SpecL prog 212 #[.slice (some ⟨b,0,none⟩) 3 3] M [(b,cE [.int .i64 x,.int .i64 y,.int .i64 z] 3)] λv _ a=>v=.int .i64 (wMp [x,y,z])/\a=[]:=wHk b [x,y,z] (by simp) M
theorem Cd(a b:Ky)(M:Mem):
  SpecL prog 181 #[.agg (AG a).toArray,.agg (AG b).toArray] M [] λv _ _=>v=.bool (Ap a b):=by
 refine sB func181 ntmps181 ?_;intro W
 refine EV λf e=>?_
 refine JG [0,1,2,3,4,5,6,7,8,9,10,11,12,13,14,115,116,17,18] ?_
 refine gq (wNt _ _ M) ?_
 refine gq (Xq _ _ M) ?_
 refine gq (Xq _ _ M) ?_
 refine DA rfl rfl rfl (Aa (cs:=[_,_,_]) rfl rfl rfl (by rfl) (by rfl) (by rfl)) ?_;rintro _ _ _ ⟨d,rfl,rfl,rfl⟩
 refine Cp (MLe.refl _) (λ_ h=>List.mem_cons_of_mem _ h) (MLe.refl _) (λ_ h=>h) ?_
 refine DA rfl rfl rfl (Bu rfl rfl rfl rfl rfl (by kernel_rfl) (or3 d (JR a.kind b.kind) (JR a.id b.id) (JR a.off b.off) M)) ?_;rintro _ g _ ⟨c,_,rfl,⟨rfl,rfl⟩⟩
 refine⟨_,_,MLe.refl _,c,λ_ h=>h,λ_ h=>h,?_⟩
 refine gr ?_
 grind[wBp]
structure It where
 key:Ky
 ref:Int
 val:List By
 deriving DecidableEq,Repr
def IR(M:Mem)(cs:List Value)(x:It):Prop:=∃s,cs=[.int .u8 x.key.kind,.int .u32 x.key.id,.int .u32 x.key.off,.int .i64 x.ref,s]/\BS M s x.val
def BQ(x:It):Bool:=decide (x.ref≠0/\(x.ref<8\/256<=x.ref)\/12<x.val.length)
def BY(x:It):Int:=if BQ x then 8 else 0
def Nm(xs:List By):ByteArray:=⟨xs.toArray⟩
theorem LC(bs:ByteArray):∀(n i:Nat)(r:List UInt8),bs.size-i=n->ByteArray.toList.loop bs i r=r.reverse++bs.data.toList.drop i
 |0,i,r,h=>by
  unfold ByteArray.toList.loop
  rw[if_neg (by omega),drop_eq_nil_of_le (by have:bs.data.toList.length=bs.size:=rfl;omega),List.append_nil]
 |n+1,i,r,h=>by
  unfold ByteArray.toList.loop
  have a:i<bs.data.toList.length:=by have:bs.data.toList.length=bs.size:=rfl;omega
  rw[if_pos (by omega),LC bs n (i+1) _ (by omega),List.drop_eq_getElem_cons a,List.reverse_cons,List.append_assoc]
  congr 2
  show [bs.data[i]!]++_=_
  rw[getElem!_pos bs.data i (by simpa using a)]
  rfl
theorem Sk(xs:List By):(Nm xs).toList=xs:=by
 unfold ByteArray.toList
 rw[LC _ _ 0 [] rfl];rfl
theorem QT(xs ys:List By):((Nm xs).toList==(Nm ys).toList)=decide (xs=ys):=by
 grind[Sk]
theorem DE(xs:List By):strOfNums (xs.map λb=>(b.toNat:Int))=Nm xs:=by
 unfold strOfNums Nm
 congr 2
 rw[map_map]
 conv=>rhs;rw[<-List.map_id xs]
 apply List.map_congr_left
 simp_all
theorem JP(u v:Value)(xs ys:List By)(M:Mem)(e:BS M u xs)(d:BS M v ys):
  SpecL prog 96 #[u,v] M [] λr _ _=>r=.bool (decide (xs=ys)):=by
 obtain⟨i,g,rfl,-,c⟩:=e
 obtain⟨h,f,rfl,-,a⟩:=d
 refine sB func96 ntmps96 ?_;intro W
 refine gh ?_
 refine lq (Bc (Yc (xs:=xs.map λb=>(b.toNat:Int)) rfl rfl rfl (by simp) (by simpa [Ab,map_map,Function.comp_def]using c.sj _)) (v':=.string (Nm xs)) (by rw[DE])) ?_
 refine gh ?_
 refine lq (Bc (Yc (xs:=ys.map λb=>(b.toNat:Int)) rfl rfl rfl (by simp) (by simpa [Ab,map_map,Function.comp_def]using a.sj _)) (v':=.string (Nm ys)) (by rw[DE])) ?_
 refine lq (Bc (qP rfl rfl) (v':=.bool (decide (xs=ys))) (congrArg _ (QT xs ys))) ?_
 refine gr ?_
 rfl
theorem DZ(a b:Ky):decide ([a.kind,a.id,a.off]=[b.kind,b.id,b.off])=decide (a=b):=by
 apply decide_eq_decide.2
 constructor
 ·intro h;cases a;cases b;simp at h;simp[h]
 grind
theorem Own.ofBuf(b:Nat):Own (.slice (some ⟨b,0,none⟩) 0 0) [(b,cE ([]:List Value) 5)] 5 1 0 []:=⟨rfl,.inr ⟨b,0,#[],rfl,rfl,by omega,by decide,rfl,rfl⟩⟩
theorem We(c:Nat)(M:Mem):
  SpecL prog 25 #[.slice none 0 c] M [] λv _ a=>Own v a 5 1 0 []:=by
 refine sB func25 ntmps25 ?_;intro W
 refine gh ?_
 refine lq (Bc (KY rfl rfl rfl rfl) (v':=.bool true) (by simp)) ?_
 refine gr ?_
 grind[Own.nil]
theorem T5(b:Addr)(c:Nat)(M:Mem):
  SpecL prog 25 #[.slice (some b) 0 c] M [] λv _ d=>Own v d 5 1 0 []:=by
 refine sB func25 ntmps25 ?_;intro W
 refine gh ?_
 refine lq (Bc (KY rfl rfl rfl rfl) (v':=.bool false) (by simp)) ?_
 refine gh ?_
 refine lh (Aa (z:=[.int .u8 0]) (cs:=[]) rfl rfl rfl (by rfl) (by rfl) (by rfl)) ?_;rintro _ _ _ ⟨a,rfl,rfl,rfl⟩
 refine gh ?_
 refine lh (Pf rfl rfl rfl rfl (Own.ofBuf a)) ?_;rintro _ _ _ ⟨rfl,rfl,rfl⟩
 refine jp rfl ?_
 refine Am (jT (Bs ?_))
 refine Gd rfl rfl ?_
 exact Own.ofBuf a
theorem T6(b off c:Nat)(xs:List By)(M:Mem)(d:∀i v,(Ab xs)[i]? =some v->CM M b (off+i) v)(j:xs.length<=100000):
  SpecL prog 25 #[.slice (some ⟨b,off,none⟩) xs.length c] M [] λv _ g=>Own v g 5 1 xs.length (Ab xs):=by
 refine sB func25 ntmps25 ?_;intro W
 refine gh ?_
 refine lq (Bc (KY rfl rfl rfl rfl) (v':=.bool false) (by simp)) ?_
 refine gh ?_
 refine lh (Aa (z:=[.int .u8 0]) (cs:=[]) rfl rfl rfl (by rfl) (by rfl) (by rfl)) ?_;rintro _ _ _ ⟨f,rfl,rfl,rfl⟩
 refine gh ?_
 refine lh (Ba (n:=0) (xs:=[]) (news:=Ab xs) rfl rfl rfl rfl (Own.ofBuf f) (by rw[Af];omega) (λi v e=>(d i v e).cj _) rfl rfl (DC xs) (by omega) (by decide)) ?_;rintro h _ _ ⟨rfl,k,rfl,a,_⟩
 refine jp rfl ?_
 refine Am (jT (Bs ?_))
 refine Gd rfl rfl ?_
 grind
theorem Bv(v:Value)(xs:List By)(M:Mem)(h:BS M v xs)(k:xs.length<=100000):SpecL prog 25 #[v] M [] λu _ i=>Own u i 5 1 xs.length (Ab xs):=by
 obtain⟨a,c,rfl,-,g⟩:=h
 cases a with
 |none=>
  have d:xs=[]:=by
   rcases g with h|⟨b,f,h,_⟩
   ·grind [Af]
   grind
  subst d
  exact We c M
 |some a=>
  by_cases d:xs=[]
  ·subst d;exact T5 a c M
  obtain⟨b,f,e,j⟩:=g.open (by intro e;have:=congrArg length e;rw[Af]at this;exact d (List.eq_nil_of_length_eq_zero this))
  grind[T6]
theorem UJ(c:Nat)(M:Mem):
  SpecL prog 178 #[.slice none 0 c] M [] λv _ a=>Own v a 5 1 0 []:=by
 refine sB func178 ntmps178 ?_;intro W
 refine gh ?_
 refine lq (Bc (KY rfl rfl rfl rfl) (v':=.bool true) (by simp)) ?_
 refine gr ?_
 grind[Own.nil]
theorem Sw(b:Addr)(c:Nat)(M:Mem):
  SpecL prog 178 #[.slice (some b) 0 c] M [] λv _ d=>Own v d 5 1 0 []:=by
 refine sB func178 ntmps178 ?_;intro W
 refine gh ?_
 refine lq (Bc (KY rfl rfl rfl rfl) (v':=.bool false) (by simp)) ?_
 refine gh ?_
 refine lh (Aa (z:=[.int .u8 0]) (cs:=[]) rfl rfl rfl (by rfl) (by rfl) (by rfl)) ?_;rintro _ _ _ ⟨a,rfl,rfl,rfl⟩
 refine gh ?_
 refine lh (Pf rfl rfl rfl rfl (Own.ofBuf a)) ?_;rintro _ _ _ ⟨rfl,rfl,rfl⟩
 refine jp rfl ?_
 refine Am (jT (Bs ?_))
 refine Gd rfl rfl ?_
 exact Own.ofBuf a
theorem Sz(b off c:Nat)(xs:List By)(M:Mem)(d:∀i v,(Ab xs)[i]? =some v->CM M b (off+i) v)(j:xs.length<=100000):
  SpecL prog 178 #[.slice (some ⟨b,off,none⟩) xs.length c] M [] λv _ g=>Own v g 5 1 xs.length (Ab xs):=by
 refine sB func178 ntmps178 ?_;intro W
 refine gh ?_
 refine lq (Bc (KY rfl rfl rfl rfl) (v':=.bool false) (by simp)) ?_
 refine gh ?_
 refine lh (Aa (z:=[.int .u8 0]) (cs:=[]) rfl rfl rfl (by rfl) (by rfl) (by rfl)) ?_;rintro _ _ _ ⟨f,rfl,rfl,rfl⟩
 refine gh ?_
 refine lh (Ba (n:=0) (xs:=[]) (news:=Ab xs) rfl rfl rfl rfl (Own.ofBuf f) (by rw[Af];omega) (λi v e=>(d i v e).cj _) rfl rfl (DC xs) (by omega) (by decide)) ?_;rintro h _ _ ⟨rfl,k,rfl,a,_⟩
 refine jp rfl ?_
 refine Am (jT (Bs ?_))
 refine Gd rfl rfl ?_
 grind
theorem Hd(v:Value)(xs:List By)(M:Mem)(h:BS M v xs)(k:xs.length<=100000):SpecL prog 178 #[v] M [] λu _ i=>Own u i 5 1 xs.length (Ab xs):=by
 obtain⟨a,c,rfl,-,g⟩:=h
 cases a with
 |none=>
  have d:xs=[]:=by
   rcases g with h|⟨b,f,h,_⟩
   ·grind [Af]
   grind
  subst d
  exact UJ c M
 |some a=>
  by_cases d:xs=[]
  ·subst d;exact Sw a c M
  obtain⟨b,f,e,j⟩:=g.open (by intro e;have:=congrArg length e;rw[Af]at this;exact d (List.eq_nil_of_length_eq_zero this))
  grind[Sz]
theorem CR(x:It)(s:Value)(M:Mem)(hs:BS M s x.val):
  SpecL prog 58 #[.agg #[.int .u8 x.key.kind,.int .u32 x.key.id,.int .u32 x.key.off,.int .i64 x.ref,s]] M [] λv _ _=>v=.int .i64 (BY x):=by
 obtain⟨a,c,rfl,-,-⟩:=hs
 refine sB func58 ntmps58 ?_;intro W
 refine gA λg=>?_
 refine gj (λf=>?_) λf=>?_
 ·refine gj (λe=>?_) λe=>?_
  ·refine gr ?_
   grind[BY,BQ]
  refine gj (λd=>?_) λd=>?_
  ·refine gr ?_
   grind[BY,BQ]
  refine gj (λb=>?_) λb=>?_
  ·refine gr ?_
   grind[BY,BQ]
  refine gr ?_
  grind[BY,BQ]
 refine gj (λb=>?_) λb=>?_
 ·refine gr ?_
  grind[BY,BQ]
 refine gr ?_
 grind[BY,BQ]
theorem LM(x y:It)(s t:Value)(M:Mem)(h:BS M s x.val)(g:BS M t y.val):
  SpecL prog 78 #[.agg #[.int .u8 x.key.kind,.int .u32 x.key.id,.int .u32 x.key.off,.int .i64 x.ref,s],.agg #[.int .u8 y.key.kind,.int .u32 y.key.id,.int .u32 y.key.off,.int .i64 y.ref,t]] M [] λv _ _=>v=.bool (decide (x=y)):=by
 refine sB func78 ntmps78 ?_;intro W
 refine gA2 λj i=>?_
 refine Br rfl rfl (qEqI (ns:=[x.key.kind,x.key.id,x.key.off]) (ms:=[y.key.kind,y.key.id,y.key.off]) rfl rfl rfl rfl rfl rfl ⟨rfl,rfl⟩) (λc=>?_) (λc=>?_)
 ·refine gj (λb=>?_) λb=>?_
  ·refine gq (JP s t x.val y.val M h g) ?_
   refine gr ?_
   rw[DZ]at c
   refine congrArg _ (decide_eq_decide.2 ⟨λd=>?_,λe=>by rw[e]⟩)
   have f:=of_decide_eq_true c
   cases x;cases y;simp only at f d b;subst f d b;rfl
  refine gr ?_
  have a:x≠y:=by grind
  simp[a]
 refine gr ?_
 have a:x≠y:=by grind
 simp[a]
theorem XF(x:It)(s:Value)(M:Mem)(hs:BS M s x.val)(f:x.val.length<=100000):
  SpecL prog 215 #[.agg #[.int .u8 x.key.kind,.int .u32 x.key.id,.int .u32 x.key.off,.int .i64 x.ref,s]] M [] λv k l=>∃e,v=.agg e.toArray/\IR (Cf M k) e x/\l=[]:=by
 refine sB func215 ntmps215 ?_;intro W
 refine EV λn m=>?_
 refine gC (Bv s x.val M hs f) ?_;rintro _ r _ d b
 refine Rf b (by simp) ?_
 intro o j i g h c a;subst h
 replace a:=a.mono (Fd d)
 refine gr ?_
 exact⟨_,rfl,⟨_,rfl,j,i,rfl,c,a⟩,rfl⟩
set_option maxRecDepth 8000
set_option maxHeartbeats 40000000
def bw{α:Type}(xs:List α)(k:Nat):List (α×Nat):=(xs.zipIdx.drop k).reverse
variable{α:Type}
theorem PA(xs:List α):bw xs xs.length=[]:=by simp_all [bw]
variable{k:Nat}
theorem Ew(xs:List α)(h:k<xs.length):bw xs k=bw xs (k+1)++[(xs[k],k)]:=by
 unfold bw
 rw[List.drop_eq_getElem_cons (by simpa using h),List.reverse_cons]
 simp
theorem C0(xs:List α)(k:Nat):bw xs k<+:bw xs 0:=by
 unfold bw
 rw[List.drop_zero]
 exact List.reverse_prefix.2 (List.drop_suffix k _)
theorem JT(xs:List α):(bw xs 0).map (·.1)=xs.reverse:=by
 simp_all [bw]
theorem bwb(a:Option Addr)(n c:Nat)(M:Mem):
  SpecL prog 217 #[.slice a n c] M [] λu f g=>∃b,u=.func (.func 229) #[] #[pB b]/\f b=some (.cells #[.slice a n c] 30 (0,0))/\g=[]:=by
 refine sB func217 ntmps217 ?_;intro W
 refine gh ?_
 refine lh (Bf (cs:=[.slice a n c]) rfl rfl rfl rfl) ?_;rintro _ _ _ ⟨e,rfl,rfl,rfl⟩
 refine gh ?_
 refine AP e (by simp) ?_
 intro i d h
 refine gr ?_
 grind
theorem wEy(b o n c:Nat)(xs:List (By))(M:Mem)(F:M b=some (.cells #[.slice (some ⟨o,n,none⟩) xs.length c] 30 (0,0)))(D:∀i v,(Ab xs)[i]? =some v->CM M o (n+i) v)(N:xs.length<=1000000)(l:Nat)(J C:List (By×Nat)->Mem->Lc->Prop)(e:Mem)(u:Lc)(z:MLe M e)(G:∀pre y M2 L2,MLe e M2->J pre M2 L2->pre++[y]<+:bw xs 0->DD prog l ((λp:By×Nat=>[.int .i64 p.2,.int .u8 p.1.toNat]) y).toArray M2 L2 λv f L'=>(v=.bool true/\J (pre++[y]) f L')\/(v=.bool false/\C (pre++[y]) f L'))(H:J [] e u):
  SpecL prog 229 #[.func (.yield l) #[] #[],pB b] e u λ_ f L'=>J (bw xs 0) f L'\/∃pre,pre<+:bw xs 0/\C pre f L':=by
 have j:∀{M2:Mem}(L:Lc),MLe e M2->CJ M2 L b 0 (.slice (some ⟨o,n,none⟩) xs.length c):=λL h=>(CM.cj ⟨_,_,_,h _ _ (z _ _ F),rfl⟩ L)
 refine sB func229 ntmps229 ?_;intro W
 refine gh ?_
 refine lq (AE rfl rfl rfl rfl (j _ (MLe.refl _))) ?_
 refine gh ?_
 refine Cz (α:=Int×Mem×Lc) (λx=>[(0,.func (.yield l) #[] #[]),(1,pB b),(3,.int .i64 x.1)]) (λx=>x.2.1) (λx=>x.2.2) (λx=> -1<=x.1/\x.1<xs.length/\MLe e x.2.1/\J (bw xs (x.1+1).toNat) x.2.1 x.2.2) (λx=>(x.1+1).toNat) ((xs.length:Int)-1,e,u) ⟨by show -1<=(xs.length:Int)-1;omega,by show (xs.length:Int)-1<xs.length;omega,MLe.refl _,by show J (bw xs ((xs.length:Int)-1+1).toNat) _ _;rw[show ((xs.length:Int)-1+1).toNat=xs.length by omega,PA];exact H⟩ ?_
 rintro⟨i,I,K⟩ ⟨r,E,a,m⟩
 try dsimp only at r E a m⊢
 refine gj (λs=>?_) λs=>?_
 ·refine gh ?_
  obtain⟨k,rfl⟩:∃k:Nat,i=k:=⟨i.toNat,by omega⟩
  have d:k<xs.length:=by omega
  refine lq (AE rfl rfl rfl rfl (j _ a)) ?_
  refine gh ?_
  refine lq (Bc (AE rfl rfl rfl rfl (((D (((k:Nat):Int).toNat*1) (.int .u8 xs[k].toNat) (by simp[Ab,d])).mono (z.trans a)).cj _)) (v':=.int .u8 xs[k].toNat) rfl) ?_
  refine lh (Hu rfl rfl rfl rfl (G (bw xs (k+1)) (xs[k],k) I K a (by rwa[show ((k:Int)+1).toNat=k+1 by omega]at m) (by rw[<-Ew xs d];exact C0 xs k))) ?_;rintro _ f _ ⟨t,B,rfl,g⟩
  rw[<-Ew xs d]at g
  rcases g with⟨rfl,g⟩|⟨rfl,g⟩
  ·refine gh ?_
   refine Bw ((k:Int)-1,f,B) ⟨by show -1<=(k:Int)-1;omega,by show (k:Int)-1<xs.length;omega,a.trans t,by show J (bw xs ((k:Int)-1+1).toNat) _ _;rw[show ((k:Int)-1+1).toNat=k by omega];exact g⟩
  refine gh ?_
  refine AD (L':=B) (by simp) ?_
  refine JV (rs:=[]) rfl .nil ?_
  grind[C0]
 refine gh ?_
 refine Ug ?_
 refine JV (rs:=[]) rfl .nil ?_
 grind
theorem wEx(b d a c:Nat)(xs:List (By))(M:Mem)(g:M b=some (.cells #[.slice (some ⟨d,a,none⟩) xs.length c] 30 (0,0)))(e:∀i v,(Ab xs)[i]? =some v->CM M d (a+i) v)(f:xs.length<=1000000):
  Iter prog 229 [pB b] M (λp:By×Nat=>[.int .i64 p.2,.int .u8 p.1.toNat]) (bw xs 0):=
 λl J o m n h j k=>wEy b d a c xs M g e f  l J o m n h j k
def D5(ys:List By):Int:=ys.foldl (λn x=>Uh .u32 (RP .u32 n 8) (x.toNat:Int)) 0
def Cl(xs:List By)(at_ n:Nat):Int:=D5 ((xs.drop at_).take n).reverse
theorem E0(ys:List By)(y:By):D5 (ys++[y])=Uh .u32 (RP .u32 (D5 ys) 8) (y.toNat:Int):=by simp[D5]
theorem Xr(a b:Int):0<=Uh .u32 a b/\Uh .u32 a b<4294967296:=by
 unfold Uh;rw[IntKind.wrap_u32];omega
theorem El(ys:List By):0<=D5 ys/\D5 ys<4294967296:=by
 rcases List.eq_nil_or_concat ys with rfl|⟨zs,z,rfl⟩
 ·decide
 simp_all [E0,Xr]
variable{M:Mem}{b:Nat}{xs:List By}
theorem SM.sub{off:Nat}(l k:Nat)(h:∀i v,(Ab xs)[i]? =some v->CM M b (off+i) v):∀i v,(Ab ((xs.drop l).take k))[i]? =some v->CM M b (off+l*1+i) v:=λi v a=>by
 have:=h (l+i) v (by
  simp only[Ab,List.getElem?_map,List.getElem?_take,List.getElem?_drop]at a⊢
  split at a
  ·exact a
  simp at a)
 rwa[show off+l*1+i=off+(l+i)by omega]
theorem TC(r:Option Addr)(c:Nat)(xs:List By)(a m:Nat)(M:Mem)(hs:SM M r (Ab xs))(I:xs.length<=c)(h:a+m<=xs.length)(H:0<m)(G:xs.length<=1000000):
  SpecL prog 190 #[.slice r xs.length c,.int .i64 a,.int .i64 m] M [] λv _ F=>v=.tuple #[.int .u32 (Cl xs a m),.int .i64 0]/\F=[]:=by
 obtain⟨sb,o,B,u⟩:=hs.open (by intro e;have:=congrArg length e;rw[Af,length_nil]at this;omega)
 subst B
 have b:((xs.drop a).take m).length=m:=by grind
 refine sB func190 ntmps190 ?_;intro W
 refine gA λt=>?_
 refine gt ?_
 refine lq (Bc (C6 rfl rfl rfl (.no _) (.of (v:=a+m) rfl (by omega) (by omega)) (.of (v:=a) rfl (by omega) (by omega)) (by omega) (by simp)) (v':=.slice (some ⟨sb,o+a*1,none⟩) ((xs.drop a).take m).length (c-a)) (by rw[AB (by omega),b,Nat.add_sub_cancel_left])) ?_
 refine gC (bwb _ _ _ M) ?_;rintro _ E _ g ⟨n,rfl,k,rfl⟩
 refine gh ?_
 refine D1 (R:=[(t,cE [.int .u32 0] 33)]) (xs:=bw ((xs.drop a).take m) 0) (enc:=(λp:By×Nat=>[.int .i64 p.2,.int .u8 p.1.toNat])) (ps:=[27,28]) rfl (by kernel_rfl) (wEx n sb (o+a*1) _ ((xs.drop a).take m) E k (λi v z=>(SM.sub a m u i v z).mono g) (by omega))
  (λpre _ R=>R=[(t,cE [.int .u32 (D5 (pre.map (·.1)))] 33)])
  (λ_ _ _ _=>False)
  (λ_=>rfl) (by decide) rfl ?_ ?_ ?_
 ·intro l J pre y D C f j s
  subst j
  refine gh ?_
  refine jK λK=>?_
  refine gh ?_
  refine lq (Gy rfl rfl rfl rfl (by omega) rfl) ?_
  refine gh ?_
  refine lq (ND rfl rfl rfl (by rw[IntKind.wrap_u32];have:=y.1.toNat_lt;omega)) ?_
  refine lq (F5 rfl rfl rfl rfl rfl) ?_
  refine gh ?_
  refine Zj ?_
  grind[E0]
 ·intro d D C f j
  subst j
  refine gh ?_
  refine Bi (L2:=_) (List.Perm.refl _) ?_
  refine gr ?_
  exact⟨by rw[JT];rfl,rfl⟩
 grind
theorem BC(b:Option Addr)(c:Nat)(xs:List By)(a:Nat)(M:Mem)(hs:SM M b (Ab xs))(e:xs.length<=c)(h:a+4<=xs.length)(d:xs.length<=1000000):
  SpecL prog 146 #[.slice b xs.length c,.int .i64 a] M [] λv _ _=>v=.tuple #[.int .u32 (Cl xs a 4),.int .i64 0]:=by
 refine sB func146 ntmps146 ?_;intro W
 refine gc (TC b c xs a 4 M hs e h (by omega) d) ?_;rintro _ _ _ rfl
 refine gr ?_
 rfl
theorem DJ(b:Option Addr)(c:Nat)(xs:List By)(a:Nat)(M:Mem)(hs:SM M b (Ab xs))(f:xs.length<=c)(h:a+2<=xs.length)(e:xs.length<=1000000):
  SpecL prog 147 #[.slice b xs.length c,.int .i64 a] M [] λv _ _=>v=.tuple #[.int .i64 (Cl xs a 2),.int .i64 0]:=by
 refine sB func147 ntmps147 ?_;intro W
 refine gc (TC b c xs a 2 M hs f h (by omega) e) ?_;rintro _ _ _ rfl
 have d:=El ((xs.drop a).take 2).reverse
 change 0<=Cl xs a 2/\Cl xs a 2<4294967296 at d
 refine gh ?_
 refine lq (B7 rfl rfl rfl (by omega)) ?_
 refine gr ?_
 rfl
def fstep(s:Int):Int:=RO .u32 (G2 .u32 s 1) (IntKind.u32.wrap (3988292384*RR .u32 s 1))
def VO:Nat->Int->Int
 |0,s=>s
 |k+1,s=>fstep (VO k s)
def Gj(k:Nat):List Int:=(range k).map (λi:Nat=>VO 4 (i:Int))++replicate (16-k) 0
def C7(xs:List Int):List Value:=xs.map (Value.int .u32)
theorem Pn(h:k<=16):(Gj k).length=16:=by grind[Gj]
theorem YN(h:k<16)(o:Nat)(b:o=k):(C7 (Gj k)).take o++[Value.int .u32 (VO 4 k)]++(C7 (Gj k)).drop (o+[Value.int .u32 (VO 4 k)].length)=C7 (Gj (k+1)):=by
 subst b
 have a:((range o).map (λi:Nat=>VO 4 (i:Int))).length=o:=by simp
 have d:(Gj o).take o=(range o).map (λi:Nat=>VO 4 (i:Int)):=by grind[Gj]
 have c:(Gj o).drop (o+1)=replicate (16-(o+1)) 0:=by
  unfold Gj
  rw[List.drop_append,drop_eq_nil_of_le (by omega),a,List.nil_append,List.drop_replicate]
  grind
 simp only[C7,<-List.map_take,<-map_drop,List.length_singleton,d,c]
 unfold Gj
 rw[List.range_succ]
 simp
theorem YQ(M:Mem):
  SpecL prog 165 #[] M [] λv _ _=>v=.agg (C7 (Gj 16)).toArray:=by
 refine sB func165 ntmps165 ?_;intro W
 refine ga λb=>?_
 refine Cz (α:=Nat) (λk=>[(0,pB b),(3,.int .i64 k)]) (λ_=>M) (λk=>[(b,cE (C7 (Gj k)) 250)]) (λk=>k<=16) (λk=>16-k) 0 (by omega) ?_ (hs:=λw h=>by rw[show C7 (Gj 0)=replicate 16 (Value.int .u32 0)from rfl];exact h)
 rintro k d
 try dsimp only at d⊢
 refine gj (λl=>?_) λl=>?_
 ·refine gh ?_
  refine lq (ND rfl rfl rfl (by rw[IntKind.wrap_u32];omega)) ?_
  refine gh ?_
  refine Cz (α:=Nat) (λj=>[(0,pB b),(1,.int .i64 k),(2,.int .u32 (VO j k)),(3,.int .i64 k),(8,.int .i64 j)]) (λ_=>M) (λ_=>[(b,cE (C7 (Gj k)) 250)]) (λj=>j<=4) (λj=>4-j) 0 (by omega) ?_
  rintro j e
  try dsimp only at e⊢
  refine gj (λg=>?_) λg=>?_
  ·refine gh ?_
   refine lq (Gy rfl rfl rfl rfl (by omega) rfl) ?_
   refine gh ?_
   refine lq (F5 rfl rfl rfl rfl rfl) ?_
   refine lq (qP rfl rfl) ?_
   refine lq (F5 rfl rfl rfl rfl rfl) ?_
   refine gh ?_
   refine Bw (j+1) (by omega)
  refine gh ?_
  refine lq (GU rfl rfl rfl rfl (by omega)) ?_
  have f:=Pn (k:=k) (by omega)
  obtain rfl:j=4:=by omega
  refine Dz rfl (JJ rfl rfl rfl rfl rfl rfl (by simp[Value.oneCell']) (by simp only[C7,length_map,List.length_cons,length_nil];omega)) ?_;rintro _ _ _ ⟨rfl,rfl⟩
  rw[YN (k:=k) (by omega) _ (by omega)]
  refine gh ?_
  refine Bw (k+1) (by omega)
 refine gh ?_
 obtain rfl:k=16:=by omega
 have a:(C7 (Gj 16)).length=16:=by grind[C7,Pn]
 refine lq (Bb (cs:=C7 (Gj 16)) rfl rfl rfl rfl a (λi v c=>CJ.loc (by simpa using c))) ?_
 refine Dz rfl (W3 rfl rfl rfl rfl a (λv c=>by obtain⟨n,_,rfl⟩:=List.mem_map.1 c;rfl) a) ?_;rintro _ _ _ ⟨rfl,rfl⟩
 refine gh ?_
 refine zd ([]) rfl ?_
 rfl
def ftabV:List Int:=[0,498536548,997073096,651767980,1994146192,1802195444,1303535960,1342533948,3988292384,4027552580,3604390888,3412177804,2607071920,2262029012,2685067896,3183342108]
theorem wDb:Gj 16=ftabV:=by decide +kernel
def ZD(i:Int):Int:=ftabV.getD i.toNat 0
def wLe(s:Int):Int:=RO .u32 (G2 .u32 s 4) (ZD (RR .u32 s 15))
def wAr(s:Int)(x:By):Int:=wLe (wLe (RO .u32 s (x.toNat:Int)))
def NO(xs:List By):Int:=xs.foldl wAr 4294967295
def FZ(xs:List By):Int:=RO .u32 4294967295 (NO xs)
theorem MW(s:Int):0<=RR .u32 s 15/\RR .u32 s 15<16:=by
 unfold RR
 rw[IntKind.wrap_u32]
 have h:(BitVec.ofInt IntKind.u32.bits s &&& BitVec.ofInt IntKind.u32.bits 15).toNat<=15:=by
  rw[BitVec.toNat_and];exact Nat.and_le_right
 omega
variable{i:Int}
theorem Wp(h:0<=i/\i<16):(C7 (Gj 16))[0+i.toNat*1]? =some (.int .u32 (ZD i)):=by
 rw[wDb,Nat.zero_add,Nat.mul_one]
 have:i.toNat<ftabV.length:=by simp_all [ftabV]
 grind[C7,ZD]
theorem MI(d:Option Addr)(c:Nat)(xs:List By)(M:Mem)(hs:SM M d (Ab xs))(o:xs.length<=1000000):
  SpecL prog 101 #[.slice d xs.length c] M [] λv _ _=>v=.int .u32 (FZ xs):=by
 have f:(C7 (Gj 16)).length=16:=by grind[C7,Pn]
 refine sB func101 ntmps101 ?_;intro W
 refine gq (YQ M) ?_
 refine lh (AM rfl rfl) ?_;rintro _ _ _ ⟨h,rfl,rfl,rfl⟩
 refine Dz rfl (W3 rfl rfl rfl rfl f (λv i=>by obtain⟨n,_,rfl⟩:=List.mem_map.1 i;rfl) (by rfl)) ?_;rintro _ _ _ ⟨rfl,rfl⟩
 refine gh ?_
 refine Cz (α:=Nat) (λk=>[(3,pB h),(4,.int .u32 (NO (xs.take k))),(8,.slice d xs.length c),(9,.int .i64 xs.length),(10,.int .i64 k)]) (λ_=>M) (λ_=>[(h,cE (C7 (Gj 16)) 250)]) (λk=>k<=xs.length) (λk=>xs.length-k) 0 (Nat.zero_le _) ?_
 rintro k hk
 try dsimp only at hk⊢
 refine gj (λg=>?_) λg=>?_
 ·refine gh ?_
  obtain⟨r,m,l,j⟩:=hs.open (by intro e;have:=congrArg length e;rw[Af,length_nil]at this;omega)
  subst l
  have b:k<xs.length:=by omega
  refine gh ?_
  refine lq (AE rfl rfl rfl rfl ((j (((k:Nat):Int).toNat*1) (.int .u8 xs[k].toNat) (by simp[Ab,b])).cj _)) ?_
  refine gh ?_
  refine lq (ND rfl rfl rfl (by rw[IntKind.wrap_u32];have:=xs[k].toNat_lt;omega)) ?_
  refine lq (F5 rfl rfl rfl rfl rfl) ?_
  refine gh ?_
  refine lq (Gy rfl rfl rfl rfl (by omega) rfl) ?_
  refine gh ?_
  refine lq (F5 rfl rfl rfl rfl rfl) ?_
  refine lq (GU rfl rfl rfl rfl (MW _)) ?_
  refine lq (AE rfl rfl rfl rfl (CJ.loc (Wp (MW _)))) ?_
  refine lq (F5 rfl rfl rfl rfl rfl) ?_
  refine gh ?_
  refine lq (Gy rfl rfl rfl rfl (by omega) rfl) ?_
  refine gh ?_
  refine lq (F5 rfl rfl rfl rfl rfl) ?_
  refine lq (GU rfl rfl rfl rfl (MW _)) ?_
  refine lq (AE rfl rfl rfl rfl (CJ.loc (Wp (MW _)))) ?_
  refine lq (F5 rfl rfl rfl rfl rfl) ?_
  refine gh ?_
  have a:NO (xs.take (k+1))=wAr (NO (xs.take k)) xs[k]:=by unfold NO;rw[List.take_succ_eq_append_getElem b,List.foldl_append];rfl
  refine Bw (k+1) (by omega) (hk:=(Keep.cons (t:=3) rfl (Keep.ceq (t:=4) rfl (by rw[a];rfl) (Keep.cons (t:=8) rfl (Keep.cons (t:=9) rfl (Keep.cons (t:=10) rfl Keep.nil))))))
 refine gh ?_
 refine lq (qNotI rfl rfl rfl) ?_
 refine gr ?_
 rw[show k=xs.length by omega,List.take_length];rfl
def B4(xs:List By):Int:=if xs.length≠128 then 3 else if Cl xs 0 4≠FZ (xs.drop 4)then 8 else 0
theorem wAk(v:Value)(xs:List By)(M:Mem)(a:BS M v xs)(h:xs.length≠128):
  SpecL prog 145 #[v] M [] λu b L'=>∃s,u=.tuple #[s,.int .i64 (B4 xs)]/\(B4 xs=0->BS b s (xs.drop 4))/\L'=[]:=by
 obtain⟨d,c,rfl,-,e⟩:=a
 have f:B4 xs=3:=if_pos h
 refine sB func145 ntmps145 ?_;intro W
 refine gt ?_
 refine AD (L':=[]) (by simp) ?_
 refine gr ?_
 simp_all
theorem wAm(v:Value)(xs:List By)(M:Mem)(g:BS M v xs)(h:xs.length=128)(j:Cl xs 0 4≠FZ (xs.drop 4)):
  SpecL prog 145 #[v] M [] λu i L'=>∃s,u=.tuple #[s,.int .i64 (B4 xs)]/\(B4 xs=0->BS i s (xs.drop 4))/\L'=[]:=by
 obtain⟨a,c,rfl,e,f⟩:=g
 have b:SM M (H7 a 4 c 1) (Ab (xs.drop 4)):=by have:=f.part (l:=4) (m:=c) (s:=1) (by omega) 1000;rwa[show ((Ab xs).drop (4*1)).take 1000=Ab (xs.drop 4)by rw[List.take_of_length_le (by rw[length_drop,Af];omega)];simp[Ab,map_drop]]at this
 have d:(xs.drop 4).length=124:=by grind
 have k:B4 xs=8:=by grind[B4]
 refine sB func145 ntmps145 ?_;intro W
 refine gt ?_
 refine gQ (BC a c xs 0 M f e (by omega) (by omega)) ?_
 refine gt ?_
 refine lq (Bc (C6 rfl rfl rfl (.no _) (.no _) (.of (v:=4) rfl (by omega) rfl) (by omega) (by simp)) (v':=.slice (H7 a 4 c 1) (xs.drop 4).length (c-4)) (by rw[d,h])) ?_
 refine gQ (MI _ _ (xs.drop 4) M b (by omega)) ?_
 refine gt ?_
 refine AD (L':=[]) (by simp) ?_
 refine gr ?_
 simp_all
theorem wHn(v:Value)(xs:List By)(M:Mem)(k:BS M v xs)(h:xs.length=128)(C:Cl xs 0 4=FZ (xs.drop 4)):
  SpecL prog 145 #[v] M [] λu B L'=>∃s,u=.tuple #[s,.int .i64 (B4 xs)]/\(B4 xs=0->BS B s (xs.drop 4))/\L'=[]:=by
 obtain⟨e,c,rfl,g,j⟩:=k
 have a:SM M (H7 e 4 c 1) (Ab (xs.drop 4)):=by have:=j.part (l:=4) (m:=c) (s:=1) (by omega) 1000;rwa[show ((Ab xs).drop (4*1)).take 1000=Ab (xs.drop 4)by rw[List.take_of_length_le (by rw[length_drop,Af];omega)];simp[Ab,map_drop]]at this
 have d:(xs.drop 4).length=124:=by grind
 have r:B4 xs=0:=by grind[B4]
 refine sB func145 ntmps145 ?_;intro W
 refine gt ?_
 refine gQ (BC e c xs 0 M j g (by omega) (by omega)) ?_
 refine gt ?_
 refine lq (Bc (C6 rfl rfl rfl (.no _) (.no _) (.of (v:=4) rfl (by omega) rfl) (by omega) (by simp)) (v':=.slice (H7 e 4 c 1) (xs.drop 4).length (c-4)) (by rw[d,h])) ?_
 refine gQ (MI _ _ (xs.drop 4) M a (by omega)) ?_
 refine gt ?_
 refine lq (Bc (C6 rfl rfl rfl (.no _) (.no _) (.of (v:=4) rfl (by omega) rfl) (by omega) (by simp)) (v':=.slice (H7 e 4 c 1) (xs.drop 4).length (c-4)) (by rw[d,h])) ?_
 refine lh (Bu rfl rfl rfl rfl rfl (by kernel_rfl) (Hd _ (xs.drop 4) M ⟨_,_,rfl,by omega,a⟩ (by omega))) ?_;rintro _ E _ ⟨o,_,rfl,b⟩
 refine EM b (by simp) ?_
 intro D z y n t i f;subst t
 refine gh ?_
 refine AD (L':=[]) (by simp) ?_
 refine gr ?_
 exact⟨_,by rw[r],λ_=>⟨z,y,rfl,i,f⟩,rfl⟩
theorem Gb(v:Value)(xs:List By)(M:Mem)(c:BS M v xs):SpecL prog 145 #[v] M [] λu a b=>∃s,u=.tuple #[s,.int .i64 (B4 xs)]/\(B4 xs=0->BS a s (xs.drop 4))/\b=[]:=by
 grind[Cl,FZ,wHn,wAm,wAk]
set_option maxRecDepth 8000
set_option maxHeartbeats 40000000
def EK(xs:List By):Nat:=12+(xs.getD 11 0).toNat
def G0(xs:List By):It:=⟨⟨((xs.getD 0 0).toNat:Int),Cl xs 1 4,Cl xs 5 4⟩,Cl xs 9 2,(xs.drop 12).take (EK xs-12)⟩
def SG(xs:List By):Int:=if xs.length<12 then 8 else if xs.length<EK xs then 8 else BY (G0 xs)
def zeroIt:List Value:=[.int .u8 0,.int .u32 0,.int .u32 0,.int .i64 0,.slice none 0 0]
variable{j:Nat}
theorem Cc{xs:List By}(h:j<xs.length):(Ab xs)[j]? =some (.int .u8 ((xs.getD j 0).toNat:Int)):=by grind[Ab]
theorem QX{xs:List By}(h:EK xs<=xs.length):(G0 xs).val.length=EK xs-12:=by
 grind[G0,EK]
theorem YC(a:Option Addr)(c:Nat)(xs:List By)(M:Mem)(e:xs.length<=c)(hs:SM M a (Ab xs))(d:xs.length<=100000)(h:xs.length<12):
  SpecL prog 185 #[.slice a xs.length c] M [] λv _ b=>v=.tuple #[.agg zeroIt.toArray,.int .i64 0,.int .i64 (8)]/\b=[]:=by
 refine sB func185 ntmps185 ?_;intro W
 refine gA λf=>?_
 refine gu ?_
 exact⟨rfl,rfl⟩
theorem Vx(a:Option Addr)(c:Nat)(xs:List By)(M:Mem)(l:xs.length<=c)(hs:SM M a (Ab xs))(k:xs.length<=100000)(h:¬xs.length<12)(n:xs.length<EK xs):
  SpecL prog 185 #[.slice a xs.length c] M [] λv _ g=>v=.tuple #[.agg zeroIt.toArray,.int .i64 0,.int .i64 (8)]/\g=[]:=by
 obtain⟨sb,i,f,b⟩:=hs.open (by intro e;have:=congrArg length e;rw[Af,length_nil]at this;omega)
 subst f
 have d:=(xs.getD 11 0).toNat_lt
 have m:EK xs=12+(xs.getD 11 0).toNat:=rfl
 refine sB func185 ntmps185 ?_;intro W
 refine gA λo=>?_
 refine gt ?_
 refine lq (AE rfl rfl rfl rfl ((b ((11:Int).toNat*1) _ (Cc (j:=11) (by omega))).cj _)) ?_
 refine lq (B7 rfl rfl rfl (by omega)) ?_
 refine gu ?_
 exact⟨rfl,rfl⟩
theorem YD(k:Option Addr)(c:Nat)(xs:List By)(M:Mem)(g:xs.length<=c)(hs:SM M k (Ab xs))(r:xs.length<=100000)(h:¬xs.length<12)(u:¬xs.length<EK xs)(t:BY (G0 xs)≠0):
  SpecL prog 185 #[.slice k xs.length c] M [] λv _ n=>v=.tuple #[.agg zeroIt.toArray,.int .i64 0,.int .i64 (BY (G0 xs))]/\n=[]:=by
 obtain⟨sb,a,m,b⟩:=hs.open (by intro e;have:=congrArg length e;rw[Af,length_nil]at this;omega)
 subst m
 have l:=(xs.getD 11 0).toNat_lt
 have s:EK xs=12+(xs.getD 11 0).toNat:=rfl
 have d:=QX (xs:=xs) (by omega)
 have f:SM M (H7 (some ⟨sb,a,none⟩) 12 (EK xs) 1) (Ab (G0 xs).val):=by
   by_cases o:EK xs=12
   ·left;have:(G0 xs).val=[]:=List.eq_nil_of_length_eq_zero (by omega);rw[this];rfl
   rw[AB (by omega)];exact .inr ⟨sb,_,rfl,SM.sub 12 (EK xs-12) b⟩
 have i:BS M (.slice (H7 (some ⟨sb,a,none⟩) 12 (EK xs) 1) (G0 xs).val.length (EK xs-12)) (G0 xs).val:=⟨_,_,rfl,by omega,f⟩
 refine sB func185 ntmps185 ?_;intro W
 refine gA λy=>?_
 refine gt ?_
 refine lq (AE rfl rfl rfl rfl ((b ((11:Int).toNat*1) _ (Cc (j:=11) (by omega))).cj _)) ?_
 refine lq (B7 rfl rfl rfl (by omega)) ?_
 refine gt ?_
 refine lq (AE rfl rfl rfl rfl ((b ((0:Int).toNat*1) _ (Cc (j:=0) (by omega))).cj _)) ?_
 refine gq (BC _ c xs 1 M hs g (by omega) (by omega)) ?_
 refine gq (BC _ c xs 5 M hs g (by omega) (by omega)) ?_
 refine gq (DJ _ c xs 9 M hs g (by omega) (by omega)) ?_
 refine lq (Bc (C6 rfl rfl rfl (.of (v:=EK xs) rfl (by omega) (by omega)) (.of (v:=EK xs) rfl (by omega) (by omega)) (.of (v:=12) rfl (by omega) rfl) (by omega) (by simp)) (v':=.slice (H7 (some ⟨sb,a,none⟩) 12 (EK xs) 1) (G0 xs).val.length (EK xs-12)) (by rw[d])) ?_
 refine gQ (CR (G0 xs) _ M i) ?_
 refine gu ?_
 exact⟨rfl,rfl⟩
theorem wCb(o:Option Addr)(c:Nat)(xs:List By)(M:Mem)(m:xs.length<=c)(hs:SM M o (Ab xs))(E:xs.length<=100000)(h:¬xs.length<12)(H:¬xs.length<EK xs)(G:BY (G0 xs)=0):
  SpecL prog 185 #[.slice o xs.length c] M [] λv z B=>∃n,v=.tuple #[.agg n.toArray,.int .i64 (EK xs),.int .i64 0]/\IR (Cf M z) n (G0 xs)/\B=[]:=by
 obtain⟨sb,b,t,d⟩:=hs.open (by intro e;have:=congrArg length e;rw[Af,length_nil]at this;omega)
 subst t
 have r:=(xs.getD 11 0).toNat_lt
 have F:EK xs=12+(xs.getD 11 0).toNat:=rfl
 have f:=QX (xs:=xs) (by omega)
 have g:SM M (H7 (some ⟨sb,b,none⟩) 12 (EK xs) 1) (Ab (G0 xs).val):=by
   by_cases D:EK xs=12
   ·left;have:(G0 xs).val=[]:=List.eq_nil_of_length_eq_zero (by omega);rw[this];rfl
   rw[AB (by omega)];exact .inr ⟨sb,_,rfl,SM.sub 12 (EK xs-12) d⟩
 have a:BS M (.slice (H7 (some ⟨sb,b,none⟩) 12 (EK xs) 1) (G0 xs).val.length (EK xs-12)) (G0 xs).val:=⟨_,_,rfl,by omega,g⟩
 refine sB func185 ntmps185 ?_;intro W
 refine gA λI=>?_
 refine gt ?_
 refine lq (AE rfl rfl rfl rfl ((d ((11:Int).toNat*1) _ (Cc (j:=11) (by omega))).cj _)) ?_
 refine lq (B7 rfl rfl rfl (by omega)) ?_
 refine gt ?_
 refine lq (AE rfl rfl rfl rfl ((d ((0:Int).toNat*1) _ (Cc (j:=0) (by omega))).cj _)) ?_
 refine gq (BC _ c xs 1 M hs m (by omega) (by omega)) ?_
 refine gq (BC _ c xs 5 M hs m (by omega) (by omega)) ?_
 refine gq (DJ _ c xs 9 M hs m (by omega) (by omega)) ?_
 refine lq (Bc (C6 rfl rfl rfl (.of (v:=EK xs) rfl (by omega) (by omega)) (.of (v:=EK xs) rfl (by omega) (by omega)) (.of (v:=12) rfl (by omega) rfl) (by omega) (by simp)) (v':=.slice (H7 (some ⟨sb,b,none⟩) 12 (EK xs) 1) (G0 xs).val.length (EK xs-12)) (by rw[f])) ?_
 refine gQ (CR (G0 xs) _ M a) ?_
 refine gt ?_
 refine gC (XF (G0 xs) _ M a (by omega)) ?_;rintro _ J _ s ⟨n,rfl,k,rfl⟩
 obtain⟨C,rfl,y,u,rfl,l,i⟩:=k
 refine gr ?_
 exact⟨_,rfl,⟨_,rfl,y,u,rfl,l,i⟩,rfl⟩
def mxB(xs:List By):Int:=(xs.drop 1).foldl (λm x=>max m (x.toNat:Int)) ((xs.getD 0 0).toNat:Int)
def mxK(xs:List By)(k:Nat):Int:=((xs.drop 1).take k).foldl (λm x=>max m (x.toNat:Int)) ((xs.getD 0 0).toNat:Int)
variable{k:Nat}
theorem wBd{xs:List By}(h:k+1<xs.length):mxK xs (k+1)=max (mxK xs k) (xs[k+1].toNat:Int):=by
 unfold mxK
 rw[List.take_succ_eq_append_getElem (by rw[length_drop];omega),List.foldl_append]
 grind
theorem mx_le(ys:List By):∀m:Int,m<=ys.foldl (λm x=>max m (x.toNat:Int)) m/\∀y∈ys,(y.toNat:Int)<=ys.foldl (λm x=>max m (x.toNat:Int)) m:=by
 induction ys with
 |nil=>grind
 |cons y ys a=>
  grind
theorem wHv(ys:List By)(h:∀y∈ys,y=0):ys.foldl (λm x=>max m (x.toNat:Int)) 0=0:=by
 induction ys with
 |nil=>rfl
 |cons y ys a=>simp_all
def C3(xs:List By):Bool:=xs.all (· ==0)
theorem MK{xs:List By}(h:0<xs.length):decide (0<mxB xs)= !C3 xs:=by
 obtain⟨x,ys,rfl⟩:=List.exists_cons_of_length_pos h
 by_cases c:∀y∈x::ys,y=0
 ·have g:C3 (x::ys)=true:=by grind[C3]
  simp_all [mxB,wHv]
 have g:C3 (x::ys)=false:=by
  rw[Bool.eq_false_iff];intro e;apply c;intro y d
  have:=List.all_eq_true.1 e y d;simpa using this
 have j:0<mxB (x::ys):=by
  have f:=mx_le ys ((x.toNat:Int))
  unfold mxB;simp only[List.drop_succ_cons,List.drop_zero,List.getD_cons_zero]
  obtain⟨y,a⟩:=Classical.not_forall.1 c
  obtain⟨d,b⟩:=Classical.not_imp.1 a
  have i:0<(y.toNat:Int):=by
   have:y.toNat≠0:=λe=>b (UInt8.toNat_inj.1 e)
   omega
  grind
 grind
theorem Ta(d:Option Addr)(c:Nat)(xs:List By)(M:Mem)(hs:SM M d (Ab xs))(i:xs.length<=1000000)(l:0<xs.length):
  SpecL prog 163 #[.slice d xs.length c] M [] λv _ _=>v=.int .u8 (mxB xs):=by
 obtain⟨sb,g,h,f⟩:=hs.open (by intro e;have:=congrArg length e;rw[Af,length_nil]at this;omega)
 subst h
 refine sB func163 ntmps163 ?_;intro W
 refine gt ?_
 refine lq (AE rfl rfl rfl rfl ((f ((0:Int).toNat*1) _ (Cc (j:=0) (by omega))).cj _)) ?_
 refine gh ?_
 refine Cz (α:=Nat) (λk=>[(0,.slice (some ⟨sb,g,none⟩) xs.length c),(3,.int .u8 (mxK xs k)),(4,.int .i64 ((k+1:Nat):Int))]) (λ_=>M) (λ_=>[]) (λk=>k+1<=xs.length) (λk=>xs.length-k) 0 (by omega) ?_
 rintro k hk
 try dsimp only at hk⊢
 refine gj (λb=>?_) λb=>?_
 ·refine gh ?_
  have a:k+1<xs.length:=by omega
  refine gh ?_
  refine lq (AE rfl rfl rfl rfl ((f ((((k+1:Nat):Int)).toNat*1) (.int .u8 xs[k+1].toNat) (by simp[Ab,a])).cj _)) ?_
  refine lq (qMax rfl rfl rfl rfl) ?_
  refine gh ?_
  refine Bw (k+1) (by omega) (hk:=(Keep.cons (t:=0) rfl (Keep.ceq (t:=3) rfl (by rw[wBd a]) (Keep.cons (t:=4) rfl Keep.nil))))
 refine gr ?_
 show Value.int _ (mxK xs k)=_
 unfold mxK mxB;rw[List.take_of_length_le (by rw[length_drop];omega)]
def Ac(p:It×Value):List Value:=[.int .u8 p.1.key.kind,.int .u32 p.1.key.id,.int .u32 p.1.key.off,.int .i64 p.1.ref,p.2]
theorem Ad(p:It×Value):(Ac p).length=5:=rfl
def NS(M:Mem)(v:Value)(xs:List It):Prop:=∃a c,∃ps:List (It×Value),v=.slice a xs.length c/\xs.length<=c/\SM M a (ps.flatMap Ac)/\ps.map (·.1)=xs/\∀p∈ps,BS M p.2 p.1.val
variable{M:Mem}{xs:List It}
theorem NS.mono{M':Mem}{v:Value}(h:NS M v xs)(b:MLe M M'):NS M' v xs:=by
 obtain⟨a,c,ps,j,i,g,f,e⟩:=h;exact⟨a,c,ps,j,i,g.mono b,f,λp d=>(e p d).mono b⟩
theorem NS.nil:NS M (.slice none 0 0) []:=⟨none,0,[],rfl,Nat.le_refl _,SM.nil,rfl,λ_ h=>by cases h⟩
def BB(above:Bool):Option Ky->List It->Bool
 |_,[]=>true
 |p,x::xs=> !BQ x&&(match p with|none=>true|some q=>Ap q x.key)&&(!above||(x.ref != 0&&x.val.length==0))&&BB above (some x.key) xs
def Cw(lv:Int)(xs:List It):Bool:=decide (0<=lv/\lv<6/\xs.length<=5/\(0<lv->xs.length≠0))&&BB (decide (0<lv)) none xs
def CW(lv:Int)(xs:List It):Int:=if Cw lv xs then 0 else 8
def Eg(xs:List It)(k:Nat):Option Ky:=match k with|0=>none|j+1=>(xs[j]?).map (·.key)
theorem Ht(x:It):(BQ x=true/\BY x=8)\/(BQ x=false/\BY x=0):=by
 grind[BY,BQ]
theorem S5(lv:Int)(xs:List It)(a:Option Addr)(c:Nat)(ps:List (It×Value))(M:Mem)(i:xs.length<=c)(hs:SM M a (ps.flatMap Ac))(hp:ps.map (·.1)=xs)(j:∀p∈ps,BS M p.2 p.1.val)(h:¬(0<=lv/\lv<6/\xs.length<=5/\(0<lv->xs.length≠0))):
  SpecL prog 154 #[.agg #[.int .i64 lv,.slice a xs.length c]] M [] λv _ _=>v=.int .i64 (CW lv xs):=by
 refine sB func154 ntmps154 ?_;intro W
 refine gA λk=>?_
 refine gj (λg=>?_) λg=>?_
 ·refine gj (λe=>?_) λe=>?_
  ·refine gr ?_
   omega
  refine gj (λd=>?_) λd=>?_
  ·refine gr ?_
   grind[CW,Cw]
  refine gj (λb=>?_) λb=>?_
  ·refine gr ?_
   grind[CW,Cw]
  refine gj (λf=>?_) λf=>?_
  ·refine gr ?_
   grind[CW,Cw]
  omega
 refine gj (λe=>?_) λe=>?_
 ·refine gr ?_
  grind[CW,Cw]
 refine gj (λd=>?_) λd=>?_
 ·refine gr ?_
  omega
 refine gj (λb=>?_) λb=>?_
 ·refine gr ?_
  grind[CW,Cw]
 omega
theorem U0(h:k<xs.length):Eg xs (k+1)=some xs[k].key:=by grind[Eg]
variable{ab:Bool}
theorem Ks(h:k<xs.length):BB ab (Eg xs k) (xs.drop k)=(!BQ xs[k]&&(match Eg xs k with|none=>true|some q=>Ap q xs[k].key)&&(!ab||(xs[k].ref != 0&&xs[k].val.length==0))&&BB ab (Eg xs (k+1)) (xs.drop (k+1))):=by
 rw[List.drop_eq_getElem_cons h,U0 h];rfl
abbrev Fk(x:It)(va:Option Addr)(vc:Nat):List Value:=[.int .u8 x.key.kind,.int .u32 x.key.id,.int .u32 x.key.off,.int .i64 x.ref,.slice va x.val.length vc]
variable{ps:List (It×Value)}{sb:Nat}
theorem Au{e:Nat}(h:∀i u,(ps.flatMap Ac)[i]? =some u->CM M sb (e+i) u)(hp:ps.map (·.1)=xs)(m:∀p∈ps,BS M p.2 p.1.val)(hk:k<xs.length):
  ∃c b,(∀i v,(Fk xs[k] c b)[i]? =some v->CM M sb (e+k*5+i) v)/\xs[k].val.length<=b/\SM M c (Ab xs[k].val):=by
 have a:k<ps.length:=by grind
 have d:xs[k]=ps[k].1:=by grind
 obtain⟨c,b,l,g,f⟩:=m ps[k] (List.getElem_mem a)
 rw[<-d]at l g f
 refine⟨c,b,λi v j=>Cs Ac 5 Ad h (show ps[k]? =some ps[k]by simp[a]) i v ?_,g,f⟩
 simp_all [Ac,Fk]
def Ja(ab:Bool)(xs:List It)(k:Nat)(h:k<xs.length):Bool:= !BQ xs[k]&&(match Eg xs k with|none=>true|some q=>Ap q xs[k].key)&&(!ab||(xs[k].ref != 0&&xs[k].val.length==0))
variable{lv:Int}
theorem Hi(a:decide (0<lv)=ab)(hk:k<xs.length)(c:BB ab none xs=BB ab (Eg xs k) (xs.drop k))(b:Ja ab xs k hk=false):CW lv xs=8:=by
 grind[CW,Cw,Ks,Ja]
theorem WL(hk:k<xs.length)(b:BB ab none xs=BB ab (Eg xs k) (xs.drop k))(a:Ja ab xs k hk=true):BB ab none xs=BB ab (Eg xs (k+1)) (xs.drop (k+1)):=by
 grind[Ks,Ja]
theorem wAv(h:0<=lv/\lv<6/\xs.length<=5/\(0<lv->xs.length≠0))(a:decide (0<lv)=ab)(hk:k=xs.length)(b:BB ab none xs=BB ab (Eg xs k) (xs.drop k)):CW lv xs=0:=by
 unfold CW Cw
 rw[if_pos]
 rw[a,b,drop_eq_nil_of_le (by omega)]
 simp only[Bool.and_eq_true,decide_eq_true_eq]
 exact⟨h,rfl⟩
theorem PD{x:It}(h:BY x≠0):BQ x=true/\BY x=8:=(Ht x).resolve_right λa=>h a.2
theorem CH{x:It}(h:BY x=0):BQ x=false:=((Ht x).resolve_left λa=>by rw[a.2]at h;cases h).1
theorem S4(lv:Int)(xs:List It)(a:Option Addr)(c:Nat)(ps:List (It×Value))(M:Mem)(O:xs.length<=c)(hs:SM M a (ps.flatMap Ac))(hp:ps.map (·.1)=xs)(D:∀p∈ps,BS M p.2 p.1.val)(h:0<=lv/\lv<6/\xs.length<=5/\(0<lv->xs.length≠0))(G:lv=0):
  SpecL prog 154 #[.agg #[.int .i64 lv,.slice a xs.length c]] M [] λv _ _=>v=.int .i64 (CW lv xs):=by
 have I:decide (0<lv)=false:=by grind
 refine sB func154 ntmps154 ?_;intro W
 refine gA λE=>?_
 refine gt ?_
 refine Cz (α:=Nat) (λk=>[(1,pB E),(3,.bool false),(34,.slice a xs.length c),(35,.int .i64 xs.length),(36,.int .i64 k)]) (λ_=>M) (λ_=>[(E,cE [.int .i64 lv,.slice a xs.length c] 135)]) (λk=>k<=xs.length/\BB false none xs=BB false (Eg xs k) (xs.drop k)) (λk=>xs.length-k) 0 ⟨Nat.zero_le _,rfl⟩ ?_
 rintro k ⟨H,r⟩
 try dsimp only at H r⊢
 refine gj (λy=>?_) λy=>?_
 ·refine gh ?_
  have d:k<xs.length:=by omega
  obtain⟨sb,F,K,C⟩:=hs.open (by intro e;have:=congrArg length e;rw[Aj Ac 5 Ad,length_nil]at this;have J:=congrArg length hp;rw[length_map]at J;omega)
  subst K
  obtain⟨B,z,m,g,f⟩:=Au C hp D d
  refine gh ?_
  refine lq (Bb (cs:=Fk xs[k] B z) rfl rfl rfl rfl rfl (λi v b=>(m i v b).cj _)) ?_
  refine ga λP=>?_
  refine gQ (CR xs[k] _ M ⟨B,z,rfl,g,f⟩) ?_
  refine gj (λu=>?_) λu=>?_
  ·refine gr ?_
   grind[PD,Hi,Ja]
  refine gh ?_
  refine JG [0,1,2,3,4,5,6,7,8,9,10,11,12,13,14,15,16,17,18,19,20,21,22,23,24,25,26,27,28] ?_
  refine gj (λt=>?_) λt=>?_
  ·refine dp rfl rfl ?_
   refine dq rfl (Ak rfl rfl rfl rfl rfl) ?_
   refine dq rfl (AE rfl rfl rfl rfl (CJ.loc rfl)) ?_
   refine dp rfl rfl ?_
   refine da rfl rfl (by omega) ?_
   obtain⟨j,rfl⟩:∃j,k=j+1:=⟨k-1,by omega⟩
   have l:j<xs.length:=by omega
   obtain⟨N,L,o,-,-⟩:=Au C hp D l
   refine dq rfl (Bc (Ca rfl rfl rfl rfl (by omega)) (v':=.pointer (some ⟨sb,F+j*5,none⟩)) (by congr 3;omega)) ?_
   refine gh ?_
   refine dq rfl (Bb (cs:=AG xs[j].key) rfl rfl rfl rfl rfl (λi v b=>(o i v (by match i,b with|0,b=>simpa [AG]using b|1,b=>simpa [AG]using b|2,b=>simpa [AG]using b|n+3,b=>simp[AG]at b)).cj _)) ?_
   refine gg ?_
   refine Qh rfl rfl rfl (CG rfl rfl rfl rfl rfl (by kernel_rfl) (Cd xs[j].key xs[j+1].key M)) (λs=>?_) (λs=>?_)
   ·refine gh ?_
    refine Bw (j+1+1) ⟨by omega,WL d r ?_⟩
    grind[Ja,Eg,CH]
   refine gr ?_
   grind[Hi,Ja,Eg]
  refine gh ?_
  refine Bw (k+1) ⟨by omega,WL d r ?_⟩
  simp_all [Ja,Eg,CH]
 refine gr ?_
 grind[wAv]
theorem SZ(lv:Int)(xs:List It)(a:Option Addr)(c:Nat)(ps:List (It×Value))(M:Mem)(Q:xs.length<=c)(hs:SM M a (ps.flatMap Ac))(hp:ps.map (·.1)=xs)(F:∀p∈ps,BS M p.2 p.1.val)(h:0<=lv/\lv<6/\xs.length<=5/\(0<lv->xs.length≠0))(I:0<lv):
  SpecL prog 154 #[.agg #[.int .i64 lv,.slice a xs.length c]] M [] λv _ _=>v=.int .i64 (CW lv xs):=by
 have K:decide (0<lv)=true:=by grind
 refine sB func154 ntmps154 ?_;intro W
 refine gA λG=>?_
 refine gt ?_
 refine Cz (α:=Nat) (λk=>[(1,pB G),(3,.bool true),(34,.slice a xs.length c),(35,.int .i64 xs.length),(36,.int .i64 k)]) (λ_=>M) (λ_=>[(G,cE [.int .i64 lv,.slice a xs.length c] 135)]) (λk=>k<=xs.length/\BB true none xs=BB true (Eg xs k) (xs.drop k)) (λk=>xs.length-k) 0 ⟨Nat.zero_le _,rfl⟩ ?_
 rintro k ⟨J,t⟩
 try dsimp only at J t⊢
 refine gj (λB=>?_) λB=>?_
 ·refine gh ?_
  have d:k<xs.length:=by omega
  obtain⟨sb,H,N,E⟩:=hs.open (by intro e;have:=congrArg length e;rw[Aj Ac 5 Ad,length_nil]at this;have L:=congrArg length hp;rw[length_map]at L;omega)
  subst N
  obtain⟨D,C,r,m,l⟩:=Au E hp F d
  refine gh ?_
  refine lq (Bb (cs:=Fk xs[k] D C) rfl rfl rfl rfl rfl (λi v b=>(r i v b).cj _)) ?_
  refine ga λR=>?_
  refine gQ (CR xs[k] _ M ⟨D,C,rfl,m,l⟩) ?_
  refine gj (λz=>?_) λz=>?_
  ·refine gr ?_
   grind[PD,Hi,Ja]
  refine gh ?_
  refine JG [0,1,2,3,4,5,6,7,8,9,10,11,12,13,14,15,16,17,18,19,20,21,22,23,24,25,26,27,28] ?_
  refine gj (λy=>?_) λy=>?_
  ·refine dp rfl rfl ?_
   refine dq rfl (Ak rfl rfl rfl rfl rfl) ?_
   refine dq rfl (AE rfl rfl rfl rfl (CJ.loc rfl)) ?_
   refine dp rfl rfl ?_
   refine da rfl rfl (by omega) ?_
   obtain⟨j,rfl⟩:∃j,k=j+1:=⟨k-1,by omega⟩
   have o:j<xs.length:=by omega
   obtain⟨P,O,s,-,-⟩:=Au E hp F o
   refine dq rfl (Bc (Ca rfl rfl rfl rfl (by omega)) (v':=.pointer (some ⟨sb,H+j*5,none⟩)) (by congr 3;omega)) ?_
   refine gh ?_
   refine dq rfl (Bb (cs:=AG xs[j].key) rfl rfl rfl rfl rfl (λi v b=>(s i v (by match i,b with|0,b=>simpa [AG]using b|1,b=>simpa [AG]using b|2,b=>simpa [AG]using b|n+3,b=>simp[AG]at b)).cj _)) ?_
   refine gg ?_
   refine Qh rfl rfl rfl (CG rfl rfl rfl rfl rfl (by kernel_rfl) (Cd xs[j].key xs[j+1].key M)) (λu=>?_) (λu=>?_)
   ·refine gj (λg=>?_) λg=>?_
    ·refine gr ?_
     grind[Hi,Ja]
    refine gj (λf=>?_) λf=>?_
    ·refine gr ?_
     grind[Hi,Ja]
    refine gh ?_
    refine Bw (j+1+1) ⟨by omega,WL d t ?_⟩
    grind[Ja,Eg,CH]
   refine gr ?_
   grind[Hi,Ja,Eg]
  refine gj (λg=>?_) λg=>?_
  ·refine gr ?_
   grind[Hi,Ja]
  refine gj (λf=>?_) λf=>?_
  ·refine gr ?_
   grind[Hi,Ja]
  refine gh ?_
  refine Bw (k+1) ⟨by omega,WL d t ?_⟩
  simp_all [Ja,Eg,CH]
 refine gr ?_
 grind[wAv]
theorem FI(lv:Int)(xs:List It)(s:Value)(M:Mem)(b:NS M s xs):SpecL prog 154 #[.agg #[.int .i64 lv,s]] M [] λv _ _=>v=.int .i64 (CW lv xs):=by
 obtain⟨a,c,ps,rfl,f,d,e,g⟩:=b
 grind[SZ,S4,S5]
end Go.Proofs.YtdahhoicackcaaaGreat
