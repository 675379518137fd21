/- Walks: superblocks found. -/
import Derived.Test.YtdahhoicackcaaaGreatZOwn
import Derived.Test.YtdahhoicackcaaaGreatZRing
import Derived.Test.YtdahhoicackcaaaGreatZHn
import Derived.Test.YtdahhoicackcaaaGreatZHv
namespace Go.Proofs.YtdahhoicackcaaaGreat
open Go.Proofs.Tryz
open List (range append_assoc replicate getElem_mem flatMap_cons length length_map)
set_option linter.unusedSimpArgs false
set_option linter.unusedVariables false
set_option linter.unusedSectionVars false
open Go.RowKit
set_option maxRecDepth 8000
theorem Ft(x:Int):((bU x).toNat:Int)=x%256:=by
 unfold bU
 rw[UInt8.toNat_ofNat']
 omega
theorem wCv(x:By):D5 [x]=(x.toNat:Int):=by
 have:∀n:Nat,n<256->D5 [UInt8.ofNat n]=((UInt8.ofNat n).toNat:Int):=by decide +kernel
 have h:=this x.toNat x.toNat_lt
 rwa[UInt8.ofNat_toNat]at h
variable{a:Int}
theorem RQ(h:0<=a/\a<16777216)(y:By):Uh .u32 (RP .u32 a 8) (y.toNat:Int)=a*256+(y.toNat:Int):=by
 have e:=y.toNat_lt
 have b:RP .u32 a 8=a*256:=by
  unfold RP
  rw[IntKind.wrap_u32,show (2:Int) ^ (min 8 IntKind.u32.bits)=256 by decide];omega
 rw[b]
 unfold Uh
 rw[IntKind.wrap_u32]
 have d:(BitVec.ofInt IntKind.u32.bits (a*256)).toNat=2 ^ 8*a.toNat:=by
  rw[BitVec.toNat_ofInt];show ((a*256)%4294967296).toNat=_;omega
 have c:(BitVec.ofInt IntKind.u32.bits (y.toNat:Int)).toNat=y.toNat:=by
  rw[BitVec.toNat_ofInt];show (((y.toNat:Int))%4294967296).toNat=_;omega
 rw[BitVec.toNat_or,d,c,<-Nat.two_pow_add_eq_or_of_lt (by omega)]
 omega
theorem TD(x y:By):D5 [x,y]=(x.toNat:Int)*256+(y.toNat:Int):=by
 have a:=x.toNat_lt
 show D5 ([x]++[y])=_
 rw[E0,wCv,RQ (by omega)]
theorem YL(x y z w:By):D5 [x,y,z,w]=(((x.toNat:Int)*256+(y.toNat:Int))*256+(z.toNat:Int))*256+(w.toNat:Int):=by
 have d:=x.toNat_lt
 have c:=y.toNat_lt
 have b:=z.toNat_lt
 have a:D5 [x,y,z]=((x.toNat:Int)*256+(y.toNat:Int))*256+(z.toNat:Int):=by
  show D5 ([x,y]++[z])=_
  rw[E0,TD,RQ (by omega)]
 show D5 ([x,y,z]++[w])=_
 rw[E0,a,RQ (by omega)]
variable{k:Int}
theorem KA(n:Int)(hk:0<k):n.fdiv k=n / k:=by rw[Int.fdiv_eq_ediv_of_nonneg _ (by omega)]
variable{n:Int}
theorem Eo(h:0<=n/\n<4294967296):D5 (A6 n).reverse=n:=by
 show D5 [bU (G2 .u32 n 24),bU (G2 .u32 n 16),bU (G2 .u32 n 8),bU n]=n
 rw[YL,Ft,Ft,Ft,Ft]
 have c:G2 .u32 n 8=n / 256:=KA n (by decide)
 have b:G2 .u32 n 16=n / 65536:=KA n (by decide)
 have a:G2 .u32 n 24=n / 16777216:=KA n (by decide)
 rw[c,b,a];omega
theorem J1(h:0<=n/\n<65536):D5 (Cy n).reverse=n:=by
 show D5 [bU (G2 .i64 n 8),bU n]=n
 rw[TD,Ft,Ft]
 have a:G2 .i64 n 8=n / 256:=KA n (by decide)
 rw[a];omega
variable{xs:List By}
theorem D4(pre b post:List By){a n:Nat}(c:xs=pre++(b++post))(e:a=pre.length)(d:n=b.length):Cl xs a n=D5 b.reverse:=by
 subst c e d
 unfold Cl
 rw[List.drop_left,List.take_left]
theorem LD(xs:List By):0<=FZ xs/\FZ xs<4294967296:=by
 unfold FZ RO;rw[IntKind.wrap_u32];omega
theorem XV(b:List By):(Hc b).drop 4=DX b:=rfl
variable{b:List By}
theorem Qb(h:b.length<=124):B4 (Hc b)=0:=by
 unfold B4
 rw[if_neg (by rw[F2 h];decide),if_neg]
 rw[XV,D4 (xs:=Hc b) (a:=0) (n:=4) [] (A6 (FZ (DX b))) (DX b) rfl rfl rfl,Eo (LD _)]
 exact λh=>h rfl
set_option maxRecDepth 8000
/- a superblock's numbers in a block -/
def Gs(xs:List By):Nat:=(xs.getD 18 0).toNat
def L5(xs:List By):Su:=⟨Cl (xs.drop 4) 0 4,Cl (xs.drop 4) 4 2,Cl (xs.drop 4) 6 4,Cl (xs.drop 4) 10 4,(range (Gs xs)).map λi=>Cl (xs.drop 4) (15+2*i) 2⟩
def L3(xs:List By):Prop:=B4 xs=0/\15+2*Gs xs<=124/\Ha (L5 xs)/\PG (L5 xs)=xs
instance(xs:List By):Decidable (L3 xs):=by unfold L3;exact inferInstance
theorem wFy(xs:List Int)(k:Nat)(h:k<xs.length):∃pre a,xs.flatMap Cy=pre++(Cy xs[k]++a)/\pre.length=2*k:=by
 refine⟨(xs.take k).flatMap Cy,(xs.drop (k+1)).flatMap Cy,?_,?_⟩
 ·rw [<-append_assoc,<-PX h,<-List.flatMap_append,List.take_append_drop]
 grind[Si]
theorem wGf{x:Su}(h:Ha x)(m:0<=x.gen/\x.gen<4294967296)(l:0<=x.next/\x.next<4294967296)(d:0<=x.table/\x.table<4294967296):Gs (PG x)=x.dead.length/\L5 (PG x)=x:=by
 obtain⟨o,j,s⟩:=h
 unfold tk at j
 have r:(PG x).drop 4=DX (Ey x):=rfl
 have ep:DX (Ey x)=A6 x.gen++(Cy x.root++(A6 x.next++(A6 x.table++([bU x.dead.length]++(x.dead.flatMap Cy++replicate (124-(Ey x).length) 0))))):=by
  grind[DX,Ey,KP]
 have c:Gs (PG x)=x.dead.length:=by
  have e:(PG x).getD 18 0=bU x.dead.length:=rfl
  grind[Gs,Ft]
 refine⟨c,?_⟩
 unfold L5
 rw[c,r]
 rw[D4 (xs:=DX (Ey x)) (a:=0) (n:=4) [] (A6 x.gen) _ (by rw[ep];rfl) rfl rfl,Eo m]
 rw[D4 (xs:=DX (Ey x)) (a:=4) (n:=2) (A6 x.gen) (Cy x.root) _ (by rw[ep]) rfl rfl,J1 (by omega)]
 rw[D4 (xs:=DX (Ey x)) (a:=6) (n:=4) (A6 x.gen++Cy x.root) (A6 x.next) _ (by rw[ep,append_assoc]) rfl rfl,Eo l]
 rw[D4 (xs:=DX (Ey x)) (a:=10) (n:=4) (A6 x.gen++(Cy x.root++A6 x.next)) (A6 x.table) ([bU x.dead.length]++(x.dead.flatMap Cy++replicate (124-(Ey x).length) 0)) (by rw[ep];simp only[append_assoc]) rfl rfl,Eo d]
 have f:((range x.dead.length).map λi=>Cl (DX (Ey x)) (15+2*i) 2)=x.dead:=by
  refine List.ext_getElem (by simp) λi t g=>?_
  rw[List.getElem_map,List.getElem_range]
  obtain⟨pre,b,e,k⟩:=wFy x.dead i g
  have d:=o _ (getElem_mem g)
  unfold tk at d
  rw[D4 (xs:=DX (Ey x)) (a:=15+2*i) (n:=2) (A6 x.gen++(Cy x.root++(A6 x.next++(A6 x.table++([bU x.dead.length]++pre))))) (Cy x.dead[i]) (b++replicate (124-(Ey x).length) 0) (by rw[ep,e];simp only[append_assoc]) (by simp only[List.length_append,k];show _=4+(2+(4+(4+(1+2*i))));omega) rfl,J1 (by omega)]
 simp_all
theorem wLc{x:Su}(h:Ha x)(d:0<=x.gen/\x.gen<4294967296)(c:0<=x.next/\x.next<4294967296)(b:0<=x.table/\x.table<4294967296):L3 (PG x)/\L5 (PG x)=x:=by
 obtain⟨e,a⟩:=wGf h d c b
 refine⟨⟨Qb (by rw[KO];have:=h.2.2;omega),by rw[e];have:=h.2.2;omega,by rw[a];exact h,by rw[a]⟩,a⟩
/- the superblocks that are found -/
def D6(s:Sto)(k:Nat):Option Su:=if L3 (seen s k)/\(L5 (seen s k)).gen%4=(k:Int)then some (L5 (seen s k))else none
def BD(s:Sto)(n:Nat):List Su:=(range n).filterMap (D6 s)
theorem Ln(s:Sto)(n:Nat):BD s (n+1)=BD s n++(D6 s n).toList:=by
 unfold BD
 rw[List.range_succ,List.filterMap_append]
 grind
theorem Kx(s:Sto):∀n,(BD s n).length<=n
 |0=>Nat.le_refl _
 |n+1=>by
  rw[Ln,List.length_append]
  have:=Kx s n
  cases D6 s n<;>simp<;>omega
variable{s:Sto}
theorem wDh{x:Su}(h:Ha x)(c:0<=x.gen/\x.gen<4294967296)(b:0<=x.next/\x.next<4294967296)(a:0<=x.table/\x.table<4294967296)(hs:seen s (x.gen%4).toNat=PG x):x∈BD s 4:=by
 obtain⟨e,d⟩:=wLc h c b a
 unfold BD
 rw[List.mem_filterMap]
 refine⟨(x.gen%4).toNat,by rw[List.mem_range];omega,?_⟩
 grind[D6]
set_option maxRecDepth 8000
set_option maxHeartbeats 40000000
abbrev Sr:=Su×Value
def Bm(p:Sr):List Value:=Uu p.1 p.2
theorem Ez(p:Sr):(Bm p).length=5:=rfl
theorem Wy(p:Sr)(a:List Value):∀(ys:List Sr)(k:Nat),k<ys.length->(ys.flatMap Bm++a).take (k*5)++Bm p++(ys.flatMap Bm++a).drop (k*5+(Bm p).length)=(ys.set k p).flatMap Bm++a
 |[],k,h=>by cases h
 |y::ys,0,_=>by
  have e:∀(z:Sr),(z::ys).flatMap Bm++a=Bm z++(ys.flatMap Bm++a):=λz=>by rw[flatMap_cons,append_assoc]
  rw[e y,List.set_cons_zero,e p]
  rfl
 |y::ys,k+1,h=>by
  have b:=Wy p a ys k (by simpa using h)
  have e:(y::ys).flatMap Bm++a=Bm y++(ys.flatMap Bm++a):=by rw[flatMap_cons,append_assoc]
  have d:(Bm y++(ys.flatMap Bm++a)).take ((k+1)*5)=Bm y++(ys.flatMap Bm++a).take (k*5):=by
   rw[show (k+1)*5=k*5+5 by omega];rfl
  have c:(Bm y++(ys.flatMap Bm++a)).drop ((k+1)*5+(Bm p).length)=(ys.flatMap Bm++a).drop (k*5+(Bm p).length):=by
   rw[Ez,show (k+1)*5+5=(k*5+5)+5 by omega];rfl
  rw[e,d,c,List.set_cons_succ,flatMap_cons,append_assoc (Bm y) _ a,<-b,append_assoc,append_assoc,append_assoc]
section
variable{P:Program}{ops:Array Oper}{N:Fs}{F:Fr}{E:Ent}{M:Mem}{L:Lc}{o:Oper}
theorem wLk{t e:TypeId}{x y:Operand}{b off f:Nat}(k:Nat){ys:List Sr}{a:List Value}{p:Sr}{L':Lc}{z:List Value}(n:gd ops F o=some true)(m:o.op=.store t x y)(j:ev F x=some (.pointer (some ⟨b,off,none⟩)))(i:ev F y=some (.agg (Bm p).toArray))
  [r:Lay P t 5 f z] (c:off=k*5) (l:p.2.oneCell'=true) (hk:k<ys.length) [at_:At b (cE (ys.flatMap Bm++a) e) L]
  [hp:PutAt b (cE (ys.flatMap Bm++a) e) (cE ((ys.set k p).flatMap Bm++a) e) L L']:
  HF P ops N F E M L o (λ_ M' g=>M=M'/\g=L'):=by
 subst c
 have d:PutAt b (cE (ys.flatMap Bm++a) e) (cE ((ys.flatMap Bm++a).take (k*5)++Bm p++(ys.flatMap Bm++a).drop (k*5+(Bm p).length)) e) L L':=by
  grind[Wy]
 refine JJ (hp:=d) n m j i rfl rfl (λu h=>?_) ?_
 ·simp only[Bm,Uu,List.mem_cons,List.not_mem_nil,or_false]at h
  rcases h with rfl|rfl|rfl|rfl|rfl
  ·rfl
  ·rfl
  ·rfl
  ·rfl
  omega
 rw[List.length_append,Aj Bm 5 Ez];have:=Ez p;omega
theorem wHd{x c:Operand}{t:TypeId}{k:IntKind}{i:Int}{s:ByteArray}{b:UInt8}(j:gd ops F o=some true)(f:o.op=.index t x c)(d:ev F x=some (.string s))(g:ev F c=some (.int k i))[e:Und P t .string](h:0<=i)(l:s[i.toNat]? =some b):QF P ops N F M L o (.int .u8 b.toNat):=
 BG j λn a w m=>by
  simp[execOp,f,a.ev d,a.ev g,Instr.index,asIntOf,run_underlying e.h,h,l]
end
variable{L:Lc}{M:Mem}{e:TypeId}{k:Nat}{sp:List Value}{ys:List Sr}
theorem WD{b:Nat}{off:Nat}(d:(b,cE (ys.flatMap Bm++sp) e)∈L)(hk:k<ys.length)(a:off=k*5):∀i v,(Bm ys[k])[i]? =some v->CJ M L b (off+i) v:=λi v c=>by
 subst a
 have f:i<5:=by rw[<-Ez ys[k]];exact(List.getElem?_eq_some_iff.1 c).1
 refine⟨_,_,_,.inr d,?_⟩
 rw[List.getElem?_toArray,List.getElem?_append_left (by rw[Aj Bm 5 Ez];omega),Kz Bm 5 Ez ys k i f,List.getElem?_eq_getElem hk]
 exact c
def RJ(a b:Int):Int:=if a<b then -1 else if a>b then 1 else 0
def tb(i:Int):By:=UInt8.ofNat (if i=0 then 0 else if i=1 then 1 else if i<=3 then 2 else 3)
def Dsc(ys:List Sr)(n:Nat):Prop:=∀a b,(h1:a<b)->(h2:b<n)->(h3:b<ys.length)->(ys[b]).1.gen<=(ys[a]'(by omega)).1.gen
structure DscX(ys:List Sr)(n j:Nat):Prop where
 off:∀a b,(h1:a<b)->(h2:b<n)->(h3:b<ys.length)->a≠j->b≠j->(ys[b]).1.gen<=(ys[a]'(by omega)).1.gen
 up:∀b,(h1:j<b)->(h2:b<n)->(h3:b<ys.length)->(ys[b]).1.gen<=(ys[j]'(by omega)).1.gen
theorem Dsc.start(ys:List Sr):Dsc ys 1:=λa b d c _=>by omega
variable{i:Nat}
theorem Dsc.x(h:Dsc ys i):DscX ys (i+1) i:=⟨λa b c e d g f=>h a b c (by omega) d,λb c e _=>by omega⟩
variable{n:Nat}
theorem DscX.end0(h:DscX ys n 0):Dsc ys n:=λa b f e d=>by
 by_cases c:a=0
 ·subst c;exact h.up b (by omega) e d
 exact h.off a b f e d c (by omega)
variable{j:Nat}
theorem DscX.stop(h:DscX ys n j)(l:j<ys.length)(m:0<j)(i:(ys[j]).1.gen<=(ys[j-1]'(by omega)).1.gen):Dsc ys n:=λa b k g f=>by
 by_cases e:a=j
 ·subst e;exact h.up b (by omega) g f
 by_cases d:b=j
 ·subst d
  by_cases c:a=b-1
  ·subst c;exact i
  have:=h.off a (b-1) (by omega) (by omega) (by omega) (by omega) (by omega);omega
 exact h.off a b k g f e d
theorem DscX.swap(h:DscX ys n j)(u:j<ys.length)(z:0<j)(y:(ys[j-1]'(by omega)).1.gen<(ys[j]).1.gen)(r:j<n):DscX ((ys.set j (ys[j-1]'(by omega))).set (j-1) ys[j]) n (j-1):=by
 have m:((ys.set j (ys[j-1]'(by omega))).set (j-1) ys[j]).length=ys.length:=by simp
 have g:∀k (hk:k<ys.length),(((ys.set j (ys[j-1]'(by omega))).set (j-1) ys[j])[k]'(by omega))=if k=j-1 then ys[j]else if k=j then (ys[j-1]'(by omega))else ys[k]:=λk hk=>by
  rw[List.getElem_set]
  by_cases l:j-1=k
  ·rw [if_pos l,if_pos l.symm]
  rw[if_neg l,if_neg (Ne.symm l),List.getElem_set]
  by_cases i:j=k
  ·rw [if_pos i,if_pos i.symm]
  rw[if_neg i,if_neg (Ne.symm i)]
 refine⟨λa b o e c t s=>?_,λb o e c=>?_⟩
 ·rw [m]at c
  rw[g b c,g a (by omega),if_neg t,if_neg s]
  by_cases f:a=j
  ·rw [if_pos f,if_neg (show ¬b=j by omega)]
   exact h.off (j-1) b (by omega) e c (by omega) (by omega)
  rw[if_neg f]
  by_cases d:b=j
  ·rw [if_pos d];exact h.off a (j-1) (by omega) (by omega) (by omega) f (by omega)
  rw[if_neg d];exact h.off a b o e c f d
 rw[m]at c
 rw[g b c,g (j-1) (by omega),if_pos rfl,if_neg (show ¬b=j-1 by omega)]
 by_cases d:b=j
 ·grind
 rw[if_neg d];exact h.up b (by omega) e c
variable{a:Int}
theorem wEh{b:Int}(h:RJ a b<0):a<b:=by
 grind[RJ]
theorem wEg{b:Int}(h:¬RJ a b<0):b<=a:=by
 grind[RJ]
theorem XN(h:j<ys.length)(a:0<j):((ys.set j (ys[j-1]'(by omega))).set (j-1) ys[j]).Perm ys:=by
 exact List.set_set_perm (i:=j) (j:=j-1) h (by omega)
theorem S6(a:Int)(M:Mem):
  SpecL prog 150 #[.int .u32 a] M [] λu _ _=>u=.bool false:=by
 refine sB func150 ntmps150 ?_;intro W
 refine gr ?_
 simp
theorem wEf(a b:Int)(M:Mem):
  SpecL prog 87 #[.int .u32 a,.int .u32 b] M [] λu _ _=>u=.int .i64 (RJ a b):=by
 refine sB func87 ntmps87 ?_;intro W
 refine gq (S6 a M) ?_
 refine gQ (S6 b M) ?_
 refine gj (λd=>?_) λd=>?_
 ·refine gr ?_
  grind[RJ]
 refine gj (λc=>?_) λc=>?_
 ·refine gr ?_
  grind[RJ]
 refine gr ?_
 grind[RJ]
theorem VQ(p q:Sr)(M:Mem):
  SpecL prog 86 #[.agg (Bm p).toArray,.agg (Bm q).toArray] M [] λu _ _=>u=.int .i64 (RJ q.1.gen p.1.gen):=by
 refine sB func86 ntmps86 ?_;intro W
 refine gh ?_
 refine lh (Bf (cs:=Bm p) rfl rfl rfl rfl) ?_;rintro _ _ _ ⟨b,rfl,rfl,rfl⟩
 refine lh (Bf (cs:=Bm q) rfl rfl rfl rfl) ?_;rintro _ _ _ ⟨a,rfl,rfl,rfl⟩
 refine gq (wEf q.1.gen p.1.gen M) ?_
 refine gr ?_
 rfl
theorem Vv(g:Nat)(e:TypeId)(n:List Value)(xs:List Sr)(c:Nat)(M:Mem)(r:∀p∈xs,p.2.oneCell'=true)(I:xs.length<=1000000):
  SpecL prog 191 #[.slice (some ⟨g,0,none⟩) xs.length c,.int .i64 0,.int .i64 xs.length,.func (.func 86) #[] #[]] M [(g,cE (xs.flatMap Bm++n) e)] λ_ M' H=>∃ys:List Sr,ys.Perm xs/\Dsc ys xs.length/\H=[(g,cE (ys.flatMap Bm++n) e)]:=by
 refine sB func191 ntmps191 ?_;intro W
 refine gh ?_
 refine Cz (α:=Nat×List Sr) (λy=>[(0,.slice (some ⟨g,0,none⟩) xs.length c),(1,.int .i64 0),(2,.int .i64 xs.length),(3,.func (.func 86) #[] #[]),(8,.int .i64 y.1)]) (λ_=>M) (λy=>[(g,cE (y.2.flatMap Bm++n) e)]) (λy=>1<=y.1/\y.2.Perm xs/\Dsc y.2 y.1) (λy=>xs.length-y.1) (1,xs) ⟨Nat.le_refl _,List.Perm.refl _,Dsc.start _⟩ ?_
 rintro⟨i,s⟩ ⟨F,f,m⟩
 try dsimp only at F f m⊢
 refine gj (λC=>?_) λC=>?_
 ·refine gh ?_
  refine Cz (α:=Nat×List Sr) (λy=>[(0,.slice (some ⟨g,0,none⟩) xs.length c),(1,.int .i64 0),(2,.int .i64 xs.length),(3,.func (.func 86) #[] #[]),(8,.int .i64 i),(9,.int .i64 y.1)]) (λ_=>M) (λy=>[(g,cE (y.2.flatMap Bm++n) e)]) (λy=>y.1<=i/\y.2.Perm xs/\DscX y.2 (i+1) y.1) (λy=>y.1) (i,s) ⟨Nat.le_refl _,f,m.x⟩ ?_
  rintro⟨j,ys⟩ ⟨E,k,o⟩
  try dsimp only at E k o⊢
  refine gh ?_
  refine LL [0,1,2,3,4,5,6,7,8,9,10,11,12,13,14,15,16] [(g,cE (ys.flatMap Bm++n) e)] ?_
  refine gj (λB=>?_) λB=>?_
  ·refine gh ?_
   have D:=k.length_eq
   have d:j<ys.length:=by omega
   have h:j-1<ys.length:=by omega
   refine gh ?_
   refine dq rfl (Bb (cs:=Bm ys[j]) rfl rfl rfl rfl rfl (WD (List.Mem.head _) d (by simp))) ?_
   refine gh ?_
   refine dq rfl (Bb (cs:=Bm ys[j-1]) rfl rfl rfl rfl rfl (WD (List.Mem.head _) h (by simp))) ?_
   refine gQ (VQ ys[j] ys[j-1] M) ?_
   refine gj (λz=>?_) λz=>?_
   ·refine gh ?_
    refine Hr [15,17] [2,3,4,15,16,17] [0,1,2,3,4,5,6,7,8,9,10,11,12,13,14,115,16,117] M ([(g,cE (ys.flatMap Bm++n) e)]) ([]) ?_
    iterate 4 refine dp rfl rfl ?_
    refine Vr rfl rfl rfl (wMo rfl rfl rfl rfl rfl (by rw[IntKind.wrap_i64];omega)) ?_
    refine gh ?_
    refine dq rfl (Bb (cs:=Bm ys[j-1]) rfl rfl rfl rfl rfl (WD (List.Mem.head _) h (by simp))) ?_
    refine gh ?_
    refine dq rfl (Bb (cs:=Bm ys[j]) rfl rfl rfl rfl rfl (WD (List.Mem.head _) d (by simp))) ?_
    refine gh ?_
    refine Ed rfl rfl (wLk j rfl rfl rfl rfl (by simp) (r _ (k.subset (getElem_mem h))) d) ?_;rintro _ _ _ ⟨rfl,rfl⟩
    refine⟨MLe.refl _,by simp,?_⟩
    refine Hq rfl rfl rfl (Ca rfl rfl rfl rfl (by omega)) ?_
    refine G1 rfl rfl (wLk (j-1) rfl rfl rfl rfl (by simp) (r _ (k.subset (getElem_mem d))) (by rw[List.length_set];exact h)) ?_;rintro _ _ _ ⟨rfl,rfl⟩
    refine⟨MLe.refl _,by simp,?_⟩
    refine gh ?_
    refine Bw (j-1,_) ⟨by show j-1<=i;omega,(XN d (by omega)).trans k,o.swap d (by omega) (wEh (by omega)) (by omega)⟩ (hk:=(Keep.cons (t:=0) rfl (Keep.cons (t:=1) rfl (Keep.cons (t:=2) rfl (Keep.cons (t:=3) rfl (Keep.cons (t:=8) rfl (Keep.ceq (t:=9) rfl (congrArg (Value.int .i64) (by show (j:Int)-1=((j-1:Nat):Int);omega)) Keep.nil)))))))
   refine gh ?_
   have l:Dsc ys (i+1):=o.stop d (by omega) (wEg (by omega))
   refine Bw (i+1,ys) ⟨by show 1<=i+1;omega,k,l⟩
  refine gh ?_
  have l:Dsc ys (i+1):=by
   have u:j=0:=by omega
   subst u;exact o.end0
  refine Bw (i+1,ys) ⟨by show 1<=i+1;omega,k,l⟩
 refine gh ?_
 refine Ug ?_
 refine JV (rs:=[]) rfl .nil ?_
 refine⟨_,f,λa b r J G=>m a b r (by have:=f.length_eq;omega) G,rfl⟩
theorem wAi(g:Nat)(e:TypeId)(b:List Value)(xs:List Sr)(c:Nat)(M:Mem)(f:∀p∈xs,p.2.oneCell'=true)(j:xs.length<=12)(a:Int):
  SpecL prog 148 #[.slice (some ⟨g,0,none⟩) xs.length c,.int .i64 0,.int .i64 xs.length,.int .i64 a,.func (.func 86) #[] #[]] M [(g,cE (xs.flatMap Bm++b) e)] λ_ M' h=>∃ys:List Sr,ys.Perm xs/\Dsc ys xs.length/\h=[(g,cE (ys.flatMap Bm++b) e)]:=by
 refine sB func148 ntmps148 ?_;intro W
 refine gh ?_
 refine Cz (α:=Unit) (λ_=>[(0,.slice (some ⟨g,0,none⟩) xs.length c),(1,.int .i64 0),(2,.int .i64 xs.length),(3,.int .i64 a),(4,.func (.func 86) #[] #[])]) (λ_=>M) (λ_=>[(g,cE (xs.flatMap Bm++b) e)]) (λ_=>True) (λ_=>0) () trivial ?_
 rintro _ _
 refine gt ?_
 refine gC (Vv g e b xs c M f (by omega)) ?_;rintro _ l _ d ⟨ys,i,k,rfl⟩
 refine gh ?_
 refine JV (rs:=[]) rfl .nil ?_
 grind
theorem Vh(n:Int)(M:Mem)(h:0<=n/\n<5):
  SpecL prog 200 #[.int .u64 n] M [] λu M' d=>u=.int .i64 (0+((tb n).toNat:Int)):=by
 refine sB func200 ntmps200 ?_;intro W
 refine gt ?_
 have a:=(tb n).toNat_lt
 refine lq (ND rfl rfl rfl (by rw[IntKind.wrap_u8];omega)) ?_
 refine lq (wHd (b:=tb n) rfl rfl rfl rfl (by omega) (by have c:n=0\/n=1\/n=2\/n=3\/n=4:=(by omega);rcases c with rfl|rfl|rfl|rfl|rfl<;>decide +kernel)) ?_
 refine lq (B7 rfl rfl rfl (by omega)) ?_
 refine gr ?_
 rfl
theorem wBj(n:Int)(M:Mem)(h:0<=n/\n<5):
  SpecL prog 149 #[.int .u64 n] M [] λu M' a=>u=.int .i64 (0+((tb n).toNat:Int)):=by
 refine sB func149 ntmps149 ?_;intro W
 refine gq (Vh n M h) ?_
 refine gr ?_
 rfl
theorem UC(g:Nat)(e:TypeId)(a:List Value)(xs:List Sr)(c:Nat)(M:Mem)(d:∀p∈xs,p.2.oneCell'=true)(i:xs.length<=4):
  SpecL prog 85 #[.slice (some ⟨g,0,none⟩) xs.length c,.func (.func 86) #[] #[]] M [(g,cE (xs.flatMap Bm++a) e)] λ_ M' f=>∃ys:List Sr,ys.Perm xs/\Dsc ys xs.length/\f=[(g,cE (ys.flatMap Bm++a) e)]:=by
 refine sB func85 ntmps85 ?_;intro W
 refine gh ?_
 refine lq (ND rfl rfl rfl (by rw[IntKind.wrap_u64];omega)) ?_
 refine gq (wBj xs.length M (by omega)) ?_
 refine gC (wAi g e a xs c M d (by omega) _) ?_;rintro _ k _ b ⟨ys,h,j,rfl⟩
 refine gh ?_
 refine Ug ?_
 refine JV (rs:=[]) rfl .nil ?_
 grind
set_option maxRecDepth 8000
set_option maxHeartbeats 40000000
def gt2(xs:List By)(a:Nat):Int:=if a+2<=xs.length then Cl xs a 2 else 0
def ge2(xs:List By)(a:Nat):Int:=if a+2<=xs.length then 0 else 8
theorem Gi(xs:List By)(a:Nat):(ge2 xs a=0/\a+2<=xs.length/\gt2 xs a=Cl xs a 2)\/(ge2 xs a=8/\¬a+2<=xs.length):=by
 grind[ge2,gt2]
theorem wCm(b:Option Addr)(c:Nat)(xs:List By)(a:Nat)(M:Mem)(hs:SM M b (Ab xs))(i:xs.length<=c)(g:a<=1000)(f:xs.length<=1000000)(e:Int)(d:e=(a:Int)):
  SpecL prog 147 #[.slice b xs.length c,.int .i64 e] M [] λv _ _=>v=.tuple #[.int .i64 (gt2 xs a),.int .i64 (ge2 xs a)]:=by
 subst d
 unfold gt2 ge2
 by_cases h:a+2<=xs.length
 ·grind [DJ]
 rw[if_neg h,if_neg h];exact Pk b c xs a M f h g
def wLp(xs:List By)(k:Nat):List Int:=(range k).map λi=>Cl (xs.drop 4) (15+2*i) 2
theorem wDn(xs:List By)(k:Nat):wLp xs (k+1)=wLp xs k++[Cl (xs.drop 4) (15+2*k) 2]:=by
 unfold wLp;rw[List.range_succ,List.map_append];rfl
theorem ZR(xs:List By):(L5 xs).dead=wLp xs (Gs xs):=rfl
theorem wKc(xs:List By)(k:Nat):(wLp xs k).length=k:=by simp[wLp]
theorem DV(xs:List By):(L5 xs).dead.length=Gs xs:=wKc _ _
def RdP(xs:List By)(u:Value)(M':Mem):Prop:=∃x dv e,u=.tuple #[.agg (Uu x dv).toArray,.int .i64 e]/\((e=0/\L3 xs/\x=L5 xs/\NI M' dv x.dead)\/(e≠0/\¬L3 xs/\dv=.slice none 0 0))
variable{M':Mem}{u:Value}
theorem RwP.form{x:Su}(h:if Ha x then ∃s,u=.tuple #[s,.int .i64 0]/\BS M' s (PG x)else u=.tuple #[.slice none 0 0,.int .i64 8]):
  ∃a n c e,u=.tuple #[.slice a n c,.int .i64 e]/\((e=0/\Ha x/\BS M' (.slice a n c) (PG x))\/(e≠0/\¬Ha x)):=by
 split at h
 ·rename_i b
  obtain⟨s,rfl,a,c,rfl,f,d⟩:=h
  exact⟨a,_,c,0,rfl,.inl ⟨rfl,b,a,c,rfl,f,d⟩⟩
 grind
variable{xs:List By}
theorem wGg(h:B4 xs≠0):¬L3 xs:=λk=>h k.1
theorem Yl(h:B4 xs=0):xs.length=128:=by
 grind[B4]
theorem UM(xs:List By)(L:Option Addr)(K:Nat)(M:Mem)(I:BS M (.slice L xs.length K) xs):
  SpecL prog 83 #[.slice L xs.length K] M [] λu M' L'=>RdP xs u M'/\L'=[]:=by
 refine sB func83 ntmps83 ?_;intro W
 refine ga λV=>?_
 refine gC (Gb _ xs M I) ?_;rintro _ H _ S ⟨s,rfl,hs,rfl⟩
 simp only[List.nil_append]
 refine gj (λD=>?_) λD=>?_
 ·refine gr ?_
  exact⟨⟨⟨0,0,0,0,[]⟩,_,B4 xs,rfl,.inr ⟨D,wGg D,rfl⟩⟩,rfl⟩
 refine Am (jT (FM rfl (D0 (jT (Ao (Ah ?_))))))
 refine jp rfl ?_
 have f:B4 xs=0:=Classical.not_not.1 D
 have Z:xs.length=128:=Yl f
 obtain⟨sa,G,rfl,l,d⟩:=hs f
 have ab:(xs.drop 4).length=124:=by grind
 obtain⟨Y,X,e0,hx⟩:=d.open (by intro e;have:=congrArg length e;rw[Af,List.length_nil]at this;omega)
 subst e0
 have O:((xs.drop 4).getD 14 0).toNat=Gs xs:=by unfold Gs;simp[List.getD,List.getElem?_drop]
 have aa:=((xs.drop 4).getD 14 0).toNat_lt
 refine gq (BC _ G (xs.drop 4) 0 H d l (by omega) (by omega)) ?_
 refine gq (DJ _ G (xs.drop 4) 4 H d l (by omega) (by omega)) ?_
 refine gq (BC _ G (xs.drop 4) 6 H d l (by omega) (by omega)) ?_
 refine gq (BC _ G (xs.drop 4) 10 H d l (by omega) (by omega)) ?_
 refine lq (AE rfl rfl rfl rfl ((hx ((14:Int).toNat*1) _ (Cc (j:=14) (by omega))).cj _)) ?_
 refine lq (Bc (B7 rfl rfl rfl (by omega)) (v':=.int .i64 (Gs xs)) (by rw[O])) ?_
 refine gh ?_
 refine Cz (α:=Nat×Lc×Value) (λy=>[(0,.slice L xs.length K),(2,pB V),(4,.slice (some ⟨Y,X,none⟩) (xs.drop 4).length G),(46,.int .i64 (Gs xs)),(47,.int .i64 y.1)]) (λ_=>H) (λy=>y.2.1++[(V,cE (Uu ⟨Cl (xs.drop 4) 0 4,Cl (xs.drop 4) 4 2,Cl (xs.drop 4) 6 4,Cl (xs.drop 4) 10 4,[]⟩ y.2.2) wPb)]) (λy=>y.1<=Gs xs/\15+2*y.1<=124/\Own y.2.2 y.2.1 3 1 y.1 (Al (wLp xs y.1))) (λy=>Gs xs-y.1) (0,[],.slice none 0 0) ⟨Nat.zero_le _,by decide,Own.nil _ _⟩ ?_
 rintro⟨k,R,s⟩ ⟨hk,o,c⟩
 try dsimp only at hk o c⊢
 obtain⟨F,E,rfl⟩:=c.form
 refine gj (λU=>?_) λU=>?_
 ·refine Am (jT (Ao (GI rfl (D0 (jT (Ao (Ge (Ao (Ah ?_)))))))))
  iterate 2 refine jp rfl ?_
  refine Am (jT (Ao (Ah ?_)))
  iterate 2 refine jp rfl ?_
  refine ja rfl (by omega) ?_
  refine ja rfl (by omega) ?_
  refine lq (CG rfl rfl rfl rfl rfl (by kernel_rfl) (wCm _ G (xs.drop 4) (15+2*k) H d l (by omega) (by omega) _ (by omega))) ?_
  iterate 5 refine jp rfl ?_
  refine Am (jT (Ao (Ao (Ah ?_))))
  refine jp rfl ?_
  refine gj (λT=>?_) λT=>?_
  ·refine gr ?_
   first|(refine⟨⟨⟨0,0,0,0,[]⟩,.slice none 0 0,8,rfl,.inr ⟨by decide,λh=>(by have a:=h.2.1;have J:=Gi (xs.drop 4) (15+2*k);omega),rfl⟩⟩,rfl⟩;done)|(refine⟨⟨⟨0,0,0,0,[]⟩,.slice none 0 0,8,rfl,.inr ⟨by decide,λh=>(by rcases g with⟨a,_⟩|⟨_,a⟩;exact B a;exact a h.2.2.1),rfl⟩⟩,rfl⟩;done)|(refine⟨⟨⟨0,0,0,0,[]⟩,.slice none 0 0,8,rfl,.inr ⟨by decide,λh=>(by exact(of_decide_eq_false b) h.2.2.2),rfl⟩⟩,rfl⟩;done)|(refine⟨⟨L5 xs,.slice F (Gs xs) E,0,rfl,.inl ⟨rfl,⟨f,o,C,of_decide_eq_true b⟩,rfl,F,E,by rw[DV],by rw[DV];exact t,r.mono z⟩⟩,rfl⟩;done)
  refine gh ?_
  refine lh (Aa (cs:=[_]) rfl rfl rfl (by rfl) (by rfl) (by rfl)) ?_;rintro _ _ _ ⟨ac,rfl,rfl,rfl⟩
  refine lh (Ba (R:=R) (m:=1) rfl rfl rfl rfl c rfl (λi v I=>CJ.loc (by simpa using I)) rfl (by rfl) (by simp[Value.oneCell']) (by omega) (by omega)) ?_;rintro s2 _ _ ⟨rfl,R2,rfl,n,_⟩
  obtain⟨a2,c2,rfl⟩:=n.form
  refine gh ?_
  have J:=Gi (xs.drop 4) (15+2*k)
  have P:15+2*k+2<=(xs.drop 4).length/\gt2 (xs.drop 4) (15+2*k)=Cl (xs.drop 4) (15+2*k) 2:=by
   omega
  refine Bw (k+1,R2,.slice a2 (k+1) c2) ⟨by show k+1<=Gs xs;omega,by show 15+2*(k+1)<=124;omega,by show Own _ _ _ _ _ (Al (wLp xs (k+1)));rw[wDn,<-P.2];simpa [Al]using n⟩ (hs:=λ_ h=>h.fewer (.append (List.Sublist.refl _) (.cons _ (List.Sublist.refl _))))
 refine gh ?_
 obtain rfl:k=Gs xs:=by omega
 refine EM c (by simp) ?_
 intro M2 da dc Q ed t r;cases ed
 refine gc (by have a:=LH (L5 xs) F E M2 (by rw[DV];exact t) (by rw[ZR];exact r) (by rw[DV];omega);rw[DV]at a;exact a) ?_;rintro _ M3 z hw
 obtain⟨wa,wn,wc,we,rfl,g⟩:=RwP.form hw
 refine gj (λB=>?_) λB=>?_
 ·refine gr ?_
  first|(refine⟨⟨⟨0,0,0,0,[]⟩,.slice none 0 0,8,rfl,.inr ⟨by decide,λh=>(by have a:=h.2.1;have J:=Gi (xs.drop 4) (15+2*k);omega),rfl⟩⟩,rfl⟩;done)|(refine⟨⟨⟨0,0,0,0,[]⟩,.slice none 0 0,8,rfl,.inr ⟨by decide,λh=>(by rcases g with⟨a,_⟩|⟨_,a⟩;exact B a;exact a h.2.2.1),rfl⟩⟩,rfl⟩;done)|(refine⟨⟨⟨0,0,0,0,[]⟩,.slice none 0 0,8,rfl,.inr ⟨by decide,λh=>(by exact(of_decide_eq_false b) h.2.2.2),rfl⟩⟩,rfl⟩;done)|(refine⟨⟨L5 xs,.slice F (Gs xs) E,0,rfl,.inl ⟨rfl,⟨f,o,C,of_decide_eq_true b⟩,rfl,F,E,by rw[DV],by rw[DV];exact t,r.mono z⟩⟩,rfl⟩;done)
 refine gg ?_
 obtain⟨_,C,N⟩|⟨a,_⟩:=g
 rotate_left
 ·omega
 refine Br rfl rfl (CG rfl rfl rfl rfl rfl (by kernel_rfl) (JP _ _ (PG (L5 xs)) xs M3 N (I.mono ((S.trans Q).trans z)))) (λb=>?_) (λb=>?_)
 ·refine gr ?_
  first|(refine⟨⟨⟨0,0,0,0,[]⟩,.slice none 0 0,8,rfl,.inr ⟨by decide,λh=>(by have a:=h.2.1;have J:=Gi (xs.drop 4) (15+2*k);omega),rfl⟩⟩,rfl⟩;done)|(refine⟨⟨⟨0,0,0,0,[]⟩,.slice none 0 0,8,rfl,.inr ⟨by decide,λh=>(by rcases g with⟨a,_⟩|⟨_,a⟩;exact B a;exact a h.2.2.1),rfl⟩⟩,rfl⟩;done)|(refine⟨⟨⟨0,0,0,0,[]⟩,.slice none 0 0,8,rfl,.inr ⟨by decide,λh=>(by exact(of_decide_eq_false b) h.2.2.2),rfl⟩⟩,rfl⟩;done)|(refine⟨⟨L5 xs,.slice F (Gs xs) E,0,rfl,.inl ⟨rfl,⟨f,o,C,of_decide_eq_true b⟩,rfl,F,E,by rw[DV],by rw[DV];exact t,r.mono z⟩⟩,rfl⟩;done)
 refine gr ?_
 first|(refine⟨⟨⟨0,0,0,0,[]⟩,.slice none 0 0,8,rfl,.inr ⟨by decide,λh=>(by have a:=h.2.1;have J:=Gi (xs.drop 4) (15+2*k);omega),rfl⟩⟩,rfl⟩;done)|(refine⟨⟨⟨0,0,0,0,[]⟩,.slice none 0 0,8,rfl,.inr ⟨by decide,λh=>(by rcases g with⟨a,_⟩|⟨_,a⟩;exact B a;exact a h.2.2.1),rfl⟩⟩,rfl⟩;done)|(refine⟨⟨⟨0,0,0,0,[]⟩,.slice none 0 0,8,rfl,.inr ⟨by decide,λh=>(by exact(of_decide_eq_false b) h.2.2.2),rfl⟩⟩,rfl⟩;done)|(refine⟨⟨L5 xs,.slice F (Gs xs) E,0,rfl,.inl ⟨rfl,⟨f,o,C,of_decide_eq_true b⟩,rfl,F,E,by rw[DV],by rw[DV];exact t,r.mono z⟩⟩,rfl⟩;done)
theorem UN(xs:List By)(v:Value)(M:Mem)(h:BS M v xs):SpecL prog 83 #[v] M [] λu M' b=>RdP xs u M'/\b=[]:=by
 obtain⟨a,c,rfl,_⟩:=id h
 grind[UM]
theorem RdP.form(h:RdP xs u M'):∃x da dn b e,u=.tuple #[.agg (Uu x (.slice da dn b)).toArray,.int .i64 e]/\((e=0/\L3 xs/\x=L5 xs/\NI M' (.slice da dn b) x.dead)\/(e≠0/\¬L3 xs)):=by
 obtain⟨x,j,e,rfl,⟨g,f,i,d⟩|⟨g,f,rfl⟩⟩:=h
 ·obtain ⟨a,c,rfl,_⟩:=id d
  grind
 grind
set_option maxRecDepth 8000
set_option maxHeartbeats 40000000
section
variable{P:Program}{ops:Array Oper}{N:Fs}{F:Fr}{W:World}{X:List Nat}{M0 M:Mem}{L:Lc}{Q:Exit->Act->World->Prop}{rest:List Oper}
theorem wJg{v:Value}{R L2:Lc}{e:TypeId}{c n:Nat}{xs:List Value}(s:Own v R e c n xs)[hp:Pick R L L2](t:∀x∈X,x∈L2.map (·.1))
  (h:∀M' a b,MLe M M'->v=.slice a n b->n<=b->SM M' a xs->JL P ops N Q rest F ⟨W,X,M0⟩ M' L2):JL P ops N Q rest F ⟨W,X,M0⟩ M L:=by
 intro a w y r
 have d:=r.perm hp.perm
 have i:=d.nodup
 rw[List.map_append]at i
 have u:=(List.nodup_append.1 i).2.2
 obtain⟨M',z,b,o,m,l,k,j⟩:=s.freeze (λp g f=>u _ (List.mem_map_of_mem g) _ (t _ f) rfl) d
 exact h M' z b o m l k a w y j
end
variable{k:Nat}{s:Sto}
theorem ZN(h:dkOk s.blocks s.waits)(hk:k<256):(seen s k).length=128:=by
 obtain⟨d,c,b,a⟩:=h
 grind[seen,Dy]
theorem VW(s:Sto)(k:Nat)(hk:k<256)(H:dkOk s.blocks s.waits)(bv:Value)(z:Option Addr)(t:Nat)(ps:List (Wt×Value))(M:Mem)(h1:LS M bv s.blocks)(S:s.waits.length<=t)(F:SM M z (ps.flatMap AT))(hp:ps.map (·.1)=s.waits)(hb:∀q∈ps,BS M q.2 q.1.2):
  SpecL prog 82 #[.agg #[bv,.slice z s.waits.length t],.int .i64 k] M [] λu M' L'=>(∃v,u=.tuple #[v,.int .i64 0]/\BS M' v (seen s k))/\L'=[]:=by
 obtain⟨ap,ao,Y,X⟩:=id H
 have ah:=h1
 obtain⟨ba,bc,ak,rfl,au,ad,I,ae⟩:=h1
 obtain⟨bb,bo,e0,ac⟩:=ad.open (by intro e;have:=congrArg length e;rw[length_map,List.length_nil]at this;have h2:=congrArg length I;rw[length_map]at h2;omega)
 subst e0
 obtain⟨va,vc,aa,U,T⟩:=Cn ac I ae (k:=k) (by omega)
 have E:WS M (.slice z s.waits.length t) s.waits:=⟨z,t,ps,rfl,S,F,hp,hb⟩
 have aq:s.blocks[k].length=128:=Y _ (getElem_mem _)
 refine sB func82 ntmps82 ?_;intro W
 refine ga λb2=>?_
 refine lh (Bf (cs:=[.int .i64 k]) rfl rfl rfl rfl) ?_;rintro _ _ _ ⟨b3,rfl,rfl,rfl⟩
 refine EV λL K=>?_
 refine gQ (HE s.blocks s.waits _ _ M ah E H k (by omega)) ?_
 refine gt ?_
 refine gC (bww _ _ _ M) ?_;rintro _ M1 _ f ⟨ai,rfl,m,rfl⟩
 have Z:ps.length=s.waits.length:=by grind
 rw[<-Z]at m
 refine gh ?_
 refine B1 b2 (by simp) ?_
 intro av n e2
 refine B1 b3 (by simp) ?_
 intro aj i e3
 replace e2:=i _ _ e2
 replace m:=i _ _ (n _ _ m)
 replace f:=f.trans (n.trans i)
 refine D1 (R:=[(K,cE [.int .i64 0] 39),(L,cE [.slice none 0 0] 30)]) (xs:=bw ps 0) (enc:=(λp:(Wt×Value)×Nat=>[.int .i64 p.2,.agg (AT p.1).toArray])) (ps:=[18,19]) rfl (by kernel_rfl) (Py ai z t ps aj m (F.mono f) (by omega))
  (λpre _ R=>R=[(K,cE [.int .i64 0] 39),(L,cE [.slice none 0 0] 30)]/\∀q∈pre,q.1.1.1≠(k:Int))
  (λc _ M' R=>c=.ret/\∃v,R=[(K,cE [.int .i64 0] 39),(L,cE [v] 30)]/\BS M' v (seen s k))
  (λ_=>rfl) (by decide) ⟨rfl,λ_ h=>by cases h⟩ ?_ ?_ ?_
 ·intro l W2 pre y Q R2 a j g
  obtain⟨rfl,j⟩:=j
  have C:y.1∈ps:=Pz (g.subset (by simp))
  obtain⟨⟨N,yv⟩,yi⟩:=y
  have D:=hb _ C
  obtain⟨ya,yc,B,am,al⟩:=id D
  change yv=Value.slice ya N.2.length yc at B;subst B
  refine ga λb8=>?_
  refine jK λW'=>?_
  refine gh ?_
  refine lq (AE rfl rfl rfl rfl (CM.cj ⟨_,_,_,a _ _ e3,rfl⟩ _)) ?_
  refine gj (λJ=>?_) λJ=>?_
  ·refine gC (Bv _ N.2 Q (D.mono (f.trans a)) (by have:=(X N (by rw[<-hp];exact List.mem_map_of_mem C)).2.2;omega)) ?_;rintro _ M3 Rc ag b
   refine wJg b (by simp) ?_
   intro M4 P O af ec r o;cases ec
   refine gh ?_
   refine AD (L':=[(K,cE [.int .i64 0] 39),(L,cE [.slice P N.2.length O] 30)]) (by simp) ?_
   refine jQr ?_
   refine⟨rfl,_,rfl,?_⟩
   rw[KT hp g j J]
   exact⟨P,O,rfl,r,o⟩
  refine gh ?_
  refine AD (L':=[(K,cE [.int .i64 0] 39),(L,cE [.slice none 0 0] 30)]) (by simp) ?_
  refine Zj ?_
  grind
 ·intro d Q R2 a j
  obtain⟨rfl,j⟩:=j
  have G:=KU hp j
  rw[Dy (by omega)]at G
  refine gh ?_
  refine lq (AE rfl rfl rfl rfl (CM.cj ⟨_,_,_,a _ _ e2,rfl⟩ _)) ?_
  refine lq (AE rfl rfl rfl rfl (CM.cj ⟨_,_,_,a _ _ e3,rfl⟩ _)) ?_
  refine gh ?_
  refine lq (AE rfl rfl rfl rfl ((aa.mono (f.trans a)).cj _)) ?_
  refine gC (Bv _ s.blocks[k] Q ⟨va,vc,rfl,U,T.mono (f.trans a)⟩ (by omega)) ?_;rintro _ M3 Rc ag b
  refine EM b (by simp) ?_
  intro M4 P O af ec r o;cases ec
  refine gh ?_
  refine Bi (L2:=_) Rm.perm ?_
  refine gr ?_
  exact⟨⟨_,rfl,by rw[G];exact⟨P,O,rfl,r,o⟩⟩,rfl⟩
 intro d c pre Q R2 a g j
 obtain⟨rfl,v6,rfl,a6,c6,rfl,ab,V⟩:=j
 refine gh ?_
 refine Bi (L2:=_) Rm.perm ?_
 refine gr ?_
 exact⟨⟨_,rfl,a6,c6,rfl,ab,V⟩,rfl⟩
theorem GN(s:Sto)(k:Nat)(b a:Value)(M:Mem)(n:LS M b s.blocks)(f:WS M a s.waits)(e:dkOk s.blocks s.waits)(hk:k<256):SpecL prog 82 #[.agg #[b,a],.int .i64 k] M [] λu M' g=>(∃v,u=.tuple #[v,.int .i64 0]/\BS M' v (seen s k))/\g=[]:=by
 obtain⟨i,h,j,rfl,d,c,l,m⟩:=f
 grind[VW]
set_option maxRecDepth 8000
set_option maxHeartbeats 40000000
variable{M:Mem}{a:Option Addr}{xs:List Value}
theorem SM.pre{ys:List Value}(h:SM M a (xs++ys)):SM M a xs:=by
 rcases h with h|⟨b,c,f,e⟩
 ·exact .inl (List.append_eq_nil_iff.1 h).1
 exact .inr ⟨b,c,f,λi u d=>e i u (by rw[List.getElem?_append_left (List.getElem?_eq_some_iff.1 d).1];exact d)⟩
variable{R:Lc}{e:TypeId}{n size:Nat}
theorem WJ{c:Nat}(h:Own (.slice none n c) R e size n xs)(a:n=0):(.slice none n c:Value)=.slice none 0 0:=by
 rcases h.2 with⟨h,_⟩|⟨_,_,_,h,_⟩
 ·exact h
 grind
def RS(M:Mem)(v:Value)(ys:List Sr):Prop:=∃a c,v=.slice a ys.length c/\SM M a (ys.flatMap Bm)
def FiP(s:Sto)(u:Value)(M':Mem):Prop:=∃v e,u=.tuple #[v,.int .i64 e]/\((e=40/\BD s 4=[]/\v=.slice none 0 0)\/(e=0/\∃ys:List Sr,(ys.map (·.1)).Perm (BD s 4)/\Dsc ys ys.length/\RS M' v ys/\∀p∈ys,NI M' p.2 p.1.dead))
theorem wGr(xs:List By):0<=(L5 xs).gen/\(L5 xs).gen<4294967296:=El _
variable{k:Nat}{s:Sto}
theorem wDf(h:L3 (seen s k))(a:(L5 (seen s k)).gen%4=(k:Int)):BD s (k+1)=BD s k++[L5 (seen s k)]:=by
 grind[Ln,D6]
theorem Xj(h:¬(L3 (seen s k)/\(L5 (seen s k)).gen%4=(k:Int))):BD s (k+1)=BD s k:=by
 grind[Ln,D6]
theorem UR(s:Sto)(H E:Value)(M:Mem)(J:LS M H s.blocks)(h2:WS M E s.waits)(G:dkOk s.blocks s.waits):
  SpecL prog 39 #[.agg #[H,E]] M [] λu M' L'=>FiP s u M'/\L'=[]:=by
 have U:GY s.blocks s.waits=0:=if_pos G
 refine sB func39 ntmps39 ?_;intro W
 refine ga λb1=>?_
 refine gQ (CK s.blocks s.waits H E M J h2) ?_
 refine jf rfl (decide_eq_false (by first|omega|(rw[U];decide))) ?_
 refine gh ?_
 refine Cz (α:=Nat×Mem×Lc×Value×List Sr) (λy=>[(1,pB b1),(2,y.2.2.2.1),(15,.int .i64 y.1)]) (λy=>y.2.1) (λy=>y.2.2.1++[(b1,cE [H,E] Sa)]) (λy=>y.1<=4/\MLe M y.2.1/\Own y.2.2.2.1 y.2.2.1 wPb 5 y.2.2.2.2.length (y.2.2.2.2.flatMap Bm)/\y.2.2.2.2.map (·.1)=BD s y.1/\(∀p∈y.2.2.2.2,p.2.oneCell'=true)/\(y.2.2.2.2=[]->y.2.2.2.1=.slice none 0 0)/\(∀p∈y.2.2.2.2,NI y.2.1 p.2 p.1.dead)) (λy=>4-y.1) (0,M,[],.slice none 0 0,[]) ⟨Nat.zero_le _,MLe.refl _,Own.nil _ _,rfl,(λ_ h=>by cases h),(λ_=>rfl),(λ_ h=>by cases h)⟩ ?_
 rintro⟨k,Mk,R,sv,ys⟩ ⟨hk,n,c,z,j,l,r⟩
 try dsimp only at hk n c z j l r⊢
 obtain⟨K,sc,rfl⟩:=c.form
 replace l:ys=[]->K=none:=λh=>congrArg (λv=>match v with|Value.slice a _ _=>a|_=>none) (l h)
 refine gj (λaa=>?_) λaa=>?_
 ·refine gc (GN s k H E Mk (J.mono n) (h2.mono n) G (by omega)) ?_;rintro _ M2 o ⟨v,rfl,Q⟩
  refine gc (UN (seen s k) _ M2 Q) ?_;rintro _ I d T
  obtain⟨x,da,dn,dc,e,rfl,S⟩:=RdP.form T
  refine gA λb8=>?_
  refine gj (λZ=>?_) λZ=>?_
  ·refine gh ?_
   obtain⟨_,ad,rfl,af⟩|⟨ae,_⟩:=S
   rotate_left
   ·omega
   refine gQ (PZ (L5 (seen s k)).gen I (wGr _)) ?_
   refine gj (λY=>?_) λY=>?_
   ·refine gh ?_
    refine lh (Aa (cs:=[_,_,_,_,_]) rfl rfl rfl (by rfl) (by rfl) (by rfl)) ?_;rintro _ _ _ ⟨aj,rfl,rfl,rfl⟩
    refine lh (Ba (R:=R) (m:=1) rfl rfl rfl rfl c rfl (λi v Q=>CJ.loc (by simpa using Q)) rfl (by rfl) (by simp[Value.oneCell']) (by have:=Kx s k;rw[<-z,length_map]at this;omega) (by omega)) ?_;rintro ac _ _ ⟨rfl,R2,rfl,B,_⟩
    obtain⟨N,L,rfl⟩:=B.form
    refine gh ?_
    refine Bw (k+1,I,R2,.slice N (ys.length+1) L,ys++[(L5 (seen s k),.slice da dn dc)]) ⟨by show k+1<=4;omega,n.trans (o.trans d),?_,?_,?_,?_,?_⟩ (hs:=λw h=>h.fewer (.append (List.Sublist.refl _) (.cons _ (.cons _ (List.Sublist.refl _)))))
    ·grind [Own,Bm]
    ·grind [BD,wDf]
    ·intro p f;rcases List.mem_append.1 f with f|f
     ·grind
     rw[List.mem_singleton.1 f];rfl
    ·simp_all
    intro p f;rcases List.mem_append.1 f with f|f
    ·exact (r p f).mono (o.trans d)
    grind
   refine gh ?_
   refine Bw (k+1,I,R,.slice K ys.length sc,ys) ⟨by show k+1<=4;omega,n.trans (o.trans d),?_,?_,?_,?_,?_⟩ (hs:=λw h=>h.fewer (.cons _ (List.Sublist.refl _)))
   ·exact c
   ·grind [BD,Xj]
   ·exact j
   ·grind [WJ]
   exact λp f=>(r p f).mono (o.trans d)
  refine gh ?_
  refine Bw (k+1,I,R,.slice K ys.length sc,ys) ⟨by show k+1<=4;omega,n.trans (o.trans d),?_,?_,?_,?_,?_⟩ (hs:=λw h=>h.fewer (.cons _ (List.Sublist.refl _)))
  ·exact c
  ·grind [BD,Xj]
  ·exact j
  ·grind [WJ]
  exact λp f=>(r p f).mono (o.trans d)
 refine gg ?_
 refine Br rfl rfl (KY rfl rfl rfl rfl) (λC=>?_) (λC=>?_)
 ·refine gr ?_
  refine⟨⟨_,40,rfl,.inl ⟨rfl,?_,rfl⟩⟩,rfl⟩
  obtain rfl:k=4:=by omega
  rcases c.2 with⟨_,h0,_⟩|⟨g,ab,D,ev,_⟩
  ·grind
  grind
 refine gh ?_
 obtain rfl:k=4:=by omega
 have F:=Kx s 4
 rw[<-z,length_map]at F
 have P:0<ys.length:=Nat.pos_of_ne_zero λh0=>by
  rw[l (List.length_eq_zero_iff.1 h0)]at C;cases C
 obtain⟨g,ab,D,ev,rfl,ai,ah,ag,V⟩:=c.open P
 cases ev
 obtain⟨sp,rfl⟩:∃sp,D=(ys.flatMap Bm++sp).toArray:=⟨D.toList.drop (ys.length*5),by rw[<-V,List.take_append_drop]⟩
 refine gC (UC g wPb sp ys _ Mk j F) ?_;rintro _ I _ d ⟨zs,t,O,rfl⟩
 refine gh ?_
 refine AP g (by simp) ?_
 intro M4 X e4
 refine gr ?_
 refine⟨⟨_,0,rfl,.inr ⟨rfl,zs,?_,?_,?_,?_⟩⟩,rfl⟩
 ·grind
 ·exact λa b J h2 h3=>O a b J (by have:=t.length_eq;omega) h3
 ·exact ⟨_,_,by rw[t.length_eq],SM.pre (SM.of_block e4)⟩
 exact λp f=>(r p (t.subset f)).mono (d.trans X)
theorem X0(bs:List (List By))(ws:List Wt)(d a:Value)(M:Mem)(f:LS M d bs)(e:WS M a ws)(b:¬dkOk bs ws):
  SpecL prog 39 #[.agg #[d,a]] M [] λu M' g=>u=.tuple #[.slice none 0 0,.int .i64 8]/\g=[]:=by
 have c:GY bs ws=8:=if_neg b
 refine sB func39 ntmps39 ?_;intro W
 refine ga λh=>?_
 refine gQ (CK bs ws d a M f e) ?_
 refine jt rfl (decide_eq_true (by first|omega|(rw[c];decide))) ?_
 refine gr ?_
 grind
theorem JN{x:Su}(h:D6 s k=some x):x=L5 (seen s k)/\x.gen%4=(k:Int)/\L3 (seen s k):=by
 grind[D6]
theorem fndL_is{x:Su}:x∈BD s n↔∃k,k<n/\D6 s k=some x:=by grind[BD]
theorem TH{x y:Su}(b:x∈BD s 4)(a:y∈BD s 4)(h:x.gen=y.gen):x=y:=by
 obtain⟨k,_,c⟩:=fndL_is.1 b
 obtain⟨j,_,d⟩:=fndL_is.1 a
 have f:=JN c
 have e:=JN d
 grind
theorem wDg{x:Su}(b:x∈BD s 4):(0<=x.gen/\x.gen<4294967296)/\(0<=x.next/\x.next<4294967296)/\(0<=x.table/\x.table<4294967296)/\Ha x:=by
 obtain⟨k,_,c⟩:=fndL_is.1 b
 have a:=JN c
 rw[a.1]
 exact⟨El _,El _,El _,a.2.2.2.2.1⟩
end Go.Proofs.YtdahhoicackcaaaGreat
