/- THE WALKING LAYER: loops in which ranges over functions Df marks. No statement of the seat is proved here. -/
import Derived.Test.YtjheijhahehnmaaGreatDoorZHn
import Derived.Test.YtjheijhahehnmaaGreatDoorZPlace
import Derived.Test.YtjheijhahehnmaaGreatDoorZSp
namespace Go.Proofs.YtjheijhahehnmaaGreatDoor
open Go.Proofs.Tryz
set_option linter.unusedSimpArgs false
set_option linter.unusedVariables false
set_option linter.unusedSectionVars false
set_option maxHeartbeats 40000000
set_option maxRecDepth 8000
open Go.RowKit
variable{s:Sto}
theorem CW{root:Int}(h:(AQ s root).2=0):Av s/\8<=root/\root<256/\¬s.now.getD root.toNat 0=0/\∃(a:Nat)(xs:List It),Ak s root.toNat=some ((a:Int),xs)/\A3 s a xs/\(AQ s root).1=a+1:=by
 by_cases f:Av s
 ·by_cases e:root<8\/256<=root
  ·grind [AQ]
  by_cases d:s.now.getD root.toNat 0=0
  ·grind [AQ]
  rw[Hv f e d]at h;split at h
  ·cases h
  rename_i g xs b;have c:=(Ar b).lev;grind[Hv,A3]
 grind[AQ]
theorem wUt(s:Sto)(x:It):(kid s x).length<=5:=by
 unfold kid;split
 ·rename_i h;exact(Ar h).len
 grind
variable{f:It->List It}{m:Nat}
theorem Q1{q:Ky}(h:∀x,(f x).length<=m):∀xs,(B4 f q xs).length<=m*xs.length
 |[]=>by simp[B4]
 |x::xs=>by
  have a:=h x;obtain⟨g,e,c⟩:∃g,B4 f q (x::xs)=g++B4 f q xs/\g.length<=m:=by
   cases xs with
   |nil=>exact⟨f x,rfl,a⟩
   |cons y ys=>
    refine⟨if Ap q y.key then f x else [],rfl,?_⟩
    split
    ·exact a
    exact Nat.zero_le _
  have b:=Q1 h xs (q:=q);rw[e,List.length_append,List.length_cons,Nat.mul_add,Nat.mul_one];omega
theorem Tw(s:Sto)(q:Ky):∀(l:Nat)(xs:List It),(Bx s q l xs).length<=5 ^ l*xs.length
 |0,xs=>by rw[Bx,Nat.pow_zero,Nat.one_mul];exact List.length_filter_le _ _
 |l+1,xs=>by
  rw[Bx,Nat.pow_succ];refine Q1 (λx=>Nat.le_trans (Tw s q l _) (Nat.mul_le_mul_left _ (wUt s x))) xs
variable{l:Nat}{xs:List It}
theorem N6{q:Ky}(b:l<6)(a:xs.length<=5):(Bx s q l xs).length<=15625:=by
 refine Nat.le_trans (Tw s q l xs) ?_;have:5 ^ l<=5 ^ 5:=Nat.pow_le_pow_right (by omega) (by omega);exact Nat.le_trans (Nat.mul_le_mul this a) (by decide)
theorem YZ(h c d lv:Value)(q:Ky)(root:Int)(M:Mem):
  SpecL prog 264 #[.agg #[h,c,d,lv],.int .i64 root,.agg (AA q).toArray] M [] λu M' s=>(∃g f e,u=.func (.func 316) #[] #[pB g,pB f,pB e]/\M' g=some (cE [h,c,d,lv] 28)/\M' f=some (cE (AA q) 92)/\M' e=some (cE [.int .i64 root] 3))/\s=[]:=by
 refine sB func264 ntmps264 ?_;intro W;refine ga λk=>?_;refine lh (Bt (cs:=[.int .i64 root]) rfl rfl rfl rfl) ?_;rintro _ _ _ ⟨j,rfl,rfl,rfl⟩;refine ga λi=>?_;refine AF k (by simp) ?_;intro z l o;refine AF j (by simp) ?_;intro y b n;refine AF i (by simp) ?_;intro w a m;refine gr ?_;exact⟨⟨k,i,j,rfl,a _ _ (b _ _ o),m,a _ _ n⟩,rfl⟩
def rng(s:Sto)(root:Int)(a b:Ky):List It:=match Ak s root.toNat with
 |some (lv,xs)=>(Bx s a lv.toNat xs).takeWhile λx=> !Ap b x.key
 |none=>[]
variable{α:Type}
theorem wKc{p:α->Bool}{xs:List α}(h:∀x∈xs,p x=true):xs.takeWhile p=xs:=by
 induction xs with
 |nil=>rfl
 |cons x xs a=>rw[List.takeWhile_cons_of_pos (h x (by simp)),a (λy b=>h y (by simp[b]))]
theorem wDm{p:α->Bool}{a r:List α}{y:α}(h:∀x∈a,p x=true)(b:p y=false):(a++y::r).takeWhile p=a:=by
 induction a with
 |nil=>rw[List.nil_append,List.takeWhile_cons_of_neg (by simp[b])]
 |cons x xs c=>rw[List.cons_append,List.takeWhile_cons_of_pos (h x (by simp)),c (λy b=>h y (by simp[b]))]
abbrev ITS:TypeId:=79
def RI(b8:Nat)(to:Ky)(pre:List It)(M':Mem)(R:Lc):Prop:=∃v Rs,∃ps:List (It×Value),R=(b8,cE [v] ITS)::Rs/\Own v Rs IT 5 ps.length (ps.flatMap Ae)/\ps.map (·.1)=pre/\(∀p∈ps,BS M' p.2 p.1.val)/\∀x∈pre,(!Ap to x.key)=true
theorem Yq(s:Sto)(root:Int)(a b:Ky)(X U V lv:Value)(M:Mem)(h1:LS M X s.blocks)(h2:WS M U s.waits)(h3:BS M V s.now)(h4:BS M lv s.last):
  SpecL prog 173 #[.agg #[X,U,V,lv],.int .i64 root,.agg (AA a).toArray,.agg (AA b).toArray] M [] λu M' L'=>(∃v,u=.tuple #[v,.int .i64 (AQ s root).2]/\NS M' v (if (AQ s root).2=0 then rng s root a b else []))/\L'=[]:=by
 have al:ST M (.agg #[X,U,V,lv]) s:=⟨_,_,_,_,rfl,h1,h2,h3,h4⟩;refine sB func173 ntmps173 ?_;intro W;refine ga4 λb4 b6 b7 b8=>?_;refine gQ (Jo s root X U V lv M h1 h2 h3 h4) ?_;refine gj (λn=>?_) λn=>?_
 ·refine gr ?_;exact⟨⟨_,rfl,by rw[if_neg n];exact NS.nil⟩,rfl⟩
 refine gh ?_;obtain⟨af,ao,ah,ap,G,xs,L,ae,au⟩:=CW (Classical.not_not.1 n);have aa:=Ar L;have aq:=aa.lev;have ag:=N6 (s:=s) (q:=a) (l:=G) (by omega) aa.len;obtain⟨k,rfl⟩:∃k:Nat,root=k:=⟨root.toNat,by omega⟩;rw[Int.toNat_natCast]at L;have H:rng s (k:Int) a b=(Bx s a G xs).takeWhile λx=> !Ap b x.key:=by grind[rng]
 obtain⟨T,o⟩:∃T,T=Bx s a G xs:=⟨_,rfl⟩;rw[<-o]at ag;refine gc (YZ X U V lv a (k:Int) M) ?_;rintro _ M1 Q ⟨d1,d2,d3,rfl,ak,aj,ai⟩;refine gh ?_;refine BL b7 (by simp) ?_;intro am z e7;replace Q:=Q.trans z;refine Te (R:=[(b8,cE [.slice none 0 0] ITS)]) (xs:=T) (En:=KEn) (ps:=[26]) rfl (by kernel_rfl) (b:=true) (lb:=[pB d1,pB d2,pB d3]) (λl J Jx Y L2 F N hJ h0=>by rw[o]at hJ ⊢;exact Y0 s af a k G xs (by omega) L ae d1 d2 d3 (.nilFunc) am X U V lv (z _ _ ak) (al.mono Q) (z _ _ aj) (z _ _ ai) l J Jx Y L2 F (N rfl) hJ h0)
  (RI b8 b)
  (λc Z M' R=>c=.exit 0/\∃j y,Z=j++[y]/\RI b8 b j M' R/\Ap b y.key=true)
  (λy _ vs ⟨va,vc,e,_⟩=>by rw[e];rfl) (by decide) ⟨_,[],[],rfl,Own.nil _ _,rfl,(λ_ h=>by cases h),(λ_ h=>by cases h)⟩ (λ_ j Y M3 R hM ⟨v,Rs,ps,q1,q2,q3,q4,q5⟩=>⟨v,Rs,ps,q1,q2,q3,λp E=>(q4 p E).mono hM,q5⟩) ?_ ?_ ?_
 ·intro l W2 j y Y R2 vs F S C hE;obtain⟨v,Rs,ps,rfl,f,g,B,D⟩:=S;obtain⟨oa,oc,rfl⟩:=f.form;obtain⟨va,vc,rfl,ad,ac⟩:=hE;refine ga λaw=>?_;refine jK λW'=>?_;refine gh ?_;refine lq (A1 (cs:=AA b) rfl rfl rfl rfl rfl (λi v hv=>CM.cj ⟨_,_,_,F _ _ e7,by simpa [AA]using hv⟩ _)) ?_;refine gg ?_;refine BP rfl rfl (CZ rfl rfl rfl rfl rfl (by kernel_rfl) (Ck b y.key Y)) (λab=>?_) (λab=>?_)
  ·refine gh ?_;refine wXe rfl ?_;refine AB (L':=(b8,cE [.slice oa ps.length oc] ITS)::Rs) (by simp) ?_;refine jQx ?_;exact⟨rfl,j,y,rfl,⟨_,Rs,ps,rfl,f,g,B,D⟩,ab⟩
  refine gh ?_;refine lh (Ab (cs:=[_,_,_,_,_]) rfl rfl rfl (by rfl) (by rfl) (by rfl)) ?_;rintro _ _ _ ⟨av,rfl,rfl,rfl⟩;refine lh (AY (R:=Rs) (m:=1) rfl rfl rfl rfl f rfl (λi v hv=>CJ.loc (by simpa using hv)) rfl (by rfl) (by simp[Value.oneCell']) (by have:=C.length_le;rw[List.length_append,List.length_singleton]at this;have h5:=congrArg List.length g;rw[List.length_map]at h5;omega) (by omega)) ?_;rintro s' _ _ ⟨rfl,R',rfl,K,_⟩;obtain⟨a2,c2,rfl⟩:=K.form;refine gh ?_;refine AM (L':=(b8,cE [.slice a2 (ps.length+1) c2] ITS)::R') (λw h=>(h.perm List.perm_append_comm).fewer (.cons _ (.cons _ (.refl _)))) ?_;refine wJi ?_;refine⟨_,R',ps++[(y,.slice va y.val.length vc)],rfl,?_,by rw[List.map_append,g];rfl,?_,?_⟩
  ·grind [Ae]
  ·intro p E;rcases List.mem_append.1 E with E|E
   ·exact B p E
   rw[List.mem_singleton.1 E];exact⟨va,vc,rfl,ad,ac⟩
  grind
 ·intro d Y R2 F S;obtain⟨v,Rs,ps,rfl,f,g,B,D⟩:=S;obtain⟨oa,oc,rfl⟩:=f.form;simp only[List.cons_append,List.nil_append];refine gh ?_;refine Bu (L2:=_) Rm.perm ?_;refine BK f (by simp) ?_;intro M9 a9 c9 P e9 O I;cases e9;refine gr ?_;refine⟨⟨_,congrArg (λe=>Value.tuple #[_,Value.int .i64 e]) (Classical.not_not.1 n).symm,?_⟩,rfl⟩;rw[if_pos (Classical.not_not.1 n),H,<-o,wKc D];exact⟨_,_,ps,by rw[<-g,List.length_map],by rw[<-g,List.length_map];exact O,I,g,λp E=>(B p E).mono P⟩
 intro d c j Y R2 F C S;obtain⟨rfl,j,y,rfl,S,hy⟩:=S;obtain⟨v,Rs,ps,rfl,f,g,B,D⟩:=S;obtain⟨oa,oc,rfl⟩:=f.form;simp only[List.cons_append,List.nil_append];refine gh ?_;refine Bu (L2:=_) Rm.perm ?_;refine BK f (by simp) ?_;intro M9 a9 c9 P e9 O I;cases e9;refine gr ?_;refine⟨⟨_,congrArg (λe=>Value.tuple #[_,Value.int .i64 e]) (Classical.not_not.1 n).symm,?_⟩,rfl⟩;obtain⟨r,hr⟩:=C;rw[if_pos (Classical.not_not.1 n),H,<-o,<-hr,List.append_assoc,List.singleton_append,wDm D (by rw[hy];rfl)];exact⟨_,_,ps,by rw[<-g,List.length_map],by rw[<-g,List.length_map];exact O,I,g,λp E=>(B p E).mono P⟩
theorem Yr(s:Sto)(v:Value)(root:Int)(a b:Ky)(M:Mem)(h:ST M v s):SpecL prog 173 #[v,.int .i64 root,.agg (AA a).toArray,.agg (AA b).toArray] M [] λu M' c=>(∃v,u=.tuple #[v,.int .i64 (AQ s root).2]/\NS M' v (if (AQ s root).2=0 then rng s root a b else []))/\c=[]:=by
 obtain⟨l,d,e,f,rfl,k,j,i,g⟩:=h.ex;grind[Yq]
theorem Jp(s:Sto)(v:Value)(root:Int)(M:Mem)(h:ST M v s):SpecL prog 256 #[v,.int .i64 root] M [] λu _ _=>u=.tuple #[.int .i64 (AQ s root).1,.int .i64 (AQ s root).2]:=by
 obtain⟨i,a,b,c,rfl,g,f,e,d⟩:=h.ex;grind[Jo]
def KR(xs:List It)(q:Ky):Option It:=if FQ xs q then xs[place xs q]? else if place xs q=0 then none else xs[place xs q-1]?
def BW(s:Sto)(q:Ky):Nat->List It->Option It
 |0,xs=>if FQ xs q then xs[place xs q]? else none
 |l+1,xs=>match KR xs q with|some x=>BW s q l (kid s x)|none=>none
def N3(s:Sto)(root:Int)(q:Ky):Option It:=match Ak s root.toNat with|some (lv,xs)=>BW s q lv.toNat xs|none=>none
def FdPost(s:Sto)(root:Int)(q:Ky)(u:Value)(M':Mem):Prop:=if (AQ s root).2=0 then
  match N3 s root q with
  |some x=>∃va vc,u=.tuple #[.agg (E1 x va vc).toArray,.int .i64 0]/\x.val.length<=vc/\SM M' va (Aa x.val)
  |none=>u=.tuple #[.agg zeroIt.toArray,.int .i64 6]
 else u=.tuple #[.agg zeroIt.toArray,.int .i64 (AQ s root).2]
variable{M':Mem}
theorem FdPost.none{root:Int}{q:Ky}(h:(AQ s root).2=0)(a:N3 s root q=.none):FdPost s root q (.tuple #[.agg zeroIt.toArray,.int .i64 6]) M':=by
 grind[FdPost]
variable{va:Option Addr}{vc:Nat}
theorem FdPost.some{root:Int}{q:Ky}{x:It}(h:(AQ s root).2=0)(a:N3 s root q=.some x)(c:x.val.length<=vc)(b:SM M' va (Aa x.val)):FdPost s root q (.tuple #[.agg (E1 x va vc).toArray,.int .i64 0]) M':=by
 grind[FdPost]
theorem Fo{q:Ky}(h:FQ xs q=true):place xs q<xs.length:=by
 grind[FQ,place]
theorem wHh(s:Sto)(root:Int)(q:Ky)(bv V X lv:Value)(M:Mem)(h1:LS M bv s.blocks)(y:WS M V s.waits)(h3:BS M X s.now)(h4:BS M lv s.last):
  SpecL prog 271 #[.agg #[bv,V,X,lv],.int .i64 root,.agg (AA q).toArray] M [] λu M' L'=>FdPost s root q u M'/\L'=[]:=by
 have ai:ST M (.agg #[bv,V,X,lv]) s:=⟨_,_,_,_,rfl,h1,y,h3,h4⟩;refine sB func271 ntmps271 ?_;intro W;refine W4 λb3 b5 b6=>?_;refine QN ?_;refine gQ (Jo s root bv V X lv M h1 y h3 h4) ?_;refine gj (λS=>?_) λS=>?_
 ·refine gh ?_;refine jN (λ_ h=>by cases h) ?_;refine gr ?_;exact⟨by unfold FdPost;rw[if_neg S];rfl,rfl⟩
 refine gh ?_;have E:=Classical.not_not.1 S;obtain⟨ab,ao,ae,aq,G,U,I,aa,av⟩:=CW E;obtain⟨⟨_,am,_,_⟩,⟨ag,_⟩,_⟩:=id ab;refine gc (LJ s _ M ai (by omega) (by omega)) ?_;rintro _ M1 aj ad;have K:=ad M1 (MLe.refl _) aj;obtain⟨pb,_,_,_,_,rfl,_⟩:=id K.ex;simp only[List.nil_append];refine gh ?_;refine QP ?_;refine gh ?_;refine CC (α:=Nat×Nat×List It×Mem) (λx=>[(5,pB b5),(6,pB b6),(10,.int .i64 (x.1:Int)),(11,pB pb)]) (λx=>x.2.2.2) (λx=>[(b6,cE [.int .u8 0,.int .u32 0,.int .u32 0,.int .i64 0,.slice none 0 0] IT),(b5,cE [.int .u8 q.kind,.int .u32 q.id,.int .u32 q.off] 92),(b3,cE [bv,V,X,lv] 28)]) (λx=>x.1<256/\Ak s x.1=some ((x.2.1:Int),x.2.2.1)/\A3 s x.2.1 x.2.2.1/\MLe M1 x.2.2.2/\N3 s root q=BW s q x.2.1 x.2.2.1) (λx=>x.2.1) (root.toNat,G,U,M1) ⟨by show root.toNat<256;omega,I,aa,MLe.refl _,by show N3 s root q=BW s q G U;unfold N3;rw[I];rfl⟩ ?_ (hk:=(Keep.cons (t:=5) rfl (Keep.cons (t:=6) rfl (Keep.ceq (t:=10) rfl (by rw[show ((root.toNat:Nat):Int)=root from Int.toNat_of_nonneg (by omega)]) (Keep.cons (t:=11) rfl Keep.nil)))));rintro⟨k,b,xs,Mk⟩ ⟨n,N,C,o,ah⟩;try dsimp only at n N C o ah⊢
 refine gc (EI s k _ Mk ab n (K.mono o)) ?_;rintro _ Mn P O;obtain⟨sl,rfl,af⟩:=(by unfold BnPost at O;rw[N]at O;exact O:∃sl,_/\NS Mn sl xs);obtain⟨a,c,ps,rfl,hc,hs,D,hb⟩:=af;simp only[List.nil_append];have d:=Ar N;have al:=d.len;have au:=d.lev;have ak:=H4 xs q;refine ga λaw=>?_;refine lq (qC (FD _ xs q a c ps Mn hc hs D hb (by omega))) ?_;iterate 2 refine jp rfl ?_
 refine LZ rfl (λF=>?_) (λF=>?_)
 ·iterate 2 refine jp rfl ?_
  refine Ai (jT (Dm (Ah (Af ?_))));refine lq (Ac rfl rfl rfl rfl rfl) ?_;refine lq (Au rfl rfl rfl rfl (CJ.loc rfl)) ?_;refine js rfl (λR=>?_) (λR=>?_)
  ·refine gg ?_;have ac:=Fo F;obtain⟨sb,so,T,L⟩:=hs.open (by intro e;have:=congrArg List.length e;rw[Aj Ae 5 Ag,List.length_nil]at this;have y:=congrArg List.length D;rw[List.length_map]at y;omega);subst T;obtain⟨va,vc,f,B,z⟩:=Aw L D hb (k:=place xs q) (by omega);refine gh ?_;refine lq (A1 (cs:=E1 xs[place xs q] va vc) rfl rfl rfl rfl rfl (λi v hv=>(f i v hv).cj _)) ?_;refine gh ?_;refine jN (λ_ h=>by cases h) ?_;refine gr ?_;refine⟨FdPost.some E ?_ B z,rfl⟩;simp_all [BW]
  iterate 4 refine jp rfl ?_
  refine Ai (jT (DM rfl (Ah (Ah (Af ?_)))));refine lq (Ac rfl rfl rfl rfl rfl) ?_;refine lq (Au rfl rfl rfl rfl (CJ.loc rfl)) ?_;refine js rfl (λw=>?_) (λw=>?_)
  ·omega
  refine jp rfl ?_;refine Ai (jT (DM rfl (Af ?_)));refine jp rfl ?_;refine js rfl (λQ=>?_) (λQ=>?_)
  ·refine gg ?_;have ac:=Fo F;obtain⟨sb,so,T,L⟩:=hs.open (by intro e;have:=congrArg List.length e;rw[Aj Ae 5 Ag,List.length_nil]at this;have y:=congrArg List.length D;rw[List.length_map]at y;omega);subst T;obtain⟨va,vc,f,B,z⟩:=Aw L D hb (k:=place xs q) (by omega);refine gh ?_;refine lq (Au rfl rfl rfl rfl ((f 3 _ rfl).cj _)) ?_;refine gh ?_;obtain⟨l,rfl⟩:∃l,b=l+1:=⟨b-1,by omega⟩;obtain⟨ys,j,H,g⟩:=BJ C (List.getElem_mem (show place xs q<xs.length by omega));have Y:=d.ref xs[place xs q] (List.getElem_mem _);have Z:=d.up (by omega) xs[place xs q] (List.getElem_mem _);have m:((xs[place xs q].ref.toNat:Nat):Int)=xs[place xs q].ref:=Int.toNat_of_nonneg (by omega);have J:kid s xs[place xs q]=ys:=by grind[kid]
   refine BD (xs[place xs q].ref.toNat,l,ys,Mn) ⟨by show xs[place xs q].ref.toNat<256;omega,j,g,o.trans P,?_⟩ (hk:=(Keep.cons (t:=5) rfl (Keep.cons (t:=6) rfl (Keep.ceq (t:=10) rfl (by rw[m]) (Keep.cons (t:=11) rfl Keep.nil)))));grind[N3,BW,KR,place,kid]
  refine gg ?_;have ac:=Fo F;obtain⟨sb,so,T,L⟩:=hs.open (by intro e;have:=congrArg List.length e;rw[Aj Ae 5 Ag,List.length_nil]at this;have y:=congrArg List.length D;rw[List.length_map]at y;omega);subst T;obtain⟨va,vc,f,B,z⟩:=Aw L D hb (k:=place xs q) (by omega);refine gh ?_;refine lq (Au rfl rfl rfl rfl ((f 3 _ rfl).cj _)) ?_;refine gh ?_;obtain⟨l,rfl⟩:∃l,b=l+1:=⟨b-1,by omega⟩;obtain⟨ys,j,H,g⟩:=BJ C (List.getElem_mem (show place xs q<xs.length by omega));have Y:=d.ref xs[place xs q] (List.getElem_mem _);have Z:=d.up (by omega) xs[place xs q] (List.getElem_mem _);have m:((xs[place xs q].ref.toNat:Nat):Int)=xs[place xs q].ref:=Int.toNat_of_nonneg (by omega);have J:kid s xs[place xs q]=ys:=by grind[kid]
  refine BD (xs[place xs q].ref.toNat,l,ys,Mn) ⟨by show xs[place xs q].ref.toNat<256;omega,j,g,o.trans P,?_⟩ (hk:=(Keep.cons (t:=5) rfl (Keep.cons (t:=6) rfl (Keep.ceq (t:=10) rfl (by rw[m]) (Keep.cons (t:=11) rfl Keep.nil)))));grind[N3,BW,KR,place,kid]
 refine gj (λR=>?_) λR=>?_
 ·iterate 4 refine jp rfl ?_
  refine Ai (jT (DM rfl (Ah (Ah (Af ?_)))));refine lq (Ac rfl rfl rfl rfl rfl) ?_;refine lq (Au rfl rfl rfl rfl (CJ.loc rfl)) ?_;refine js rfl (λw=>?_) (λw=>?_)
  ·refine jp rfl ?_;refine Ai (jT (EF rfl (Co (jT (EF rfl (Gi ?_))))));refine wXe rfl ?_;refine wXe rfl ?_;refine wBo (wXd (jT (Ah (Af ?_))));refine lq (BF (cs:=[_,_,_,_,_]) rfl rfl rfl (by rfl)) ?_;refine DE rfl (Ao rfl rfl rfl rfl rfl rfl rfl rfl) ?_;rintro _ _ _ ⟨rfl,rfl⟩;refine jp rfl ?_;refine Ai (jT (Bq ?_));refine jN (λ_ h=>by cases h) ?_;refine zd ([]) rfl ?_;refine⟨FdPost.none E ?_,rfl⟩;simp_all [BW]
  omega
 iterate 4 refine jp rfl ?_
 refine Ai (jT (DM rfl (Ah (Ah (Af ?_)))));refine lq (Ac rfl rfl rfl rfl rfl) ?_;refine lq (Au rfl rfl rfl rfl (CJ.loc rfl)) ?_;refine js rfl (λw=>?_) (λw=>?_)
 ·omega
 refine jp rfl ?_;refine Ai (jT (DM rfl (Af ?_)));refine jp rfl ?_;refine js rfl (λQ=>?_) (λQ=>?_)
 ·refine gg ?_;refine wXe rfl ?_;refine wXe rfl ?_;refine gh ?_;refine jN (λ_ h=>by cases h) ?_;refine zd ([]) rfl ?_;refine⟨FdPost.none E ?_,rfl⟩;obtain⟨l,rfl⟩:∃l,b=l+1:=⟨b-1,by omega⟩;grind[BW,KR]
 refine gg ?_;have ap:0<place xs q:=by omega
 obtain⟨sb,so,T,L⟩:=hs.open (by intro e;have:=congrArg List.length e;rw[Aj Ae 5 Ag,List.length_nil]at this;have y:=congrArg List.length D;rw[List.length_map]at y;omega);subst T;obtain⟨va,vc,f,B,z⟩:=Aw L D hb (k:=place xs q-1) (by omega);refine lq (Bh (EV rfl rfl rfl rfl (by omega)) (v':=.pointer (some ⟨sb,so+(place xs q-1)*5,none⟩)) (by congr 3;omega)) ?_;refine gg ?_;refine lq (Au rfl rfl rfl rfl ((f 3 _ rfl).cj _)) ?_;refine gg ?_;obtain⟨l,rfl⟩:∃l,b=l+1:=⟨b-1,by omega⟩;obtain⟨ys,j,H,g⟩:=BJ C (List.getElem_mem (show place xs q-1<xs.length by omega));have Y:=d.ref xs[place xs q-1] (List.getElem_mem _);have Z:=d.up (by omega) xs[place xs q-1] (List.getElem_mem _);have m:((xs[place xs q-1].ref.toNat:Nat):Int)=xs[place xs q-1].ref:=Int.toNat_of_nonneg (by omega);have J:kid s xs[place xs q-1]=ys:=by grind[kid]
 refine BD (xs[place xs q-1].ref.toNat,l,ys,Mn) ⟨by show xs[place xs q-1].ref.toNat<256;omega,j,g,o.trans P,?_⟩ (hk:=(Keep.cons (t:=5) rfl (Keep.cons (t:=6) rfl (Keep.ceq (t:=10) rfl (by rw[m]) (Keep.cons (t:=11) rfl Keep.nil)))));grind[N3,BW,KR,place,kid]
theorem Tt(s:Sto)(v:Value)(root:Int)(q:Ky)(M:Mem)(h:ST M v s):SpecL prog 271 #[v,.int .i64 root,.agg (AA q).toArray] M [] λu M' a=>FdPost s root q u M'/\a=[]:=by
 obtain⟨j,b,c,d,rfl,i,g,f,e⟩:=h.ex;grind[wHh]
def MR(a b:Ky):Prop:=Ap b a=false
variable{a b:Ky}
theorem QJ:Ap a b=true↔(a.kind<b.kind\/a.kind=b.kind/\(a.id<b.id\/a.id=b.id/\a.off<b.off)):=by grind[Ap]
theorem Ka:MR a b↔¬(b.kind<a.kind\/b.kind=a.kind/\(b.id<a.id\/b.id=a.id/\b.off<a.off)):=by grind[MR,Ap]
theorem FN(a:Ky):MR a a:=by grind[Ka]
variable{c:Ky}
theorem LO(h:Ap a b=true)(k:Ap b c=true):Ap a c=true:=by grind[QJ]
theorem J7(h:MR a b)(k:MR b c):MR a c:=by grind[Ka]
theorem QI(h:Ap a b=true)(k:MR b c):Ap a c=true:=by grind[QJ,Ka]
theorem YR(h:MR a b)(k:Ap b c=true):Ap a c=true:=by grind[QJ,Ka]
theorem KV(h:Ap a b=true):MR a b:=by grind[QJ,Ka]
theorem YS:Ap a a=false:=FN a
theorem Tb(h:MR a b):a=b\/Ap a b=true:=by
 rw[Ka]at h;rw[QJ];by_cases e:a.kind=b.kind/\a.id=b.id/\a.off=b.off
 ·left;obtain⟨f,d,c⟩:=a;obtain⟨b1,b2,b3⟩:=b;simp_all
 omega
def Srt(ys:List It):Prop:=ys.Pairwise λx y=>Ap x.key y.key=true
def Bc(s:Sto):Nat->It->List It
 |0,x=>[x]
 |l+1,x=>(kid s x).flatMap (Bc s l)
def Ax(s:Sto)(l:Nat)(xs:List It):List It:=xs.flatMap (Bc s l)
structure InSp(p:Sp)(ys:List It):Prop where
 srt:Srt ys
 btw:∀y∈ys,MR p.first y.key/\MR y.key p.last
 le:MR p.first p.last
structure TreeL(g:It->List It)(xs:List It):Prop where
 pw:xs.Pairwise λz w=>(∀y∈g z,Ap y.key w.key=true)/\Ap z.key w.key=true
 each:∀z∈xs,Srt (g z)/\∀y∈g z,MR z.key y.key
def BC:List It->Ky
 |[]=>⟨0,0,0⟩
 |x::_=>x.key
theorem wPm{f:It->Sp}{g:It->List It}:∀{xs:List It}{o:Option Sp},(∀x∈xs,(f x).is=true->(f x).first=x.key->InSp (f x) (g x))->(A6 f o xs).is=true->xs≠[]->
  TreeL g xs/\(∀z∈xs,∀y∈g z,MR y.key (A6 f o xs).last)/\(∀z∈xs,MR z.key (A6 f o xs).last)/\(∀q,o=some q->∀z∈xs,Ap q.last z.key=true)/\(A6 f o xs).first=(match o with|none=>BC xs|some q=>q.first)
 |[],_,_,_,h=>absurd rfl h
 |x::xs,o,hg,his,_=>by
  rw[A6]at his⊢;split at his;case isFalse=>cases his
  rename_i hs;rw[if_pos hs];unfold Aq at hs;rw[Bool.and_eq_true,Bool.and_eq_true,decide_eq_true_eq]at hs;obtain⟨⟨h1,h2⟩,h3⟩:=hs;have hx:=hg x (by simp) h1 h2;have hxl:MR x.key (f x).last:=by rw[<-h2];exact hx.le
  have hxy:∀y∈g x,MR x.key y.key:=λy hy=>by rw[<-h2];exact(hx.btw y hy).1
  have ho:∀q,o=some q->Ap q.last x.key=true:=λq e=>by subst e;rw[<-h2];exact h3
  have hf0:o=none->(Bk (f x) o).first=x.key:=λe=>by subst e;exact h2
  have hf1:∀q,o=some q->(Bk (f x) o).first=q.first:=λq e=>by subst e;rfl
  cases xs with
  |nil=>
   refine⟨⟨List.pairwise_singleton _ _,λz hz=>?_⟩,λz hz=>?_,λz hz=>?_,λq e z hz=>?_,?_⟩
   ·rw [List.mem_singleton.1 hz];exact⟨hx.srt,hxy⟩
   ·rw [List.mem_singleton.1 hz];exact λy hy=>(hx.btw y hy).2
   ·rw [List.mem_singleton.1 hz];exact hxl
   ·rw [List.mem_singleton.1 hz];exact ho q e
   show (Bk (f x) o).first=_
   cases o with
   |none=>exact hf0 rfl
   |some q=>exact hf1 q rfl
  |cons y ys=>
   obtain⟨i1,i2,i3,i4,i5⟩:=wPm (f:=f) (g:=g) (xs:=y::ys) (o:=some (Bk (f x) o)) (λz hz=>hg z (by simp[hz])) his (by simp)
   have hlt:∀z∈y::ys,Ap (f x).last z.key=true:=λz hz=>i4 _ rfl z hz
   have hll:MR (f x).last (A6 f (some (Bk (f x) o)) (y::ys)).last:=KV (QI (hlt y (by simp)) (i3 y (by simp)))
   refine⟨⟨List.pairwise_cons.2 ⟨λw hw=>⟨λz hz=>YR (hx.btw z hz).2 (hlt w hw),YR hxl (hlt w hw)⟩,i1.pw⟩,λz hz=>?_⟩,λz hz=>?_,λz hz=>?_,λq e z hz=>?_,?_⟩
   ·rcases List.mem_cons.1 hz with rfl|hz
    ·exact ⟨hx.srt,hxy⟩
    exact i1.each z hz
   ·rcases List.mem_cons.1 hz with rfl|hz
    ·exact λu hu=>J7 (hx.btw u hu).2 hll
    exact i2 z hz
   ·rcases List.mem_cons.1 hz with rfl|hz
    ·exact J7 hxl hll
    exact i3 z hz
   ·rcases List.mem_cons.1 hz with rfl|hz
    ·exact ho q e
    exact LO (ho q e) (YR hxl (hlt z hz))
   rw[i5]
   show (Bk (f x) o).first=_
   cases o with
   |none=>exact hf0 rfl
   |some q=>exact hf1 q rfl
variable{g:It->List It}{xs:List It}
theorem TreeL.srt(h:TreeL g xs):Srt (xs.flatMap g):=by
 refine List.pairwise_flatMap.2 ⟨λz a=>(h.each z a).1,?_⟩;refine h.pw.imp_of_mem λ{z w} a d e x c y b=>?_;exact QI (e.1 x c) ((h.each w d).2 y b)
theorem wMb(s:Sto):∀(l:Nat)(x:It),(AR s l x).is=true->(AR s l x).first=x.key->InSp (AR s l x) (Bc s l x)
 |0,x,_,_=>⟨List.pairwise_singleton _ _,λy j=>by rw[List.mem_singleton.1 j];exact⟨FN _,FN _⟩,FN _⟩
 |l+1,x,h,C=>by
  obtain⟨ys,k,e,D⟩:=T4 h;have w:kid s x=ys:=by unfold kid;rw[k]
  rw[D]at h C⊢;obtain⟨i,u,o,_,m⟩:=wPm (g:=Bc s l) (λz _ a b=>wMb s l z a b) h e;have E:Bc s (l+1) x=ys.flatMap (Bc s l):=by rw[Bc,w]
  rw[E];obtain⟨f,n,rfl⟩:=List.exists_cons_of_ne_nil e;have B:∀z∈f::n,MR f.key z.key:=λz c=>by
   rcases List.mem_cons.1 c with rfl|c
   ·exact FN _
   exact KV ((List.pairwise_cons.1 i.pw).1 z c).2
  refine⟨i.srt,λy j=>?_,?_⟩
  ·obtain ⟨z,c,d⟩:=List.mem_flatMap.1 j;refine⟨?_,u z c y d⟩;rw[m];exact J7 (B z c) ((i.each z c).2 y d)
  rw[m];exact o f (by simp)
variable{l:Nat}{s:Sto}
theorem X1(h:A3 s l xs):TreeL (Bc s l) xs:=by
 by_cases c:xs=[]
 ·subst c;exact⟨List.Pairwise.nil,λz d=>by cases d⟩
 exact(wPm (λz _ a b=>wMb s l z a b) (h c) c).1
theorem wZg(h:A3 s (l+1) xs){x:It}(a:x∈xs):A3 s l (kid s x):=by
 grind[BJ,kid]
theorem wCe{q:Ky}:∀{l:Nat}{xs:List It},A3 s l xs->Bx s q l xs=(Ax s l xs).filter λx=> !Ap x.key q
 |0,xs,_=>by rw[Bx,Ax];simp[Bc]
 |l+1,xs,h=>by
  have c:∀x∈xs,Bx s q l (kid s x)=(Bc s (l+1) x).filter λx=> !Ap x.key q:=λx a=>wCe (wZg h a);have f:=X1 h;have d:=f.pw;clear f h;rw[Bx,Ax];induction xs with
  |nil=>rfl
  |cons x xs b=>
   have a:=c x (by simp)
   have j:=b (λy i=>c y (by simp[i])) (List.pairwise_cons.1 d).2
   rw[List.flatMap_cons,List.filter_append,<-j]
   have e:B4 (λx=>Bx s q l (kid s x)) q (x::xs)=(match xs with|[]=>Bx s q l (kid s x)|y::_=>if Ap q y.key then Bx s q l (kid s x)else [])++B4 (λx=>Bx s q l (kid s x)) q xs:=by cases xs<;>rfl
   rw[e]
   congr 1
   cases xs with
   |nil=>exact a
   |cons y ys=>
    show (if Ap q y.key=true then _ else _)=_
    split
    ·exact a
    rename_i k
    symm
    rw[List.filter_eq_nil_iff]
    intro z g
    have n:=((List.pairwise_cons.1 d).1 y (by simp)).1 z g
    have m:MR y.key q:=by simpa [MR]using k
    have:=QI n m
    simp[this]
variable{A:List It}
theorem Yx{q:Ky}(h:∀w∈A,Ap w.key q=false):place A q=0:=by
 simp_all [place]
theorem Nw{q:Ky}:∀{l:Nat}{xs:List It}{x:It},BW s q l xs=some x->x∈Ax s l xs/\x.key=q
 |0,xs,x,h=>by
  rw[BW]at h;split at h
  ·rename_i a;unfold FQ at a;rw[h]at a;have:=of_decide_eq_true a;refine⟨?_,by simpa using this⟩;rw[Ax];simp only[Bc];exact List.mem_flatMap.2 ⟨x,List.mem_of_getElem? h,by simp⟩
  cases h
 |l+1,xs,x,h=>by
  rw[BW]at h;split at h
  ·rename_i z b;obtain⟨d,c⟩:=Nw h;refine⟨List.mem_flatMap.2 ⟨z,?_,d⟩,c⟩;unfold KR at b;split at b
   ·exact List.mem_of_getElem? b
   split at b
   ·cases b
   exact List.mem_of_getElem? b
  cases h
def AT(s:Sto)(root:Int):List It:=match Ak s root.toNat with|some (lv,xs)=>Ax s lv.toNat xs|none=>[]
def btw(a b:Ky)(x:It):Bool:= !Ap x.key a&& !Ap b x.key
theorem SB:∀{ys:List It},Srt ys->(ys.takeWhile λx=> !Ap b x.key)=ys.filter λx=> !Ap b x.key
 |[],_=>rfl
 |y::ys,h=>by
  have c:=List.pairwise_cons.1 h;by_cases a:Ap b y.key=true
  ·rw [List.takeWhile_cons_of_neg (by simp[a]),List.filter_cons_of_neg (by simp[a])];symm;rw[List.filter_eq_nil_iff];intro z d;have:=LO a (c.1 z d);simp[this]
  rw[List.takeWhile_cons_of_pos (by simp[a]),List.filter_cons_of_pos (by simp[a]),SB c.2]
variable{ys:List It}
theorem Srt.filter(h:Srt ys)(p:It->Bool):Srt (ys.filter p):=List.Pairwise.filter p h
theorem wCo{root:Int}(h:(AQ s root).2=0):Srt (AT s root):=by
 obtain⟨_,_,_,_,b,xs,a,c,_⟩:=CW h;unfold AT;rw[a];exact(X1 c).srt
theorem wKr{root:Int}(h:(AQ s root).2=0)(a b:Ky):rng s root a b=(AT s root).filter (btw a b):=by
 have d:=wCo h;obtain⟨_,_,_,_,c,xs,e,f,_⟩:=CW h;unfold rng AT at *;rw[e]at d⊢;change Srt (Ax s c xs)at d;show ((Bx s a c xs).takeWhile λx=> !Ap b x.key)=(Ax s c xs).filter (btw a b);rw[wCe f,SB (d.filter _),List.filter_filter];congr 1;funext x;unfold btw;rw[Bool.and_comm]
theorem Xf{root:Int}(h:(AQ s root).2=0){q:Ky}{x:It}(a:N3 s root q=some x):x∈AT s root/\x.key=q:=by
 grind[CW,N3,AT,Nw]
theorem wZf(h:¬Ap a b=true):MR b a:=by grind[MR]
theorem wTh{root:Int}(h:(AQ s root).2=0)(a b:Ky):(rng s root a b).length<=15625:=by
 obtain⟨_,_,_,_,c,xs,e,_,_⟩:=CW h;unfold rng;rw[e];have d:=Ar e;have f:=N6 (s:=s) (q:=a) (l:=c) (by have:=d.lev;omega) d.len;have g:=(List.takeWhile_prefix (λx=> !Ap b x.key) (l:=Bx s a c xs)).length_le;grind
def EX(lv:Int)(xs:List It):List (Int×Int):=xs.map λx=>(x.ref,lv-1)
def C4:List It->Sto->Option Sto
 |[],s=>some s
 |x::xs,s=>if x.ref=0 then C4 xs s else if Cj s x.ref.toNat=0 then C4 xs (AO s x.ref.toNat)else none
def AS(s:Sto)(k:Nat):Sto:={ s with now:=s.now.set k 0 }
def MQ(first:List By):Nat->Sto->List (Int×Int)->Option Sto
 |_,s,[]=>some s
 |0,_,_::_=>none
 |n+1,s,(k,l)::st=>
  if s.now.getD k.toNat 0=0 then none
  else if s.now.getD k.toNat 0≠1 then MQ first n (AO s k.toNat) st
  else match Ak s k.toNat with
   |none=>none
   |some (lv,xs)=>if first.getD k.toNat 0=0\/(0<=l/\lv≠l)then none
    else if 0<lv then MQ first n (AS s k.toNat) (EX lv xs++st)
    else match C4 xs (AS s k.toNat)with
     |none=>none
     |some t=>MQ first n t st
def DI(bs:List By):Nat:=(bs.map UInt8.toNat).sum
def Df(s:Sto)(root:Int):Option Sto:=MQ s.now (DI s.now) s [(root,-1)]
def Br(l:List It):List (List It):=if 5<l.length then [l.take 3,l.drop 3]else [l]
def XY(s:Sto)(p:List It):It:=⟨BC p,(BH (Am s p):Int),[]⟩
def Ud(lv:Int):List (List It)->Sto->List It->Except Int (Sto×List It)
 |[],s,up=>.ok (s,up)
 |p::ps,s,up=>if KS s lv p=0 then Ud lv ps (EM s lv p) (up++[XY s p])else .error (KS s lv p)
def Kl:List It->Sto->Except Int Sto
 |[],s=>.ok s
 |x::xs,s=>if x.ref=0 then Kl xs s else if Cj s x.ref.toNat=0 then Kl xs (AO s x.ref.toNat)else .error (Cj s x.ref.toNat)
def build(s:Sto)(lv:Int)(l held:List It):Except Int (Sto×List It):=match Ud lv (Br l) s []with
 |.error e=>.error e
 |.ok (t,up)=>match Kl held t with
  |.error e=>.error e
  |.ok t2=>.ok (t2,up)
structure Stp where
 lv:Int
 xs:List It
 at_:Nat
def BO(xs:List It)(q:Ky):Nat:=if FQ xs q then place xs q else place xs q-1
def AE(s:Sto)(q:Ky):Nat->List It->List Stp
 |0,xs=>[⟨0,xs,place xs q⟩]
 |l+1,xs=>⟨((l+1:Nat):Int),xs,BO xs q⟩::AE s q l (match xs[BO xs q]? with|some x=>kid s x|none=>[])
def Ex(ws:List Stp)(q:Ky):Bool:=ws.length==6&& !(ws.any λw=>decide (w.xs.length<5))&& !(match ws.getLast? with|some w=>FQ w.xs q|none=>false)
def DL(w:Stp)(q:Ky):Nat:=match w.xs[w.at_]? with
 |none=>0
 |some y=>if w.lv=0/\y.key≠q then 0 else 1
def FC(w:Stp)(q:Ky)(up:List It):List It:=w.xs.take w.at_++up++w.xs.drop (w.at_+DL w q)
def Sb(s:Sto)(x:It):List Stp->Except Int (Sto×List It)
 |[]=>.ok (s,[x])
 |w::ws=>match Sb s x ws with
  |.error e=>.error e
  |.ok (t,up)=>build t w.lv (FC w x.key up) up
def DS(s:Sto)(root:Int)(x:It):Int:=if (AQ s root).2=0 then (if Cd x=0 then (if x.ref≠0/\s.now.getD x.ref.toNat 0=0 then 6 else 0)else 8)else (AQ s root).2
def KO(x:It)(n:Int):Except Int (Sto×List It)->Except Int (Sto×List It)
 |.error e=>.error e
 |.ok (t,up)=>if 1<up.length then build t n up up else .ok (t,up)
def HG(s:Sto)(root:Int)(x:It)(ws:List Stp):Except Int (Sto×Int):=if Ex ws x.key=true then .error 120 else
 match KO x ws.length (Sb s x ws)with
 |.error e=>.error e
 |.ok (t,up)=>match Df t root with
  |none=>.error 8
  |some t2=>.ok (t2,match up with|y::_=>y.ref|[]=>0)
def H2(s:Sto)(root:Int)(x:It):Except Int (Sto×Int):=
 if DS s root x≠0 then .error (DS s root x)else
  match Ak s root.toNat with
  |none=>.error 8
  |some (lv,xs)=>HG s root x (AE s x.key lv.toNat xs)
theorem bwi(a:Option Addr)(n c:Nat)(M:Mem):
  SpecL prog 270 #[.slice a n c] M [] λu M' f=>∃b,u=.func (.func 321) #[] #[pB b]/\M' b=some (.cells #[.slice a n c] 79 (0,0))/\f=[]:=by
 refine sB func270 ntmps270 ?_;intro W;refine gh ?_;refine lh (Bt (cs:=[.slice a n c]) rfl rfl rfl rfl) ?_;rintro _ _ _ ⟨e,rfl,rfl,rfl⟩;refine gh ?_;refine AF e (by simp) ?_;intro h d g;refine gr ?_;grind
theorem wRj(b:Nat)(a:Option Addr)(c:Nat)(xs:List (It×Value))(M:Mem)(H:M b=some (.cells #[.slice a xs.length c] 79 (0,0)))(hs:SM M a (xs.flatMap Ae))(S:xs.length<=1000000)(l:Nat)(J D:List ((It×Value)×Nat)->Mem->Lc->Prop)(j:Mem)(z:Lc)(B:MLe M j)(I:∀d y M2 L2,MLe j M2->J d M2 L2->d++[y]<+:bw xs 0->Em prog l ((λp:(It×Value)×Nat=>[.int .i64 p.2,.agg (Ae p.1).toArray]) y).toArray M2 L2 λv M' L'=>(v=.bool true/\J (d++[y]) M' L')\/(v=.bool false/\D (d++[y]) M' L'))(K:J [] j z):
  SpecL prog 321 #[.func (.yield l) #[] #[],pB b] j z λ_ M' L'=>J (bw xs 0) M' L'\/∃d,d<+:bw xs 0/\D d M' L':=by
 have n:∀{M2:Mem}(L:Lc),MLe j M2->CJ M2 L b 0 (.slice a xs.length c):=λL h=>(CM.cj ⟨_,_,_,h _ _ (B _ _ H),rfl⟩ L);refine sB func321 ntmps321 ?_;intro W;refine gh ?_;refine lq (Au rfl rfl rfl rfl (n _ (MLe.refl _))) ?_;refine gh ?_;refine CC (α:=Int×Mem×Lc) (λx=>[(0,.func (.yield l) #[] #[]),(1,pB b),(3,.int .i64 x.1)]) (λx=>x.2.1) (λx=>x.2.2) (λx=> -1<=x.1/\x.1<xs.length/\MLe j x.2.1/\J (bw xs (x.1+1).toNat) x.2.1 x.2.2) (λx=>(x.1+1).toNat) ((xs.length:Int)-1,j,z) ⟨by show -1<=(xs.length:Int)-1;omega,by show (xs.length:Int)-1<xs.length;omega,MLe.refl _,by show J (bw xs ((xs.length:Int)-1+1).toNat) _ _;rw[show ((xs.length:Int)-1+1).toNat=xs.length by omega,RO];exact K⟩ ?_;rintro⟨i,O,P⟩ ⟨s,G,f,o⟩;try dsimp only at s G f o⊢
 refine gj (λu=>?_) λu=>?_
 ·refine gh ?_;obtain⟨k,rfl⟩:∃k:Nat,i=k:=⟨i.toNat,by omega⟩;have g:k<xs.length:=by omega
  obtain⟨R,Q,N,E⟩:=hs.open (by intro e;have:=congrArg List.length e;rw[Aj Ae 5 Ag,List.length_nil]at this;omega);subst N;refine lq (Au rfl rfl rfl rfl (n _ f)) ?_;refine gh ?_;refine lq (A1 (cs:=Ae xs[k]) rfl rfl rfl rfl rfl (λi v F=>((Bs Ae 5 Ag E (show xs[k]? =some xs[k]by simp[g]) i v F).mono (B.trans f)).cj _)) ?_;refine lh (K4 rfl rfl rfl rfl (I (bw xs (k+1)) (xs[k],k) O P f (by rwa[show ((k:Int)+1).toNat=k+1 by omega]at o) (by rw[<-EP xs g];exact C3 xs k))) ?_;rintro _ M' _ ⟨w,C,rfl,m⟩;rw[<-EP xs g]at m;rcases m with⟨rfl,m⟩|⟨rfl,m⟩
  ·refine gh ?_;refine BD ((k:Int)-1,M',C) ⟨by show -1<=(k:Int)-1;omega,by show (k:Int)-1<xs.length;omega,f.trans w,by show J (bw xs ((k:Int)-1+1).toNat) _ _;rw[show ((k:Int)-1+1).toNat=k by omega];exact m⟩
  refine gh ?_;refine AB (L':=C) (by simp) ?_;refine Pi (rs:=[]) rfl .nil ?_;grind[C3]
 refine gh ?_;refine YU ?_;refine Pi (rs:=[]) rfl .nil ?_;grind
theorem XE(b:Nat)(a:Option Addr)(c:Nat)(xs:List (It×Value))(M:Mem)(e:M b=some (.cells #[.slice a xs.length c] 79 (0,0)))(hs:SM M a (xs.flatMap Ae))(d:xs.length<=1000000):Iter prog 321 [pB b] M (λp:(It×Value)×Nat=>[.int .i64 p.2,.agg (Ae p.1).toArray]) (bw xs 0):=
 λl J k i j f g h=>wRj b a c xs M e hs d l J k i j f g h
section
variable{P:Program}{Q:Exit->Act->World->Prop}
def Z2{α:Type}(n:Nat)(r:Option Nat)(E:Ent)(Di:α->List Nat)(Fi:α->Fr)(Mi:α->Mem)(Li:α->Lc)(φ:α->Prop)(μ:α->Nat)(x:α)(a:Act)(w:World):Prop:=
 ∃y,φ y/\μ y<μ x/\Has ⟨n,(Di y).map Nj,r⟩ (Fi y) a/\St E (Mi y) (Li y) w
theorem wNn{α:Type}{n:Nat}{r:Option Nat}{E:Ent}{c:Code}(o:α->List Nat)(k:α->Fr)(i:α->Mem)(j:α->Lc)(g:α->Prop)(s:α->Nat)
  (h:∀x,g x->JC P ⟨n,(o x).map Nj,r⟩ c (k x) E (i x) (j x) (Exit.then (Z2 n r E o k i j g s x) Q)) (x:α) (N:g x):JC P ⟨n,(o x).map Nj,r⟩ (.loop c) (k x) E (i x) (j x) Q:=by
 classical
 intro a w T O;let I:Act->World->Nat->Prop:=λa w m=>∃x,g x/\Has ⟨n,(o x).map Nj,r⟩ (k x) a/\St E (i x) (j x) w/\s x=m;let m:Act->World->Nat:=λa w=>if h:∃n,I a w n then Classical.choose (Wy h)else 0
 have R:∀a w n,I a w n->m a w<=n:=λa w n G=>by
  have f:∃n,I a w n:=⟨n,G⟩;simp only[m,dif_pos f];exact(Classical.choose_spec (Wy f)).2 _ G
 refine wpIn_loop (λa w=>∃n,I a w n) m ⟨_,x,N,T,O,rfl⟩ λa w f=>?_;have d:I a w (m a w):=by simp only[m,dif_pos f];exact(Classical.choose_spec (Wy f)).1
 obtain⟨y,M,D,C,L⟩:=d;refine wpIn_mono (h y M a w D C) λe J F b=>?_;cases e with
 |normal=>
  obtain⟨z,K,S,B,u⟩:=b
  have H:I J F (s z):=⟨z,K,B,u,rfl⟩
  exact⟨⟨_,H⟩,by have:=R J F _ H;omega⟩
 |exit U=>exact b
 |goto l=>exact b
 |ret=>exact b
 |panic V=>exact b
 |outgrown=>exact b
theorem wGg{α:Type}{n:Nat}{D:List Deferred}{r:Option Nat}{E:Ent}{c:Code}{F:Fr}{M:Mem}{L:Lc}(g:α->List Nat)(f:α->Fr)(d:α->Mem)(e:α->Lc)(b:α->Prop)(i:α->Nat)(x:α)(m:D=(g x).map Nj)(hk:Keep F (f x))(j:b x)(hs:∀w,St E M L w->St E (d x) (e x) w)
  (h:∀x,b x->JC P ⟨n,(g x).map Nj,r⟩ c (f x) E (d x) (e x) (Exit.then (Z2 n r E g f d e b i x) Q)):JC P ⟨n,D,r⟩ (.loop c) F E M L Q:=λa w l k=>
 wNn g f d e b i h x j a w (by rw[<-m];exact l.keep hk) (hs w k)
theorem Jf{α:Type}{n:Nat}{D:List Deferred}{r:Option Nat}{E:Ent}{F:Fr}{M:Mem}{L:Lc}{h:α->List Nat}{g:α->Fr}{e:α->Mem}{f:α->Lc}{d:α->Prop}{a:α->Nat}{x:α}(y:α)(k:D=(h y).map Nj)(hk:Keep F (g y))(b:d y)(c:a y<a x)
  (hs:∀w,St E M L w->St E (e y) (f y) w):JQ ⟨n,D,r⟩ .normal F E M L (Exit.then (Z2 n r E h g e f d a x) Q):=λ_ w j i=>⟨y,b,c,by rw[<-k];exact j.keep hk,hs w i⟩
end
def YJ(D:List Nat):Lc:=D.map λd=>(d,.deferred (some []))
variable{E:Ent}{F:Fr}{L2:Lc}{M:Mem}{P:Program}{fn:Func}{n:Nat}{post:Value->Mem->Lc->Prop}
theorem Wz:∀{D:List Nat}{L:Lc},L.Perm (YJ D++L2)->JQ ⟨n,[],none⟩ .ret F E M L2 (Bz P fn E post)->JQ ⟨n,D.map Nj,none⟩ .ret F E M L (Bz P fn E post)
 |[],L,a,h=>AM (λw b=>b.perm a) h
 |d::D,L,a,h=>Bu (L2:=YJ D++L2) a (Wz (List.Perm.refl _) h)
variable{D:List Nat}{L:Lc}
theorem EE(hs:∀w,St E M L w->St E M (YJ D++L2) w)(h:JQ ⟨n,[],none⟩ .ret F E M L2 (Bz P fn E post)):JQ ⟨n,D.map Nj,none⟩ .ret F E M L (Bz P fn E post):=
 AM hs (Wz (List.Perm.refl _) h)
variable{α:Type}
theorem permC{A B:List α}(h:∀f:α->Nat,(A.map f).sum=(B.map f).sum):A.Perm B:=by
 classical
 have e:∀(a:α)(l:List α),(l.map λx=>if x=a then 1 else 0).sum=l.count a:=λa l=>by
  induction l with
  |nil=>rfl
  |cons x l b=>
   rw[List.map_cons,List.sum_cons,b,List.count_cons,Nat.add_comm]
   congr 1
   by_cases c:x=a<;>simp[c]
 grind
variable{A B:Lc}
theorem BE(h:∀f:Nat×Obj->Nat,(A.map f).sum=(B.map f).sum:=by intro f;simp only[YJ,cE,List.getElem_toArray,List.getElem_cons_zero,List.getElem_cons_succ,List.map_append,List.map_cons,List.map_nil,List.sum_append,List.sum_cons,List.sum_nil]<;>omega):A.Perm B:=permC h
variable{w:World}
theorem St.dropAt{p:Nat×Obj}(h:St E M (A++(p::B)) w):St E M (A++B) w:=h.fewer (List.Sublist.append_left (List.sublist_cons_self _ _) _)
theorem St.tl{p:Nat×Obj}(h:St E M (p::B) w):St E M B w:=h.fewer (List.sublist_cons_self _ _)
variable{R:Lc}{e:TypeId}
theorem Own.pop{g m b size:Nat}{A B:List Value}(h:Own (.slice (some ⟨g,0,none⟩) (m+1) b) R e size (m+1) (A++B))(d:A.length=m*size):Own (.slice (some ⟨g,0,none⟩) m b) R e size m A:=by
 obtain⟨n,c,a,j,rfl,l,i,f,k⟩:=h.open (by omega);cases j;refine⟨d,.inr ⟨g,b,a,rfl,rfl,by omega,i,f,?_⟩⟩;have:a.toList.take (m*size)=(a.toList.take ((m+1)*size)).take (m*size):=by
  grind
 grind
section
variable{P:Program}{N:Fs}{F:Fr}{W:World}{X:List Nat}{M0 M:Mem}{L:Lc}{Q:Exit->Act->World->Prop}
theorem QL{d:Exit}{c:Obj}{L2:Lc}(g:Nat)[i:Rm g c L L2](k:∀x∈X,x∈L2.map (·.1))(h:∀M',MLe M M'->M' g=some c->JQ N d F ⟨W,X,M0⟩ M' L2 Q):JQ N d F ⟨W,X,M0⟩ M L Q:=by
 intro a w l f;have b:=f.perm i.perm;have j:g∉X:=λe=>(List.nodup_cons.1 b.nodup).1 (k g e);obtain⟨o,n,m⟩:=St.freeze' j b;exact h _ n m a w l o
end
variable{W:World}{X:List Nat}
theorem Qu(c:∀x∈X,x<W.heap.size)(h:∀p∈R,W.heap.size<=p.1):∀p∈R,p.1∉X:=λp b a=>by
 have:=c _ a;have:=h p b;omega
section
variable{P:Program}{ops:Array Oper}{N:Fs}{F:Fr}{W:World}{X:List Nat}{M0 M:Mem}{L:Lc}{Q:Exit->Act->World->Prop}{rest:List Oper}
theorem Own.freezeY{v:Value}{R L2:Lc}{e:TypeId}{size n:Nat}{xs:List Value}(h:Own v R e size n xs)(i:∀x∈X,x∈L2.map (·.1)){w:World}(b:St ⟨W,X,M0⟩ M (R++L2) w):∃M' a c,MLe M M'/\v=.slice a n c/\n<=c/\SM (Cn M M') a xs/\St ⟨W,X,M0⟩ M' L2 w:=by
 have g:=b.nodup;rw[List.map_append]at g;have j:=(List.nodup_append.1 g).2.2;exact h.freezeN (λp f d=>j _ (List.mem_map_of_mem f) _ (i _ d) rfl) b
theorem wUv{v:Value}{R L2:Lc}{e:TypeId}{size n:Nat}{xs:List Value}(l:Own v R e size n xs)[k:Pick R L L2](m:∀x∈X,x∈L2.map (·.1))
  (h:∀M' a b,MLe M M'->v=.slice a n b->n<=b->SM (Cn M M') a xs->JL P ops N Q rest F ⟨W,X,M0⟩ M' L2):JL P ops N Q rest F ⟨W,X,M0⟩ M L:=by
 intro a w o j;obtain⟨M',s,b,i,g,f,d,c⟩:=l.freezeY m (j.perm k.perm);exact h M' s b i g f d a w o c
end
end Go.Proofs.YtjheijhahehnmaaGreatDoor
