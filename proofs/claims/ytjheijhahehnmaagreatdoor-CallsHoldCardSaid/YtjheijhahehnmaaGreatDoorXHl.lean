/- Lemmas. -/
import Derived.Test.YtjheijhahehnmaaGreatDoorXPlace
namespace Go.Proofs.YtjheijhahehnmaaGreatDoor
open Go.Proofs.Tryz
set_option linter.unusedSimpArgs false
set_option linter.unusedVariables false
set_option linter.unusedSectionVars false
set_option maxHeartbeats 40000000
set_option maxRecDepth 8000
open Go.RowKit
variable{s:Sto}
theorem CR{root:Int}(h:(AN s root).2=0):Au s/\8<=root/\root<256/\¬s.now.getD root.toNat 0=0/\∃(a:Nat)(xs:List It),Ag s root.toNat=some ((a:Int),xs)/\A1 s a xs/\(AN s root).1=a+1:=by
 by_cases f:Au s
 ·by_cases e:root<8\/256<=root
  ·grind [AN]
  by_cases d:s.now.getD root.toNat 0=0
  ·grind [AN]
  rw[Hb f e d]at h;split at h
  ·cases h
  rename_i g xs b;have c:=(Ar b).lev;grind[Hb,A1]
 grind[AN]
theorem wSb(s:Sto)(x:It):(kid s x).length<=5:=by
 unfold kid;split
 ·rename_i h;exact(Ar h).len
 grind
variable{f:It->List It}{m:Nat}
theorem Qy{q:Ky}(h:∀x,(f x).length<=m):∀xs,(B0 f q xs).length<=m*xs.length
 |[]=>by simp[B0]
 |x::xs=>by
  have a:=h x;obtain⟨g,e,c⟩:∃g,B0 f q (x::xs)=g++B0 f q xs/\g.length<=m:=by
   cases xs with
   |nil=>exact⟨f x,rfl,a⟩
   |cons y ys=>
    refine⟨if Ap q y.key then f x else [],rfl,?_⟩
    split
    ·exact a
    exact zL
  have b:=Qy h xs (q:=q);rw[e,List.length_append,List.length_cons,Nat.mul_add,mO];omega
theorem SN(s:Sto)(q:Ky):∀(l:Nat)(xs:List It),(Bs s q l xs).length<=5 ^ l*xs.length
 |0,xs=>by rw[Bs,Nat.pow_zero,Nat.one_mul];exact List.length_filter_le _ _
 |l+1,xs=>by
  rw[Bs,Nat.pow_succ];refine Qy (λx=>Nat.le_trans (SN s q l _) (Nat.mul_le_mul_left _ (wSb s x))) xs
variable{l:Nat}{xs:List It}
theorem NK{q:Ky}(b:l<6)(a:xs.length<=5):(Bs s q l xs).length<=15625:=by
 refine Nat.le_trans (SN s q l xs) ?_;have:5 ^ l<=5 ^ 5:=Nat.pow_le_pow_right (by omega) (by omega);exact Nat.le_trans (Nat.mul_le_mul this a) (by decide)
theorem XW(h c d lv:Value)(q:Ky)(root:Int)(M:Mem):
  Sg 264 #[.agg #[h,c,d,lv],iL root,.agg (Az q).toArray] M [] λu M' s=>(∃g f e,u=.func (.func 316) #[] #[pB g,pB f,pB e]/\M' g=some (cE [h,c,d,lv] 28)/\M' f=some (cE (Az q) 92)/\M' e=some (cE [iL root] 3))/\s=[]:=by
 refine sB func264 ntmps264 ?_;intro W;refine ga λk=>?_;refine lh (Bz (cs:=[iL root]) rfl rfl rfl rfl) ?_;rintro _ _ _ ⟨j,rfl,rfl,rfl⟩;refine ga λi=>?_;refine AD k (by simp) ?_;intro z l o;refine AD j (by simp) ?_;intro y b n;refine AD i (by simp) ?_;intro w a m;refine gr ?_;exact⟨⟨k,i,j,rfl,a _ _ (b _ _ o),m,a _ _ n⟩,rfl⟩
def rng(s:Sto)(root:Int)(a b:Ky):List It:=match Ag s root.toNat with
 |some (lv,xs)=>(Bs s a lv.toNat xs).takeWhile λx=> !Ap b x.key
 |none=>[]
variable{α:Type}
theorem wGm{p:α->Bool}{xs:List α}(h:∀x∈xs,p x=true):xs.takeWhile p=xs:=by
 induction xs with
 |nil=>rfl
 |cons x xs a=>rw[List.takeWhile_cons_of_pos (h x (by simp)),a (λy b=>h y (by simp[b]))]
theorem wAx{p:α->Bool}{a r:List α}{y:α}(h:∀x∈a,p x=true)(b:p y=false):(a++y::r).takeWhile p=a:=by
 induction a with
 |nil=>rw[List.nil_append,List.takeWhile_cons_of_neg (by simp[b])]
 |cons x xs c=>rw[List.cons_append,List.takeWhile_cons_of_pos (h x (by simp)),c (λy b=>h y (by simp[b]))]
abbrev ITS:TypeId:=79
def RI(b8:Nat)(to:Ky)(pre:List It)(M':Mem)(R:Lc):Prop:=∃v Rs,∃ps:List (It×Value),R=(b8,cE [v] ITS)::Rs/\Own v Rs IT 5 ps.length (ps.flatMap Ad)/\ps.map (·.1)=pre/\(∀p∈ps,BS M' p.2 p.1.val)/\∀x∈pre,(!Ap to x.key)=true
theorem Xo(s:Sto)(root:Int)(a b:Ky)(X U V lv:Value)(M:Mem)(h1:LS M X s.blocks)(h2:WS M U s.waits)(h3:BS M V s.now)(h4:BS M lv s.last):
  Sg 173 #[.agg #[X,U,V,lv],iL root,.agg (Az a).toArray,.agg (Az b).toArray] M [] λu M' L'=>(∃v,u=.tuple #[v,iL (AN s root).2]/\NS M' v (if (AN s root).2=0 then rng s root a b else []))/\L'=[]:=by
 have al:ST M (.agg #[X,U,V,lv]) s:=⟨_,_,_,_,rfl,h1,h2,h3,h4⟩;refine sB func173 ntmps173 ?_;intro W;refine ga4 λb4 b6 b7 b8=>?_;refine gQ (H1 s root X U V lv M h1 h2 h3 h4) ?_;refine gj (λn=>?_) λn=>?_
 ·refine gr ?_;exact⟨⟨_,rfl,by rw[iN n];exact NS.nil⟩,rfl⟩
 refine gh ?_;obtain⟨af,ao,ah,ap,G,xs,L,ae,au⟩:=CR (nN n);have aa:=Ar L;have aq:=aa.lev;have ag:=NK (s:=s) (q:=a) (l:=G) (by omega) aa.len;obtain⟨k,rfl⟩:∃k:Nat,root=k:=⟨root.toNat,by omega⟩;rw[tN]at L;have H:rng s (k:Int) a b=(Bs s a G xs).takeWhile λx=> !Ap b x.key:=by grind[rng]
 obtain⟨T,o⟩:∃T,T=Bs s a G xs:=⟨_,rfl⟩;rw[<-o]at ag;refine gc (XW X U V lv a (k:Int) M) ?_;rintro _ M1 Q ⟨d1,d2,d3,rfl,ak,aj,ai⟩;refine gh ?_;refine BH b7 (by simp) ?_;intro am z e7;replace Q:=Q.trans z;refine Sr (R:=[(b8,cE [sN] ITS)]) (xs:=T) (En:=KEn) (ps:=[26]) rfl (by kernel_rfl) (b:=true) (lb:=[pB d1,pB d2,pB d3]) (λl J Jx Y L2 F N hJ h0=>by rw[o]at hJ ⊢;exact XX s af a k G xs (by omega) L ae d1 d2 d3 (.nilFunc) am X U V lv (z _ _ ak) (al.mono Q) (z _ _ aj) (z _ _ ai) l J Jx Y L2 F (N rfl) hJ h0)
  (RI b8 b)
  (λc Z M' R=>c=.exit 0/\∃j y,Z=j++[y]/\RI b8 b j M' R/\Ap b y.key=true)
  (λy _ vs ⟨va,vc,e,_⟩=>by rw[e];rfl) (by decide) ⟨_,[],[],rfl,Own.nil _ _,rfl,(λ_ h=>by cases h),(λ_ h=>by cases h)⟩ (λ_ j Y M3 R hM ⟨v,Rs,ps,q1,q2,q3,q4,q5⟩=>⟨v,Rs,ps,q1,q2,q3,λp E=>(q4 p E).mono hM,q5⟩) ?_ ?_ ?_
 ·intro l W2 j y Y R2 vs F S C hE;obtain⟨v,Rs,ps,rfl,f,g,B,D⟩:=S;obtain⟨oa,oc,rfl⟩:=f.form;obtain⟨va,vc,rfl,ad,ac⟩:=hE;refine ga λaw=>?_;refine jK λW'=>?_;refine gh ?_;refine lq (A0 (cs:=Az b) rfl rfl rfl rfl rfl (λi v hv=>CM.cj ⟨_,_,_,F _ _ e7,by simpa [Az]using hv⟩ _)) ?_;refine gg ?_;refine BK rfl rfl (Dc rfl rfl rfl rfl rfl (by kernel_rfl) (Ch b y.key Y)) (λab=>?_) (λab=>?_)
  ·refine gh ?_;refine wUk rfl ?_;refine AE (L':=(b8,cE [.slice oa ps.length oc] ITS)::Rs) (by simp) ?_;refine jQx ?_;exact⟨rfl,j,y,rfl,⟨_,Rs,ps,rfl,f,g,B,D⟩,ab⟩
  refine gh ?_;refine lh (Ab (cs:=[_,_,_,_,_]) rfl rfl rfl (by rfl) (by rfl) (by rfl)) ?_;rintro _ _ _ ⟨av,rfl,rfl,rfl⟩;refine lh (AY (R:=Rs) (m:=1) rfl rfl rfl rfl f rfl (λi v hv=>CJ.loc (by simpa using hv)) rfl (by rfl) (by simp[Value.oneCell']) (by have:=C.length_le;rw[List.length_append,List.length_singleton]at this;have h5:=cA List.length g;rw[List.length_map]at h5;omega) (by omega)) ?_;rintro s' _ _ ⟨rfl,R',rfl,K,_⟩;obtain⟨a2,c2,rfl⟩:=K.form;refine gh ?_;refine AL (L':=(b8,cE [.slice a2 (ps.length+1) c2] ITS)::R') (λw h=>(h.perm List.perm_append_comm).fewer (.cons _ (.cons _ (.refl _)))) ?_;refine wFt ?_;refine⟨_,R',ps++[(y,.slice va y.val.length vc)],rfl,?_,by rw[List.map_append,g];rfl,?_,?_⟩
  ·grind [Ad]
  ·intro p E;rcases mA E with E|E
   ·exact B p E
   rw[mS E];exact⟨va,vc,rfl,ad,ac⟩
  grind
 ·intro d Y R2 F S;obtain⟨v,Rs,ps,rfl,f,g,B,D⟩:=S;obtain⟨oa,oc,rfl⟩:=f.form;simp only[List.cons_append,List.nil_append];refine gh ?_;refine Bn (L2:=_) Rm.perm ?_;refine BF f (by simp) ?_;intro M9 a9 c9 P e9 O I;cases e9;refine gr ?_;refine⟨⟨_,cA (λe=>Value.tuple #[_,iL e]) (nN n).symm,?_⟩,rfl⟩;rw[iP (nN n),H,<-o,wGm D];exact⟨_,_,ps,by rw[<-g,List.length_map],by rw[<-g,List.length_map];exact O,I,g,λp E=>(B p E).mono P⟩
 intro d c j Y R2 F C S;obtain⟨rfl,j,y,rfl,S,hy⟩:=S;obtain⟨v,Rs,ps,rfl,f,g,B,D⟩:=S;obtain⟨oa,oc,rfl⟩:=f.form;simp only[List.cons_append,List.nil_append];refine gh ?_;refine Bn (L2:=_) Rm.perm ?_;refine BF f (by simp) ?_;intro M9 a9 c9 P e9 O I;cases e9;refine gr ?_;refine⟨⟨_,cA (λe=>Value.tuple #[_,iL e]) (nN n).symm,?_⟩,rfl⟩;obtain⟨r,hr⟩:=C;rw[iP (nN n),H,<-o,<-hr,List.append_assoc,List.singleton_append,wAx D (by rw[hy];rfl)];exact⟨_,_,ps,by rw[<-g,List.length_map],by rw[<-g,List.length_map];exact O,I,g,λp E=>(B p E).mono P⟩
theorem Xp(s:Sto)(v:Value)(root:Int)(a b:Ky)(M:Mem)(h:ST M v s):Sg 173 #[v,iL root,.agg (Az a).toArray,.agg (Az b).toArray] M [] λu M' c=>(∃v,u=.tuple #[v,iL (AN s root).2]/\NS M' v (if (AN s root).2=0 then rng s root a b else []))/\c=[]:=by
 obtain⟨l,d,e,f,rfl,k,j,i,g⟩:=h.ex;grind[Xo]
theorem H2(s:Sto)(v:Value)(root:Int)(M:Mem)(h:ST M v s):Sg 256 #[v,iL root] M [] λu _ _=>u=.tuple #[iL (AN s root).1,iL (AN s root).2]:=by
 obtain⟨i,a,b,c,rfl,g,f,e,d⟩:=h.ex;grind[H1]
def Kt(xs:List It)(q:Ky):Option It:=if Fy xs q then xs[place xs q]? else if place xs q=0 then none else xs[place xs q-1]?
def BP(s:Sto)(q:Ky):Nat->List It->Option It
 |0,xs=>if Fy xs q then xs[place xs q]? else none
 |l+1,xs=>match Kt xs q with|some x=>BP s q l (kid s x)|none=>none
def NG(s:Sto)(root:Int)(q:Ky):Option It:=match Ag s root.toNat with|some (lv,xs)=>BP s q lv.toNat xs|none=>none
def FdPost(s:Sto)(root:Int)(q:Ky)(u:Value)(M':Mem):Prop:=if (AN s root).2=0 then
  match NG s root q with
  |some x=>∃va vc,u=.tuple #[.agg (EL x va vc).toArray,iL 0]/\x.val.length<=vc/\SM M' va (Aa x.val)
  |none=>u=.tuple #[.agg zeroIt.toArray,iL 6]
 else u=.tuple #[.agg zeroIt.toArray,iL (AN s root).2]
variable{M':Mem}
theorem FdPost.none{root:Int}{q:Ky}(h:(AN s root).2=0)(a:NG s root q=.none):FdPost s root q (.tuple #[.agg zeroIt.toArray,iL 6]) M':=by
 grind[FdPost]
variable{va:Option Addr}{vc:Nat}
theorem FdPost.some{root:Int}{q:Ky}{x:It}(h:(AN s root).2=0)(a:NG s root q=.some x)(c:x.val.length<=vc)(b:SM M' va (Aa x.val)):FdPost s root q (.tuple #[.agg (EL x va vc).toArray,iL 0]) M':=by
 grind[FdPost]
theorem E1{q:Ky}(h:Fy xs q=true):place xs q<xs.length:=by
 grind[Fy,place]
theorem wEt(s:Sto)(root:Int)(q:Ky)(bv V X lv:Value)(M:Mem)(h1:LS M bv s.blocks)(y:WS M V s.waits)(h3:BS M X s.now)(h4:BS M lv s.last):
  Sg 271 #[.agg #[bv,V,X,lv],iL root,.agg (Az q).toArray] M [] λu M' L'=>FdPost s root q u M'/\L'=[]:=by
 have ai:ST M (.agg #[bv,V,X,lv]) s:=⟨_,_,_,_,rfl,h1,y,h3,h4⟩;refine sB func271 ntmps271 ?_;intro W;refine VY λb3 b5 b6=>?_;refine Qm ?_;refine gQ (H1 s root bv V X lv M h1 y h3 h4) ?_;refine gj (λS=>?_) λS=>?_
 ·refine gh ?_;refine jN (λ_ h=>by cases h) ?_;refine gr ?_;exact⟨by unfold FdPost;rw[iN S];rfl,rfl⟩
 refine gh ?_;have E:=nN S;obtain⟨ab,ao,ae,aq,G,U,I,aa,av⟩:=CR E;obtain⟨⟨_,am,_,_⟩,⟨ag,_⟩,_⟩:=id ab;refine gc (Lh s _ M ai (by omega) (by omega)) ?_;rintro _ M1 aj ad;have K:=ad M1 (mR) aj;obtain⟨pb,_,_,_,_,rfl,_⟩:=id K.ex;simp only[List.nil_append];refine gh ?_;refine Qo ?_;refine gh ?_;refine Cy (α:=Nat×Nat×List It×Mem) (λx=>[(5,pB b5),(6,pB b6),(10,iL (x.1:Int)),(11,pB pb)]) (λx=>x.2.2.2) (λx=>[(b6,cE [iB 0,iU 0,iU 0,iL 0,sN] IT),(b5,cE [iB q.kind,iU q.id,iU q.off] 92),(b3,cE [bv,V,X,lv] 28)]) (λx=>x.1<256/\Ag s x.1=some ((x.2.1:Int),x.2.2.1)/\A1 s x.2.1 x.2.2.1/\MLe M1 x.2.2.2/\NG s root q=BP s q x.2.1 x.2.2.1) (λx=>x.2.1) (root.toNat,G,U,M1) ⟨by show root.toNat<256;omega,I,aa,mR,by show NG s root q=BP s q G U;unfold NG;rw[I];rfl⟩ ?_ (hk:=(kC (t:=5) rfl (kC (t:=6) rfl (Keep.ceq (t:=10) rfl (by rw[show ((root.toNat:Nat):Int)=root from Int.toNat_of_nonneg (by omega)]) (kC (t:=11) rfl Keep.nil)))));rintro⟨k,b,xs,Mk⟩ ⟨n,N,C,o,ah⟩;try dsimp only at n N C o ah⊢
 refine gc (Et s k _ Mk ab n (K.mono o)) ?_;rintro _ Mn P O;obtain⟨sl,rfl,af⟩:=(by unfold BnPost at O;rw[N]at O;exact O:∃sl,_/\NS Mn sl xs);obtain⟨a,c,ps,rfl,hc,hs,D,hb⟩:=af;simp only[List.nil_append];have d:=Ar N;have al:=d.len;have au:=d.lev;have ak:=HH xs q;refine ga λaw=>?_;refine lq (qC (Fj _ xs q a c ps Mn hc hs D hb (by omega))) ?_;iterate 2 refine jp rfl ?_
 refine wWn rfl (λF=>?_) (λF=>?_)
 ·iterate 2 refine jp rfl ?_
  refine Am (jT (HR (Ao (Aj ?_))));refine lq (Ah rfl rfl rfl rfl rfl) ?_;refine lq (Aw rfl rfl rfl rfl (CJ.loc rfl)) ?_;refine js rfl (λR=>?_) (λR=>?_)
  ·refine gg ?_;have ac:=E1 F;obtain⟨sb,so,T,L⟩:=hs.open (by intro e;have:=cA List.length e;rw[Af Ad 5 Ae,List.length_nil]at this;have y:=cA List.length D;rw[List.length_map]at y;omega);subst T;obtain⟨va,vc,f,B,z⟩:=Av L D hb (k:=place xs q) (by omega);refine gh ?_;refine lq (A0 (cs:=EL xs[place xs q] va vc) rfl rfl rfl rfl rfl (λi v hv=>(f i v hv).cj _)) ?_;refine gh ?_;refine jN (λ_ h=>by cases h) ?_;refine gr ?_;refine⟨FdPost.some E ?_ B z,rfl⟩;simp_all [BP]
  iterate 4 refine jp rfl ?_
  refine Am (jT (Gv rfl (Ao (Ao (Aj ?_)))));refine lq (Ah rfl rfl rfl rfl rfl) ?_;refine lq (Aw rfl rfl rfl rfl (CJ.loc rfl)) ?_;refine js rfl (λw=>?_) (λw=>?_)
  ·omega
  refine jp rfl ?_;refine Am (jT (Gv rfl (Aj ?_)));refine jp rfl ?_;refine js rfl (λQ=>?_) (λQ=>?_)
  ·refine gg ?_;have ac:=E1 F;obtain⟨sb,so,T,L⟩:=hs.open (by intro e;have:=cA List.length e;rw[Af Ad 5 Ae,List.length_nil]at this;have y:=cA List.length D;rw[List.length_map]at y;omega);subst T;obtain⟨va,vc,f,B,z⟩:=Av L D hb (k:=place xs q) (by omega);refine gh ?_;refine lq (Aw rfl rfl rfl rfl ((f 3 _ rfl).cj _)) ?_;refine gh ?_;obtain⟨l,rfl⟩:∃l,b=l+1:=⟨b-1,by omega⟩;obtain⟨ys,j,H,g⟩:=BE C (List.getElem_mem (show place xs q<xs.length by omega));have Y:=d.ref xs[place xs q] (List.getElem_mem _);have Z:=d.up (by omega) xs[place xs q] (List.getElem_mem _);have m:((xs[place xs q].ref.toNat:Nat):Int)=xs[place xs q].ref:=Int.toNat_of_nonneg (by omega);have J:kid s xs[place xs q]=ys:=by grind[kid]
   refine BB (xs[place xs q].ref.toNat,l,ys,Mn) ⟨by show xs[place xs q].ref.toNat<256;omega,j,g,o.trans P,?_⟩ (hk:=(kC (t:=5) rfl (kC (t:=6) rfl (Keep.ceq (t:=10) rfl (by rw[m]) (kC (t:=11) rfl Keep.nil)))));grind[NG,BP,Kt,place,kid]
  refine gg ?_;have ac:=E1 F;obtain⟨sb,so,T,L⟩:=hs.open (by intro e;have:=cA List.length e;rw[Af Ad 5 Ae,List.length_nil]at this;have y:=cA List.length D;rw[List.length_map]at y;omega);subst T;obtain⟨va,vc,f,B,z⟩:=Av L D hb (k:=place xs q) (by omega);refine gh ?_;refine lq (Aw rfl rfl rfl rfl ((f 3 _ rfl).cj _)) ?_;refine gh ?_;obtain⟨l,rfl⟩:∃l,b=l+1:=⟨b-1,by omega⟩;obtain⟨ys,j,H,g⟩:=BE C (List.getElem_mem (show place xs q<xs.length by omega));have Y:=d.ref xs[place xs q] (List.getElem_mem _);have Z:=d.up (by omega) xs[place xs q] (List.getElem_mem _);have m:((xs[place xs q].ref.toNat:Nat):Int)=xs[place xs q].ref:=Int.toNat_of_nonneg (by omega);have J:kid s xs[place xs q]=ys:=by grind[kid]
  refine BB (xs[place xs q].ref.toNat,l,ys,Mn) ⟨by show xs[place xs q].ref.toNat<256;omega,j,g,o.trans P,?_⟩ (hk:=(kC (t:=5) rfl (kC (t:=6) rfl (Keep.ceq (t:=10) rfl (by rw[m]) (kC (t:=11) rfl Keep.nil)))));grind[NG,BP,Kt,place,kid]
 refine gj (λR=>?_) λR=>?_
 ·iterate 4 refine jp rfl ?_
  refine Am (jT (Gv rfl (Ao (Ao (Aj ?_)))));refine lq (Ah rfl rfl rfl rfl rfl) ?_;refine lq (Aw rfl rfl rfl rfl (CJ.loc rfl)) ?_;refine js rfl (λw=>?_) (λw=>?_)
  ·refine jp rfl ?_;refine Am (jT (HP rfl (E0 (jT (HP rfl (Ly ?_))))));refine wUk rfl ?_;refine wUk rfl ?_;refine wUi (jBx (jT (Ao (Aj ?_))));refine lq (BC (cs:=[_,_,_,_,_]) rfl rfl rfl (by rfl)) ?_;refine Dv rfl (Ak rfl rfl rfl rfl rfl rfl rfl rfl) ?_;rintro _ _ _ ⟨rfl,rfl⟩;refine jp rfl ?_;refine Am (jT (BG ?_));refine jN (λ_ h=>by cases h) ?_;refine zd ([]) rfl ?_;refine⟨FdPost.none E ?_,rfl⟩;simp_all [BP]
  omega
 iterate 4 refine jp rfl ?_
 refine Am (jT (Gv rfl (Ao (Ao (Aj ?_)))));refine lq (Ah rfl rfl rfl rfl rfl) ?_;refine lq (Aw rfl rfl rfl rfl (CJ.loc rfl)) ?_;refine js rfl (λw=>?_) (λw=>?_)
 ·omega
 refine jp rfl ?_;refine Am (jT (Gv rfl (Aj ?_)));refine jp rfl ?_;refine js rfl (λQ=>?_) (λQ=>?_)
 ·refine gg ?_;refine wUk rfl ?_;refine wUk rfl ?_;refine gh ?_;refine jN (λ_ h=>by cases h) ?_;refine zd ([]) rfl ?_;refine⟨FdPost.none E ?_,rfl⟩;obtain⟨l,rfl⟩:∃l,b=l+1:=⟨b-1,by omega⟩;grind[BP,Kt]
 refine gg ?_;have ap:0<place xs q:=by omega
 obtain⟨sb,so,T,L⟩:=hs.open (by intro e;have:=cA List.length e;rw[Af Ad 5 Ae,List.length_nil]at this;have y:=cA List.length D;rw[List.length_map]at y;omega);subst T;obtain⟨va,vc,f,B,z⟩:=Av L D hb (k:=place xs q-1) (by omega);refine lq (Bo (FN rfl rfl rfl rfl (by omega)) (v':=.pointer (some ⟨sb,so+(place xs q-1)*5,none⟩)) (by congr 3;omega)) ?_;refine gg ?_;refine lq (Aw rfl rfl rfl rfl ((f 3 _ rfl).cj _)) ?_;refine gg ?_;obtain⟨l,rfl⟩:∃l,b=l+1:=⟨b-1,by omega⟩;obtain⟨ys,j,H,g⟩:=BE C (List.getElem_mem (show place xs q-1<xs.length by omega));have Y:=d.ref xs[place xs q-1] (List.getElem_mem _);have Z:=d.up (by omega) xs[place xs q-1] (List.getElem_mem _);have m:((xs[place xs q-1].ref.toNat:Nat):Int)=xs[place xs q-1].ref:=Int.toNat_of_nonneg (by omega);have J:kid s xs[place xs q-1]=ys:=by grind[kid]
 refine BB (xs[place xs q-1].ref.toNat,l,ys,Mn) ⟨by show xs[place xs q-1].ref.toNat<256;omega,j,g,o.trans P,?_⟩ (hk:=(kC (t:=5) rfl (kC (t:=6) rfl (Keep.ceq (t:=10) rfl (by rw[m]) (kC (t:=11) rfl Keep.nil)))));grind[NG,BP,Kt,place,kid]
theorem SI(s:Sto)(v:Value)(root:Int)(q:Ky)(M:Mem)(h:ST M v s):Sg 271 #[v,iL root,.agg (Az q).toArray] M [] λu M' a=>FdPost s root q u M'/\a=[]:=by
 obtain⟨j,b,c,d,rfl,i,g,f,e⟩:=h.ex;grind[wEt]
def L6(a b:Ky):Prop:=Ap b a=false
variable{a b:Ky}
theorem Qi:Ap a b=true↔(a.kind<b.kind\/a.kind=b.kind/\(a.id<b.id\/a.id=b.id/\a.off<b.off)):=by grind[Ap]
theorem JH:L6 a b↔¬(b.kind<a.kind\/b.kind=a.kind/\(b.id<a.id\/b.id=a.id/\b.off<a.off)):=by grind[L6,Ap]
theorem Fv(a:Ky):L6 a a:=by grind[JH]
variable{c:Ky}
theorem Lp(h:Ap a b=true)(k:Ap b c=true):Ap a c=true:=by grind[Qi]
theorem JG(h:L6 a b)(k:L6 b c):L6 a c:=by grind[JH]
theorem Qh(h:Ap a b=true)(k:L6 b c):Ap a c=true:=by grind[Qi,JH]
theorem XO(h:L6 a b)(k:Ap b c=true):Ap a c=true:=by grind[Qi,JH]
theorem Kw(h:Ap a b=true):L6 a b:=by grind[Qi,JH]
theorem XP:Ap a a=false:=Fv a
theorem Sn(h:L6 a b):a=b\/Ap a b=true:=by
 rw[JH]at h;rw[Qi];by_cases e:a.kind=b.kind/\a.id=b.id/\a.off=b.off
 ·left;obtain⟨f,d,c⟩:=a;obtain⟨b1,b2,b3⟩:=b;simp_all
 omega
def Srt(ys:List It):Prop:=ys.Pairwise λx y=>Ap x.key y.key=true
def Ba(s:Sto):Nat->It->List It
 |0,x=>[x]
 |l+1,x=>(kid s x).flatMap (Ba s l)
def Ax(s:Sto)(l:Nat)(xs:List It):List It:=xs.flatMap (Ba s l)
structure InSp(p:Sp)(ys:List It):Prop where
 srt:Srt ys
 btw:∀y∈ys,L6 p.first y.key/\L6 y.key p.last
 le:L6 p.first p.last
structure TreeL(g:It->List It)(xs:List It):Prop where
 pw:xs.Pairwise λz w=>(∀y∈g z,Ap y.key w.key=true)/\Ap z.key w.key=true
 each:∀z∈xs,Srt (g z)/\∀y∈g z,L6 z.key y.key
def Bw:List It->Ky
 |[]=>⟨0,0,0⟩
 |x::_=>x.key
theorem wLr{f:It->Sp}{g:It->List It}:∀{xs:List It}{o:Option Sp},(∀x∈xs,(f x).is=true->(f x).first=x.key->InSp (f x) (g x))->(A4 f o xs).is=true->xs≠[]->
  TreeL g xs/\(∀z∈xs,∀y∈g z,L6 y.key (A4 f o xs).last)/\(∀z∈xs,L6 z.key (A4 f o xs).last)/\(∀q,o=some q->∀z∈xs,Ap q.last z.key=true)/\(A4 f o xs).first=(match o with|none=>Bw xs|some q=>q.first)
 |[],_,_,_,h=>aD rfl h
 |x::xs,o,hg,his,_=>by
  rw[A4]at his⊢;split at his;case isFalse=>cases his
  rename_i hs;rw[iP hs];unfold Aq at hs;rw[Bool.and_eq_true,Bool.and_eq_true,decide_eq_true_eq]at hs;obtain⟨⟨h1,h2⟩,h3⟩:=hs;have hx:=hg x (by simp) h1 h2;have hxl:L6 x.key (f x).last:=by rw[<-h2];exact hx.le
  have hxy:∀y∈g x,L6 x.key y.key:=λy hy=>by rw[<-h2];exact(hx.btw y hy).1
  have ho:∀q,o=some q->Ap q.last x.key=true:=λq e=>by subst e;rw[<-h2];exact h3
  have hf0:o=none->(Bi (f x) o).first=x.key:=λe=>by subst e;exact h2
  have hf1:∀q,o=some q->(Bi (f x) o).first=q.first:=λq e=>by subst e;rfl
  cases xs with
  |nil=>
   refine⟨⟨List.pairwise_singleton _ _,λz hz=>?_⟩,λz hz=>?_,λz hz=>?_,λq e z hz=>?_,?_⟩
   ·rw [mS hz];exact⟨hx.srt,hxy⟩
   ·rw [mS hz];exact λy hy=>(hx.btw y hy).2
   ·rw [mS hz];exact hxl
   ·rw [mS hz];exact ho q e
   show (Bi (f x) o).first=_
   cases o with
   |none=>exact hf0 rfl
   |some q=>exact hf1 q rfl
  |cons y ys=>
   obtain⟨i1,i2,i3,i4,i5⟩:=wLr (f:=f) (g:=g) (xs:=y::ys) (o:=some (Bi (f x) o)) (λz hz=>hg z (by simp[hz])) his (by simp)
   have hlt:∀z∈y::ys,Ap (f x).last z.key=true:=λz hz=>i4 _ rfl z hz
   have hll:L6 (f x).last (A4 f (some (Bi (f x) o)) (y::ys)).last:=Kw (Qh (hlt y (by simp)) (i3 y (by simp)))
   refine⟨⟨List.pairwise_cons.2 ⟨λw hw=>⟨λz hz=>XO (hx.btw z hz).2 (hlt w hw),XO hxl (hlt w hw)⟩,i1.pw⟩,λz hz=>?_⟩,λz hz=>?_,λz hz=>?_,λq e z hz=>?_,?_⟩
   ·rcases List.mem_cons.1 hz with rfl|hz
    ·exact ⟨hx.srt,hxy⟩
    exact i1.each z hz
   ·rcases List.mem_cons.1 hz with rfl|hz
    ·exact λu hu=>JG (hx.btw u hu).2 hll
    exact i2 z hz
   ·rcases List.mem_cons.1 hz with rfl|hz
    ·exact JG hxl hll
    exact i3 z hz
   ·rcases List.mem_cons.1 hz with rfl|hz
    ·exact ho q e
    exact Lp (ho q e) (XO hxl (hlt z hz))
   rw[i5]
   show (Bi (f x) o).first=_
   cases o with
   |none=>exact hf0 rfl
   |some q=>exact hf1 q rfl
variable{g:It->List It}{xs:List It}
theorem TreeL.srt(h:TreeL g xs):Srt (xs.flatMap g):=by
 refine List.pairwise_flatMap.2 ⟨λz a=>(h.each z a).1,?_⟩;refine h.pw.imp_of_mem λ{z w} a d e x c y b=>?_;exact Qh (e.1 x c) ((h.each w d).2 y b)
theorem wJe(s:Sto):∀(l:Nat)(x:It),(AR s l x).is=true->(AR s l x).first=x.key->InSp (AR s l x) (Ba s l x)
 |0,x,_,_=>⟨List.pairwise_singleton _ _,λy j=>by rw[mS j];exact⟨Fv _,Fv _⟩,Fv _⟩
 |l+1,x,h,C=>by
  obtain⟨ys,k,e,D⟩:=Tp h;have w:kid s x=ys:=by unfold kid;rw[k]
  rw[D]at h C⊢;obtain⟨i,u,o,_,m⟩:=wLr (g:=Ba s l) (λz _ a b=>wJe s l z a b) h e;have E:Ba s (l+1) x=ys.flatMap (Ba s l):=by rw[Ba,w]
  rw[E];obtain⟨f,n,rfl⟩:=List.exists_cons_of_ne_nil e;have B:∀z∈f::n,L6 f.key z.key:=λz c=>by
   rcases List.mem_cons.1 c with rfl|c
   ·exact Fv _
   exact Kw ((List.pairwise_cons.1 i.pw).1 z c).2
  refine⟨i.srt,λy j=>?_,?_⟩
  ·obtain ⟨z,c,d⟩:=List.mem_flatMap.1 j;refine⟨?_,u z c y d⟩;rw[m];exact JG (B z c) ((i.each z c).2 y d)
  rw[m];exact o f (by simp)
variable{l:Nat}{s:Sto}
theorem WW(h:A1 s l xs):TreeL (Ba s l) xs:=by
 by_cases c:xs=[]
 ·subst c;exact⟨List.Pairwise.nil,λz d=>by cases d⟩
 exact(wLr (λz _ a b=>wJe s l z a b) (h c) c).1
theorem wWj(h:A1 s (l+1) xs){x:It}(a:x∈xs):A1 s l (kid s x):=by
 grind[BE,kid]
theorem Z0{q:Ky}:∀{l:Nat}{xs:List It},A1 s l xs->Bs s q l xs=(Ax s l xs).filter λx=> !Ap x.key q
 |0,xs,_=>by rw[Bs,Ax];simp[Ba]
 |l+1,xs,h=>by
  have c:∀x∈xs,Bs s q l (kid s x)=(Ba s (l+1) x).filter λx=> !Ap x.key q:=λx a=>Z0 (wWj h a);have f:=WW h;have d:=f.pw;clear f h;rw[Bs,Ax];induction xs with
  |nil=>rfl
  |cons x xs b=>
   have a:=c x (by simp)
   have j:=b (λy i=>c y (by simp[i])) (List.pairwise_cons.1 d).2
   rw[List.flatMap_cons,List.filter_append,<-j]
   have e:B0 (λx=>Bs s q l (kid s x)) q (x::xs)=(match xs with|[]=>Bs s q l (kid s x)|y::_=>if Ap q y.key then Bs s q l (kid s x)else [])++B0 (λx=>Bs s q l (kid s x)) q xs:=by cases xs<;>rfl
   rw[e]
   congr 1
   cases xs with
   |nil=>exact a
   |cons y ys=>
    show (if Ap q y.key=true then _ else _)=_
    split
    ·exact a
    rename_i k
    symm
    rw[List.filter_eq_nil_iff]
    intro z g
    have n:=((List.pairwise_cons.1 d).1 y (by simp)).1 z g
    have m:L6 y.key q:=by simpa [L6]using k
    have:=Qh n m
    simp[this]
variable{A:List It}
theorem Xv{q:Ky}(h:∀w∈A,Ap w.key q=false):place A q=0:=by
 simp_all [place]
theorem MY{q:Ky}:∀{l:Nat}{xs:List It}{x:It},BP s q l xs=some x->x∈Ax s l xs/\x.key=q
 |0,xs,x,h=>by
  rw[BP]at h;split at h
  ·rename_i a;unfold Fy at a;rw[h]at a;have:=oT a;refine⟨?_,by simpa using this⟩;rw[Ax];simp only[Ba];exact List.mem_flatMap.2 ⟨x,List.mem_of_getElem? h,by simp⟩
  cases h
 |l+1,xs,x,h=>by
  rw[BP]at h;split at h
  ·rename_i z b;obtain⟨d,c⟩:=MY h;refine⟨List.mem_flatMap.2 ⟨z,?_,d⟩,c⟩;unfold Kt at b;split at b
   ·exact List.mem_of_getElem? b
   split at b
   ·cases b
   exact List.mem_of_getElem? b
  cases h
def AT(s:Sto)(root:Int):List It:=match Ag s root.toNat with|some (lv,xs)=>Ax s lv.toNat xs|none=>[]
def btw(a b:Ky)(x:It):Bool:= !Ap x.key a&& !Ap b x.key
theorem RK:∀{ys:List It},Srt ys->(ys.takeWhile λx=> !Ap b x.key)=ys.filter λx=> !Ap b x.key
 |[],_=>rfl
 |y::ys,h=>by
  have c:=List.pairwise_cons.1 h;by_cases a:Ap b y.key=true
  ·rw [List.takeWhile_cons_of_neg (by simp[a]),List.filter_cons_of_neg (by simp[a])];symm;rw[List.filter_eq_nil_iff];intro z d;have:=Lp a (c.1 z d);simp[this]
  rw[List.takeWhile_cons_of_pos (by simp[a]),List.filter_cons_of_pos (by simp[a]),RK c.2]
variable{ys:List It}
theorem Srt.filter(h:Srt ys)(p:It->Bool):Srt (ys.filter p):=List.Pairwise.filter p h
theorem wAa{root:Int}(h:(AN s root).2=0):Srt (AT s root):=by
 obtain⟨_,_,_,_,b,xs,a,c,_⟩:=CR h;unfold AT;rw[a];exact(WW c).srt
theorem wHa{root:Int}(h:(AN s root).2=0)(a b:Ky):rng s root a b=(AT s root).filter (btw a b):=by
 have d:=wAa h;obtain⟨_,_,_,_,c,xs,e,f,_⟩:=CR h;unfold rng AT at *;rw[e]at d⊢;change Srt (Ax s c xs)at d;show ((Bs s a c xs).takeWhile λx=> !Ap b x.key)=(Ax s c xs).filter (btw a b);rw[Z0 f,RK (d.filter _),List.filter_filter];congr 1;funext x;unfold btw;rw[Bool.and_comm]
theorem V7{root:Int}(h:(AN s root).2=0){q:Ky}{x:It}(a:NG s root q=some x):x∈AT s root/\x.key=q:=by
 grind[CR,NG,AT,MY]
theorem wWi(h:¬Ap a b=true):L6 b a:=by grind[L6]
theorem wQo{root:Int}(h:(AN s root).2=0)(a b:Ky):(rng s root a b).length<=15625:=by
 obtain⟨_,_,_,_,c,xs,e,_,_⟩:=CR h;unfold rng;rw[e];have d:=Ar e;have f:=NK (s:=s) (q:=a) (l:=c) (by have:=d.lev;omega) d.len;have g:=(List.takeWhile_prefix (λx=> !Ap b x.key) (l:=Bs s a c xs)).length_le;grind
def EI(lv:Int)(xs:List It):List (Int×Int):=xs.map λx=>(x.ref,lv-1)
def CW:List It->Sto->Option Sto
 |[],s=>some s
 |x::xs,s=>if x.ref=0 then CW xs s else if Cg s x.ref.toNat=0 then CW xs (AM s x.ref.toNat)else none
def AS(s:Sto)(k:Nat):Sto:={ s with now:=s.now.set k 0 }
def L5(first:List By):Nat->Sto->List (Int×Int)->Option Sto
 |_,s,[]=>some s
 |0,_,_::_=>none
 |n+1,s,(k,l)::st=>
  if s.now.getD k.toNat 0=0 then none
  else if s.now.getD k.toNat 0≠1 then L5 first n (AM s k.toNat) st
  else match Ag s k.toNat with
   |none=>none
   |some (lv,xs)=>if first.getD k.toNat 0=0\/(0<=l/\lv≠l)then none
    else if 0<lv then L5 first n (AS s k.toNat) (EI lv xs++st)
    else match CW xs (AS s k.toNat)with
     |none=>none
     |some t=>L5 first n t st
def Dy(bs:List By):Nat:=(bs.map UInt8.toNat).sum
def leave(s:Sto)(root:Int):Option Sto:=L5 s.now (Dy s.now) s [(root,-1)]
def Bl(l:List It):List (List It):=if 5<l.length then [l.take 3,l.drop 3]else [l]
def WR(s:Sto)(p:List It):It:=⟨Bw p,(BD (Ai s p):Int),[]⟩
def Tu(lv:Int):List (List It)->Sto->List It->Except Int (Sto×List It)
 |[],s,up=>.ok (s,up)
 |p::ps,s,up=>if Ku s lv p=0 then Tu lv ps (Ew s lv p) (up++[WR s p])else .error (Ku s lv p)
def JW:List It->Sto->Except Int Sto
 |[],s=>.ok s
 |x::xs,s=>if x.ref=0 then JW xs s else if Cg s x.ref.toNat=0 then JW xs (AM s x.ref.toNat)else .error (Cg s x.ref.toNat)
def build(s:Sto)(lv:Int)(l held:List It):Except Int (Sto×List It):=match Tu lv (Bl l) s []with
 |.error e=>.error e
 |.ok (t,up)=>match JW held t with
  |.error e=>.error e
  |.ok t2=>.ok (t2,up)
structure Stp where
 lv:Int
 xs:List It
 at_:Nat
def BJ(xs:List It)(q:Ky):Nat:=if Fy xs q then place xs q else place xs q-1
def AB(s:Sto)(q:Ky):Nat->List It->List Stp
 |0,xs=>[⟨0,xs,place xs q⟩]
 |l+1,xs=>⟨((l+1:Nat):Int),xs,BJ xs q⟩::AB s q l (match xs[BJ xs q]? with|some x=>kid s x|none=>[])
def Eh(ws:List Stp)(q:Ky):Bool:=ws.length==6&& !(ws.any λw=>decide (w.xs.length<5))&& !(match ws.getLast? with|some w=>Fy w.xs q|none=>false)
def DA(w:Stp)(q:Ky):Nat:=match w.xs[w.at_]? with
 |none=>0
 |some y=>if w.lv=0/\y.key≠q then 0 else 1
def Fe(w:Stp)(q:Ky)(up:List It):List It:=w.xs.take w.at_++up++w.xs.drop (w.at_+DA w q)
def Rp(s:Sto)(x:It):List Stp->Except Int (Sto×List It)
 |[]=>.ok (s,[x])
 |w::ws=>match Rp s x ws with
  |.error e=>.error e
  |.ok (t,up)=>build t w.lv (Fe w x.key up) up
def DF(s:Sto)(root:Int)(x:It):Int:=if (AN s root).2=0 then (if Ca x=0 then (if x.ref≠0/\s.now.getD x.ref.toNat 0=0 then 6 else 0)else 8)else (AN s root).2
def Kq(x:It)(n:Int):Except Int (Sto×List It)->Except Int (Sto×List It)
 |.error e=>.error e
 |.ok (t,up)=>if 1<up.length then build t n up up else .ok (t,up)
def Hl(s:Sto)(root:Int)(x:It)(ws:List Stp):Except Int (Sto×Int):=if Eh ws x.key=true then .error 120 else
 match Kq x ws.length (Rp s x ws)with
 |.error e=>.error e
 |.ok (t,up)=>match leave t root with
  |none=>.error 8
  |some t2=>.ok (t2,match up with|y::_=>y.ref|[]=>0)
def HG(s:Sto)(root:Int)(x:It):Except Int (Sto×Int):=
 if DF s root x≠0 then .error (DF s root x)else
  match Ag s root.toNat with
  |none=>.error 8
  |some (lv,xs)=>Hl s root x (AB s x.key lv.toNat xs)
theorem bwi(a:Option Addr)(n c:Nat)(M:Mem):
  Sg 270 #[.slice a n c] M [] λu M' f=>∃b,u=.func (.func 321) #[] #[pB b]/\M' b=some (.cells #[.slice a n c] 79 (0,0))/\f=[]:=by
 refine sB func270 ntmps270 ?_;intro W;refine gh ?_;refine lh (Bz (cs:=[.slice a n c]) rfl rfl rfl rfl) ?_;rintro _ _ _ ⟨e,rfl,rfl,rfl⟩;refine gh ?_;refine AD e (by simp) ?_;intro h d g;refine gr ?_;grind
theorem wNp(b:Nat)(a:Option Addr)(c:Nat)(xs:List (It×Value))(M:Mem)(H:M b=some (.cells #[.slice a xs.length c] 79 (0,0)))(hs:SM M a (xs.flatMap Ad))(S:xs.length<=1000000)(l:Nat)(J D:List ((It×Value)×Nat)->Mem->Lc->Prop)(j:Mem)(z:Lc)(B:MLe M j)(I:∀d y M2 L2,MLe j M2->J d M2 L2->d++[y]<+:bw xs 0->D7 prog l ((λp:(It×Value)×Nat=>[iL p.2,.agg (Ad p.1).toArray]) y).toArray M2 L2 λv M' L'=>(v=.bool true/\J (d++[y]) M' L')\/(v=.bool false/\D (d++[y]) M' L'))(K:J [] j z):
  Sg 321 #[.func (.yield l) #[] #[],pB b] j z λ_ M' L'=>J (bw xs 0) M' L'\/∃d,d<+:bw xs 0/\D d M' L':=by
 have n:∀{M2:Mem}(L:Lc),MLe j M2->CJ M2 L b 0 (.slice a xs.length c):=λL h=>(CM.cj ⟨_,_,_,h _ _ (B _ _ H),rfl⟩ L);refine sB func321 ntmps321 ?_;intro W;refine gh ?_;refine lq (Aw rfl rfl rfl rfl (n _ (mR))) ?_;refine gh ?_;refine Cy (α:=Int×Mem×Lc) (λx=>[(0,.func (.yield l) #[] #[]),(1,pB b),(3,iL x.1)]) (λx=>x.2.1) (λx=>x.2.2) (λx=> -1<=x.1/\x.1<xs.length/\MLe j x.2.1/\J (bw xs (x.1+1).toNat) x.2.1 x.2.2) (λx=>(x.1+1).toNat) ((xs.length:Int)-1,j,z) ⟨by show -1<=(xs.length:Int)-1;omega,by show (xs.length:Int)-1<xs.length;omega,mR,by show J (bw xs ((xs.length:Int)-1+1).toNat) _ _;rw[show ((xs.length:Int)-1+1).toNat=xs.length by omega,Q6];exact K⟩ ?_;rintro⟨i,O,P⟩ ⟨s,G,f,o⟩;try dsimp only at s G f o⊢
 refine gj (λu=>?_) λu=>?_
 ·refine gh ?_;obtain⟨k,rfl⟩:∃k:Nat,i=k:=⟨i.toNat,by omega⟩;have g:k<xs.length:=by omega
  obtain⟨R,Q,N,E⟩:=hs.open (by intro e;have:=cA List.length e;rw[Af Ad 5 Ae,List.length_nil]at this;omega);subst N;refine lq (Aw rfl rfl rfl rfl (n _ f)) ?_;refine gh ?_;refine lq (A0 (cs:=Ad xs[k]) rfl rfl rfl rfl rfl (λi v F=>((Bx Ad 5 Ae E (show xs[k]? =some xs[k]by simp[g]) i v F).mono (B.trans f)).cj _)) ?_;refine lh (KF rfl rfl rfl rfl (I (bw xs (k+1)) (xs[k],k) O P f (by rwa[show ((k:Int)+1).toNat=k+1 by omega]at o) (by rw[<-EA xs g];exact CV xs k))) ?_;rintro _ M' _ ⟨w,C,rfl,m⟩;rw[<-EA xs g]at m;rcases m with⟨rfl,m⟩|⟨rfl,m⟩
  ·refine gh ?_;refine BB ((k:Int)-1,M',C) ⟨by show -1<=(k:Int)-1;omega,by show (k:Int)-1<xs.length;omega,f.trans w,by show J (bw xs ((k:Int)-1+1).toNat) _ _;rw[show ((k:Int)-1+1).toNat=k by omega];exact m⟩
  refine gh ?_;refine AE (L':=C) (by simp) ?_;refine NT (rs:=[]) rfl .nil ?_;grind[CV]
 refine gh ?_;refine XR ?_;refine NT (rs:=[]) rfl .nil ?_;grind
theorem Wy(b:Nat)(a:Option Addr)(c:Nat)(xs:List (It×Value))(M:Mem)(e:M b=some (.cells #[.slice a xs.length c] 79 (0,0)))(hs:SM M a (xs.flatMap Ad))(d:xs.length<=1000000):Iter prog 321 [pB b] M (λp:(It×Value)×Nat=>[iL p.2,.agg (Ad p.1).toArray]) (bw xs 0):=
 λl J k i j f g h=>wNp b a c xs M e hs d l J k i j f g h
section
variable{P:Program}{Q:Exit->Act->World->Prop}
def Y1{α:Type}(n:Nat)(r:Option Nat)(E:Ent)(Di:α->List Nat)(Fi:α->Fr)(Mi:α->Mem)(Li:α->Lc)(φ:α->Prop)(μ:α->Nat)(x:α)(a:Act)(w:World):Prop:=
 ∃y,φ y/\μ y<μ x/\Has ⟨n,(Di y).map MM,r⟩ (Fi y) a/\St E (Mi y) (Li y) w
theorem wKs{α:Type}{n:Nat}{r:Option Nat}{E:Ent}{c:Code}(o:α->List Nat)(k:α->Fr)(i:α->Mem)(j:α->Lc)(g:α->Prop)(s:α->Nat)
  (h:∀x,g x->JC P ⟨n,(o x).map MM,r⟩ c (k x) E (i x) (j x) (Exit.then (Y1 n r E o k i j g s x) Q)) (x:α) (N:g x):JC P ⟨n,(o x).map MM,r⟩ (.loop c) (k x) E (i x) (j x) Q:=by
 classical
 intro a w T O;let I:Act->World->Nat->Prop:=λa w m=>∃x,g x/\Has ⟨n,(o x).map MM,r⟩ (k x) a/\St E (i x) (j x) w/\s x=m;let m:Act->World->Nat:=λa w=>if h:∃n,I a w n then Classical.choose (Vw h)else 0
 have R:∀a w n,I a w n->m a w<=n:=λa w n G=>by
  have f:∃n,I a w n:=⟨n,G⟩;simp only[m,dif_pos f];exact(Classical.choose_spec (Vw f)).2 _ G
 refine wpIn_loop (λa w=>∃n,I a w n) m ⟨_,x,N,T,O,rfl⟩ λa w f=>?_;have d:I a w (m a w):=by simp only[m,dif_pos f];exact(Classical.choose_spec (Vw f)).1
 obtain⟨y,M,D,C,L⟩:=d;refine wpIn_mono (h y M a w D C) λe J F b=>?_;cases e with
 |normal=>
  obtain⟨z,K,S,B,u⟩:=b
  have H:I J F (s z):=⟨z,K,B,u,rfl⟩
  exact⟨⟨_,H⟩,by have:=R J F _ H;omega⟩
 |exit U=>exact b
 |goto l=>exact b
 |ret=>exact b
 |panic V=>exact b
 |outgrown=>exact b
theorem wDt{α:Type}{n:Nat}{D:List Deferred}{r:Option Nat}{E:Ent}{c:Code}{F:Fr}{M:Mem}{L:Lc}(g:α->List Nat)(f:α->Fr)(d:α->Mem)(e:α->Lc)(b:α->Prop)(i:α->Nat)(x:α)(m:D=(g x).map MM)(hk:Keep F (f x))(j:b x)(hs:∀w,St E M L w->St E (d x) (e x) w)
  (h:∀x,b x->JC P ⟨n,(g x).map MM,r⟩ c (f x) E (d x) (e x) (Exit.then (Y1 n r E g f d e b i x) Q)):JC P ⟨n,D,r⟩ (.loop c) F E M L Q:=λa w l k=>
 wKs g f d e b i h x j a w (by rw[<-m];exact l.keep hk) (hs w k)
theorem HS{α:Type}{n:Nat}{D:List Deferred}{r:Option Nat}{E:Ent}{F:Fr}{M:Mem}{L:Lc}{h:α->List Nat}{g:α->Fr}{e:α->Mem}{f:α->Lc}{d:α->Prop}{a:α->Nat}{x:α}(y:α)(k:D=(h y).map MM)(hk:Keep F (g y))(b:d y)(c:a y<a x)
  (hs:∀w,St E M L w->St E (e y) (f y) w):JQ ⟨n,D,r⟩ .normal F E M L (Exit.then (Y1 n r E h g e f d a x) Q):=λ_ w j i=>⟨y,b,c,by rw[<-k];exact j.keep hk,hs w i⟩
end
def XG(D:List Nat):Lc:=D.map λd=>(d,.deferred (some []))
variable{E:Ent}{F:Fr}{L2:Lc}{M:Mem}{P:Program}{fn:Func}{n:Nat}{post:Value->Mem->Lc->Prop}
theorem Vx:∀{D:List Nat}{L:Lc},L.Perm (XG D++L2)->JQ ⟨n,[],none⟩ .ret F E M L2 (Bt P fn E post)->JQ ⟨n,D.map MM,none⟩ .ret F E M L (Bt P fn E post)
 |[],L,a,h=>AL (λw b=>b.perm a) h
 |d::D,L,a,h=>Bn (L2:=XG D++L2) a (Vx (List.Perm.refl _) h)
variable{D:List Nat}{L:Lc}
theorem Ep(hs:∀w,St E M L w->St E M (XG D++L2) w)(h:JQ ⟨n,[],none⟩ .ret F E M L2 (Bt P fn E post)):JQ ⟨n,D.map MM,none⟩ .ret F E M L (Bt P fn E post):=
 AL hs (Vx (List.Perm.refl _) h)
variable{α:Type}
theorem permC{A B:List α}(h:∀f:α->Nat,(A.map f).sum=(B.map f).sum):A.Perm B:=by
 classical
 have e:∀(a:α)(l:List α),(l.map λx=>if x=a then 1 else 0).sum=l.count a:=λa l=>by
  induction l with
  |nil=>rfl
  |cons x l b=>
   rw[List.map_cons,List.sum_cons,b,List.count_cons,Nat.add_comm]
   congr 1
   by_cases c:x=a<;>simp[c]
 grind
variable{A B:Lc}
theorem BA(h:∀f:Nat×Obj->Nat,(A.map f).sum=(B.map f).sum:=by intro f;simp only[XG,cE,iL,iU,iB,sN,sA,List.getElem_toArray,List.getElem_cons_zero,List.getElem_cons_succ,List.map_append,List.map_cons,List.map_nil,List.sum_append,List.sum_cons,List.sum_nil]<;>omega):A.Perm B:=permC h
variable{w:World}
theorem St.dropAt{p:Nat×Obj}(h:St E M (A++(p::B)) w):St E M (A++B) w:=h.fewer (List.Sublist.append_left (List.sublist_cons_self _ _) _)
theorem St.tl{p:Nat×Obj}(h:St E M (p::B) w):St E M B w:=h.fewer (List.sublist_cons_self _ _)
variable{R:Lc}{e:TypeId}
theorem Own.pop{g m b size:Nat}{A B:List Value}(h:Own (.slice (some ⟨g,0,none⟩) (m+1) b) R e size (m+1) (A++B))(d:A.length=m*size):Own (.slice (some ⟨g,0,none⟩) m b) R e size m A:=by
 obtain⟨n,c,a,j,rfl,l,i,f,k⟩:=h.open (by omega);cases j;refine⟨d,.inr ⟨g,b,a,rfl,rfl,by omega,i,f,?_⟩⟩;have:a.toList.take (m*size)=(a.toList.take ((m+1)*size)).take (m*size):=by
  grind
 grind
section
variable{P:Program}{N:Fs}{F:Fr}{W:World}{X:List Nat}{M0 M:Mem}{L:Lc}{Q:Exit->Act->World->Prop}
theorem Qk{d:Exit}{c:Obj}{L2:Lc}(g:Nat)[i:Rm g c L L2](k:∀x∈X,x∈L2.map (·.1))(h:∀M',MLe M M'->M' g=some c->JQ N d F ⟨W,X,M0⟩ M' L2 Q):JQ N d F ⟨W,X,M0⟩ M L Q:=by
 intro a w l f;have b:=f.perm i.perm;have j:g∉X:=λe=>(List.nodup_cons.1 b.nodup).1 (k g e);obtain⟨o,n,m⟩:=St.freeze' j b;exact h _ n m a w l o
end
variable{W:World}{X:List Nat}
theorem P3(c:∀x∈X,x<W.heap.size)(h:∀p∈R,W.heap.size<=p.1):∀p∈R,p.1∉X:=λp b a=>by
 have:=c _ a;have:=h p b;omega
section
variable{P:Program}{ops:Array Oper}{N:Fs}{F:Fr}{W:World}{X:List Nat}{M0 M:Mem}{L:Lc}{Q:Exit->Act->World->Prop}{rest:List Oper}
theorem Own.freezeY{v:Value}{R L2:Lc}{e:TypeId}{size n:Nat}{xs:List Value}(h:Own v R e size n xs)(i:∀x∈X,x∈L2.map (·.1)){w:World}(b:St ⟨W,X,M0⟩ M (R++L2) w):∃M' a c,MLe M M'/\v=.slice a n c/\n<=c/\SM (Ck M M') a xs/\St ⟨W,X,M0⟩ M' L2 w:=by
 have g:=b.nodup;rw[List.map_append]at g;have j:=(List.nodup_append.1 g).2.2;exact h.freezeN (λp f d=>j _ (List.mem_map_of_mem f) _ (i _ d) rfl) b
theorem wSd{v:Value}{R L2:Lc}{e:TypeId}{size n:Nat}{xs:List Value}(l:Own v R e size n xs)[k:Pick R L L2](m:∀x∈X,x∈L2.map (·.1))
  (h:∀M' a b,MLe M M'->v=.slice a n b->n<=b->SM (Ck M M') a xs->JL P ops N Q rest F ⟨W,X,M0⟩ M' L2):JL P ops N Q rest F ⟨W,X,M0⟩ M L:=by
 intro a w o j;obtain⟨M',s,b,i,g,f,d,c⟩:=l.freezeY m (j.perm k.perm);exact h M' s b i g f d a w o c
end
end Go.Proofs.YtjheijhahehnmaaGreatDoor
