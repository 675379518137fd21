/- What is done on a bench, as plain functions: nodes left, nodes built, an item put in. No statement of the seat is proved here. -/
import Derived.Test.YtdahhoicackcaaaGreatZHn
import Derived.Test.YtdahhoicackcaaaGreatZFind
import Derived.Test.YtdahhoicackcaaaGreatZNode
namespace Go.Proofs.YtdahhoicackcaaaGreat
open Go.Proofs.Tryz
open List (drop_eq_getElem_cons nil_append length length_nil length_map getElem_mem perm_append_comm append_assoc cons_append)
set_option linter.unusedSimpArgs false
set_option linter.unusedVariables false
set_option linter.unusedSectionVars false
open Go.RowKit
set_option maxRecDepth 8000
set_option maxHeartbeats 40000000
def BV(f:It->List It)(q:Ky):List It->List It
 |[]=>[]
 |x::xs=>(match xs with|[]=>f x|y::_=>if Ap q y.key then f x else [])++BV f q xs
def Bh(s:Sto)(q:Ky):Nat->List It->List It
 |0,xs=>xs.filter λx=> !Ap x.key q
 |l+1,xs=>BV (λx=>Bh s q l (kid s x)) q xs
def KEn(y:It)(M:Mem)(vs:List Value):Prop:=∃va vc,vs=[.agg (Fk y va vc).toArray]/\y.val.length<=vc/\SM M va (Ab y.val)
structure CF(M:Mem)(s:Sto)(q:Ky)(l c1 c2 c3 c4:Nat):Prop where
 bn:∃p,M c1=some (cE [pB p] 141)/\BN M (pB p) s
 fr:M c2=some (cE (AG q) 43)
 yi:M c3=some (cE [.func (.yield l) #[] #[]] 326)
 cl:M c4=some (cE [.func (.func 228) #[] #[pB c1,pB c2,pB c3,pB c4]] 299)
variable{M:Mem}{l:Nat}{s:Sto}
theorem CF.mono{M':Mem}{q:Ky}{e d c b:Nat}(h:CF M s q l e d c b)(a:MLe M M'):CF M' s q l e d c b:=by
 obtain⟨⟨p,k,j⟩,i,g,f⟩:=h
 exact⟨⟨p,a _ _ k,j.mono a⟩,a _ _ i,a _ _ g,a _ _ f⟩
variable{f:It->List It}{j:Nat}{xs:List It}
theorem YJ{q:Ky}(a:j+1<xs.length)(h:Ap q xs[j+1].key=true):BV f q (xs.drop j)=f xs[j]++BV f q (xs.drop (j+1)):=by
 rw[drop_eq_getElem_cons (show j<xs.length by omega),drop_eq_getElem_cons a,BV];simp[h]
theorem VG{q:Ky}(a:j+1<xs.length)(h:Ap q xs[j+1].key=false):BV f q (xs.drop j)=BV f q (xs.drop (j+1)):=by
 rw[drop_eq_getElem_cons (show j<xs.length by omega),drop_eq_getElem_cons a,BV];simp[h]
theorem TB{q:Ky}(a:j<xs.length)(b:¬j+1<xs.length):BV f q (xs.drop j)=f xs[j]++BV f q (xs.drop (j+1)):=by
 rw[drop_eq_getElem_cons a,List.drop_eq_nil_of_le (show xs.length<=j+1 by omega)];simp[BV]
variable{α:Type}{pj:List α}
theorem Qa{r a:List α}{x:α}(h:pj++(x::r)<+:a):pj++[x]<+:a:=by
 refine List.IsPrefix.trans ?_ h
 simp_all
def wMc(P:Program)(s:Sto)(q:Ky)(l c1 c2 c3 c4:Nat)(all:List It)(J Jx:List It->Mem->Lc->Prop)(M0:Mem)(lev:Nat):Prop:=
 ∀(k:Nat)(xs:List It)(pre:List It)(M:Mem)(L:Lc),k<256->Ai s k=some ((lev:Int),xs)->AV s lev xs->MLe M0 M->CF M s q l c1 c2 c3 c4->J pre M L->pre++Bh s q lev xs<+:all->
  SpecL P 228 #[.int .i64 k,pB c1,pB c2,pB c3,pB c4] M L λv M' L'=>(v=.bool true/\J (pre++Bh s q lev xs) M' L')\/(v=.bool false/\∃pre',pre'<+:all/\Jx pre' M' L')
theorem YW(s:Sto)(O:Aq s)(q:Ky)(D c1 c2 c3 Z:Nat)(C:List It)(J Jx:List It->Mem->Lc->Prop)(M0:Mem)(r:∀pre M2 M3 L2,MLe M2 M3->J pre M2 L2->J pre M3 L2)(hJ:∀pre y M2 L2 vs,MLe M0 M2->J pre M2 L2->pre++[y]<+:C->KEn y M2 vs->DD prog D vs.toArray M2 L2 λv M' L'=>(v=.bool true/\J (pre++[y]) M' L')\/(v=.bool false/\Jx (pre++[y]) M' L'))(k:Nat)(xs pre:List It)(M:Mem)(L0:Lc)(t:k<256)(E:Ai s k=some (0,xs))(ac:AV s (0) xs)(V:MLe M0 M)(F:CF M s q D c1 c2 c3 Z)(X:J pre M L0)(m:pre++Bh s q (0) xs<+:C):
  SpecL prog 228 #[.int .i64 k,pB c1,pB c2,pB c3,pB Z] M L0 λv M' L'=>(v=.bool true/\J (pre++Bh s q (0) xs) M' L')\/(v=.bool false/\∃l,l<+:C/\Jx l M' L'):=by
 have o:=Ar E
 have ad:=o.lev
 have aa:=o.len
 refine sB func228 ntmps228 ?_;intro W
 refine gh ?_
 obtain⟨bp,G,S⟩:=F.bn
 refine lq (AE rfl rfl rfl rfl (CM.cj ⟨_,_,_,G,rfl⟩ _)) ?_
 refine gc (Ep s k _ M O t S) ?_;rintro _ Mn z u
 obtain⟨sl,rfl,Q⟩:=(by unfold BnPost at u;rw[E]at u;exact u:∃sl,_/\NS Mn sl xs)
 obtain⟨a,c,ps,rfl,hc,hs,I,hb⟩:=Q
 simp only[nil_append]
 refine ga λb7=>?_
 refine Cz (α:=Nat×Mem×Lc×List It) (λx=>[(1,pB c1),(2,pB c2),(3,pB c3),(4,pB Z),(7,pB b7),(19,.slice a xs.length c),(20,.int .i64 xs.length),(21,.int .i64 x.1)]) (λx=>x.2.1) (λx=>(b7,cE [.int .i64 0,.slice a xs.length c] 135)::x.2.2.1) (λx=>x.1<=xs.length/\MLe Mn x.2.1/\J x.2.2.2 x.2.1 x.2.2.1/\x.2.2.2++(xs.drop x.1).filter (λx=> !Ap x.key q)=pre++Bh s q 0 xs) (λx=>xs.length-x.1) (0,Mn,L0,pre) ⟨Nat.zero_le _,MLe.refl _,r _ _ _ _ z X,rfl⟩ ?_
 rintro⟨j,Mk,Lk,pj⟩ ⟨hj,b,B,d⟩
 try dsimp only at hj b B d⊢
 refine gj (λY=>?_) λY=>?_
 ·refine gh ?_
  have f:j<xs.length:=by omega
  have P:=hs.mono b
  have T:=λp I=>(hb p I).mono b
  obtain⟨sb,so,e0,hx⟩:=P.open (by intro e;have:=congrArg length e;rw[Aj Ac 5 Ad,length_nil]at this;have h2:=congrArg length I;rw[length_map]at h2;omega)
  subst e0
  obtain⟨va,vc,R,L,K⟩:=Au hx I T f
  have ab:=o.ref xs[j] (getElem_mem f)
  have n:=F.mono (z.trans b)
  refine gh ?_
  refine lq (Bb (cs:=Fk xs[j] va vc) rfl rfl rfl rfl rfl (λi v N=>(R i v N).cj _)) ?_
  refine gA λae=>?_
  refine gt ?_
  refine lq (Bb (cs:=AG q) rfl rfl rfl rfl rfl (λi v N=>CM.cj ⟨_,_,_,n.fr,by simpa using N⟩ _)) ?_
  refine Br rfl rfl (CG rfl rfl rfl rfl rfl (by kernel_rfl) (Cd xs[j].key q _)) (λg=>?_) (λg=>?_)
  ·refine gh ?_
   refine Bw (j+1,Mk,Lk,pj) ⟨by show j+1<=xs.length;omega,b,B,?_⟩
   show _++(xs.drop (j+1)).filter (λx=> !Ap x.key q)=_
   rw[<-d,drop_eq_getElem_cons f,List.filter_cons_of_neg (by simp[g])]
  refine gh ?_
  refine lq (AE rfl rfl rfl rfl (CM.cj ⟨_,_,_,n.yi,rfl⟩ _)) ?_
  refine gh ?_
  refine lh (Hu rfl rfl rfl rfl (hJ pj xs[j] Mk Lk _ (V.trans (z.trans b)) B (by rw[drop_eq_getElem_cons f,List.filter_cons_of_pos (by simp[g])]at d;rw[<-d]at m;exact Qa m) ⟨va,vc,rfl,L,K⟩)) ?_;rintro _ Mf _ ⟨U,R',rfl,H⟩
  rcases H with⟨rfl,H⟩|⟨rfl,H⟩
  ·refine gh ?_
   refine Bw (j+1,Mf,R',pj++[xs[j]]) ⟨by show j+1<=xs.length;omega,b.trans U,H,?_⟩ (hs:=λw h=>(h.perm perm_append_comm).fewer (by simp))
   show _++(xs.drop (j+1)).filter (λx=> !Ap x.key q)=_
   rw[<-d,drop_eq_getElem_cons f,List.filter_cons_of_pos (by simp[g])];simp
  refine gh ?_
  refine AD (L':=R') (by simp) ?_
  refine Gd rfl rfl ?_
  rw[drop_eq_getElem_cons f,List.filter_cons_of_pos (by simp[g])]at d
  grind[Qa]
 refine gh ?_
 refine AD (L':=Lk) (by simp) ?_
 refine Gd rfl rfl ?_
 grind
theorem YV(s:Sto)(ab:Aq s)(q:Ky)(E c1 c2 c3 c4:Nat)(C:List It)(J Jx:List It->Mem->Lc->Prop)(M0:Mem)(H:∀pre M2 M3 L2,MLe M2 M3->J pre M2 L2->J pre M3 L2)(hJ:∀pre y M2 L2 vs,MLe M0 M2->J pre M2 L2->pre++[y]<+:C->KEn y M2 vs->DD prog E vs.toArray M2 L2 λv M' L'=>(v=.bool true/\J (pre++[y]) M' L')\/(v=.bool false/\Jx (pre++[y]) M' L'))(l:Nat)(lv:Int)(aq:lv=(l:Int)+1)(ih:wMc prog s q E c1 c2 c3 c4 C J Jx M0 l)(k:Nat)(xs pre:List It)(M:Mem)(L0:Lc)(K:k<256)(S:Ai s k=some (lv,xs))(Q:AV s ((l+1)) xs)(Y:MLe M0 M)(U:CF M s q E c1 c2 c3 c4)(ah:J pre M L0)(g:pre++Bh s q ((l+1)) xs<+:C):
  SpecL prog 228 #[.int .i64 k,pB c1,pB c2,pB c3,pB c4] M L0 λv M' L'=>(v=.bool true/\J (pre++Bh s q ((l+1)) xs) M' L')\/(v=.bool false/\∃D,D<+:C/\Jx D M' L'):=by
 have r:=Ar S
 have ap:=r.lev
 have ak:=r.len
 refine sB func228 ntmps228 ?_;intro W
 refine gh ?_
 obtain⟨bp,V,ag⟩:=U.bn
 refine lq (AE rfl rfl rfl rfl (CM.cj ⟨_,_,_,V,rfl⟩ _)) ?_
 refine gc (Ep s k _ M ab K ag) ?_;rintro _ Mn z N
 obtain⟨sl,rfl,ad⟩:=(by unfold BnPost at N;rw[S]at N;exact N:∃sl,_/\NS Mn sl xs)
 obtain⟨a,c,ps,rfl,hc,hs,R,hb⟩:=ad
 simp only[nil_append]
 refine ga λb7=>?_
 refine Cz (α:=Nat×Mem×Lc×List It) (λx=>[(1,pB c1),(2,pB c2),(3,pB c3),(4,pB c4),(7,pB b7),(19,.slice a xs.length c),(20,.int .i64 xs.length),(21,.int .i64 x.1)]) (λx=>x.2.1) (λx=>(b7,cE [.int .i64 lv,.slice a xs.length c] 135)::x.2.2.1) (λx=>x.1<=xs.length/\MLe Mn x.2.1/\J x.2.2.2 x.2.1 x.2.2.1/\x.2.2.2++BV (λx=>Bh s q l (kid s x)) q (xs.drop x.1)=pre++Bh s q (l+1) xs) (λx=>xs.length-x.1) (0,Mn,L0,pre) ⟨Nat.zero_le _,MLe.refl _,H _ _ _ _ z ah,rfl⟩ ?_
 rintro⟨j,Mk,Lk,pj⟩ ⟨hj,b,B,o⟩
 try dsimp only at hj b B o⊢
 refine gj (λaj=>?_) λaj=>?_
 ·refine gh ?_
  have f:j<xs.length:=by omega
  have ac:=hs.mono b
  have X:=λp R=>(hb p R).mono b
  obtain⟨sb,so,e0,hx⟩:=ac.open (by intro e;have:=congrArg length e;rw[Aj Ac 5 Ad,length_nil]at this;have h2:=congrArg length R;rw[length_map]at h2;omega)
  subst e0
  obtain⟨va,vc,ae,ao,am⟩:=Au hx R X f
  have al:=r.ref xs[j] (getElem_mem f)
  have d:=U.mono (z.trans b)
  refine gh ?_
  refine lq (Bb (cs:=Fk xs[j] va vc) rfl rfl rfl rfl rfl (λi v m=>(ae i v m).cj _)) ?_
  refine gA λau=>?_
  refine gt ?_
  refine JG [0,1,2,3,4,5,6,7,8,9,10,11,12,13,14,15,16,17,18] ?_
  refine gj (λai=>?_) λai=>?_
  ·refine gh ?_
   refine dq rfl (Bb (cs:=AG q) rfl rfl rfl rfl rfl (λi v m=>CM.cj ⟨_,_,_,d.fr,by simpa using m⟩ _)) ?_
   refine dq rfl (Ak rfl rfl rfl rfl rfl) ?_
   refine dq rfl (AE rfl rfl rfl rfl (CJ.loc rfl)) ?_
   refine dp rfl rfl ?_
   refine da rfl rfl (by omega) ?_
   have T:j+1<xs.length:=by omega
   obtain⟨wa,wc,af,-,-⟩:=Au hx R X T
   refine dq rfl (Bc (Ca rfl rfl rfl rfl (by omega)) (v':=.pointer (some ⟨sb,so+(j+1)*5,none⟩)) (by congr 3)) ?_
   refine gh ?_
   refine dq rfl (Bb (cs:=AG xs[j+1].key) rfl rfl rfl rfl rfl (λi v m=>(af i v (by match i,m with|0,m=>simpa [AG]using m|1,m=>simpa [AG]using m|2,m=>simpa [AG]using m|n+3,m=>simp[AG]at m)).cj _)) ?_
   refine Qh rfl rfl rfl (CG rfl rfl rfl rfl rfl (by kernel_rfl) (Cd q xs[j+1].key _)) (λZ=>?_) (λZ=>?_)
   ·refine gh ?_
    refine lq (AE rfl rfl rfl rfl (CM.cj ⟨_,_,_,d.cl,rfl⟩ _)) ?_
    refine gh ?_
    have aa:=r.up (by omega) xs[j] (getElem_mem f)
    have I:((xs[j].ref.toNat:Nat):Int)=xs[j].ref:=Int.toNat_of_nonneg (by omega)
    obtain⟨ys,G,P,F⟩:=BA Q (getElem_mem f)
    have t:kid s xs[j]=ys:=by grind[kid]
    have L:BV (λx=>Bh s q l (kid s x)) q (xs.drop j)=Bh s q l ys++BV (λx=>Bh s q l (kid s x)) q (xs.drop (j+1)):=(YJ T Z).trans (by rw[t])
    rw[L]at o
    refine lh (Bu rfl rfl rfl rfl rfl (by kernel_rfl) (by have:=ih xs[j].ref.toNat ys pj Mk Lk (by omega) G F (Y.trans (z.trans b)) d B (by rw[<-o,<-append_assoc]at g;exact(List.prefix_append _ _).trans g);rwa[I]at this)) ?_;rintro _ Mf _ ⟨O,R',rfl,u⟩
    rcases u with⟨rfl,u⟩|⟨rfl,u⟩
    ·refine gh ?_
     refine Bw (j+1,Mf,R',pj++Bh s q l ys) ⟨by show j+1<=xs.length;omega,b.trans O,u,?_⟩ (hs:=λw h=>(h.perm perm_append_comm).fewer (by simp))
     grind
    refine gh ?_
    refine AD (L':=R') (by simp) ?_
    refine Gd rfl rfl ?_
    grind
   refine gh ?_
   refine Bw (j+1,Mk,Lk,pj) ⟨by show j+1<=xs.length;omega,b,B,?_⟩
   grind[BV,Bh,kid,VG]
  refine gh ?_
  refine lq (AE rfl rfl rfl rfl (CM.cj ⟨_,_,_,d.cl,rfl⟩ _)) ?_
  refine gh ?_
  have aa:=r.up (by omega) xs[j] (getElem_mem f)
  have I:((xs[j].ref.toNat:Nat):Int)=xs[j].ref:=Int.toNat_of_nonneg (by omega)
  obtain⟨ys,G,P,F⟩:=BA Q (getElem_mem f)
  have t:kid s xs[j]=ys:=by grind[kid]
  have L:BV (λx=>Bh s q l (kid s x)) q (xs.drop j)=Bh s q l ys++BV (λx=>Bh s q l (kid s x)) q (xs.drop (j+1)):=(TB f (by omega)).trans (by rw[t])
  rw[L]at o
  refine lh (Bu rfl rfl rfl rfl rfl (by kernel_rfl) (by have:=ih xs[j].ref.toNat ys pj Mk Lk (by omega) G F (Y.trans (z.trans b)) d B (by rw[<-o,<-append_assoc]at g;exact(List.prefix_append _ _).trans g);rwa[I]at this)) ?_;rintro _ Mf _ ⟨O,R',rfl,u⟩
  rcases u with⟨rfl,u⟩|⟨rfl,u⟩
  ·refine gh ?_
   refine Bw (j+1,Mf,R',pj++Bh s q l ys) ⟨by show j+1<=xs.length;omega,b.trans O,u,?_⟩ (hs:=λw h=>(h.perm perm_append_comm).fewer (by simp))
   grind
  refine gh ?_
  refine AD (L':=R') (by simp) ?_
  refine Gd rfl rfl ?_
  grind
 refine gh ?_
 refine AD (L':=Lk) (by simp) ?_
 refine Gd rfl rfl ?_
 grind[BV]
theorem Qx(s:Sto)(f:Aq s)(q:Ky)(b u t r o:Nat)(d:List It)(J n:List It->Mem->Lc->Prop)(m:Mem)(a:∀pre M2 D L2,MLe M2 D->J pre M2 L2->J pre D L2)(C:∀pre y M2 L2 vs,MLe m M2->J pre M2 L2->pre++[y]<+:d->KEn y M2 vs->DD prog b vs.toArray M2 L2 λv M' E=>(v=.bool true/\J (pre++[y]) M' E)\/(v=.bool false/\n (pre++[y]) M' E)):∀z,wMc prog s q b u t r o d J n m z
 |0=>λk xs pre M L B g e i h j c=>YW s f q b u t r o d J n m a C k xs pre M L B g e i h j c
 |l+1=>λk xs pre M L B g e i h j c=>YV s f q b u t r o d J n m a C l ((l+1:Nat):Int) (by omega) (Qx s f q b u t r o d J n m a C l) k xs pre M L B g e i h j c
theorem Vu(s:Sto)(m:Aq s)(q:Ky)(k a:Nat)(xs:List It)(h:k<256)(B:Ai s k=some ((a:Int),xs))(z:AV s a xs)(U t T:Nat)(v1:Value)(M:Mem)(I u nv lv:Value)(F:M U=some (cE [I,u,nv,lv] 32))(H:ST M (.agg [I,u,nv,lv].toArray) s)(E:M t=some (cE (AG q) 43))(D:M T=some (cE [.int .i64 (k:Int)] 3))(c:Nat)(J R:List It->Mem->Lc->Prop)(l:Mem)(Q:Lc)(r:MLe M l)(d:∀pre M2 O L2,MLe M2 O->J pre M2 L2->J pre O L2)(hJ:∀pre y M2 L2 vs,MLe l M2->J pre M2 L2->pre++[y]<+:Bh s q a xs->KEn y M2 vs->DD prog c vs.toArray M2 L2 λv M' L'=>(v=.bool true/\J (pre++[y]) M' L')\/(v=.bool false/\R (pre++[y]) M' L'))(h0:J [] l Q):
  SpecL prog 227 #[.func (.yield c) #[] #[],pB U,pB t,pB T] l Q λ_ M' L'=>J (Bh s q a xs) M' L'\/∃pre,pre<+:Bh s q a xs/\R pre M' L':=by
 refine sB func227 ntmps227 ?_;intro W
 refine gh ?_
 refine lh (Bf (cs:=[.func (.yield c) #[] #[]]) rfl rfl rfl rfl) ?_;rintro _ _ _ ⟨N,rfl,rfl,rfl⟩
 refine gh ?_
 obtain⟨⟨_,Y,_,_⟩,⟨C,_⟩,_⟩:=id m
 refine lq (Bb (cs:=[I,u,nv,lv]) rfl rfl rfl rfl rfl (λi v Z=>CM.cj ⟨_,_,_,r _ _ F,by simpa using Z⟩ _)) ?_
 refine gc (Kh s _ l (H.mono r) (by omega) (by omega)) ?_;rintro _ P g n
 have f:=n P (MLe.refl _) g
 obtain⟨X,_,_,_,_,rfl,_⟩:=id f.ex
 simp only[nil_append]
 refine lh (AM rfl rfl) ?_;rintro _ _ _ ⟨L,rfl,rfl,rfl⟩
 refine Dz rfl (Ae rfl rfl rfl rfl rfl rfl rfl rfl) ?_;rintro _ _ _ ⟨rfl,rfl⟩
 refine Am (jT (Ao (Ah ?_)))
 refine lh (AM rfl rfl) ?_;rintro _ _ _ ⟨K,rfl,rfl,rfl⟩
 refine Am (jT (Ao (Ah ?_)))
 refine jp rfl ?_
 refine Dz rfl (Ae rfl rfl rfl rfl rfl rfl rfl rfl) ?_;rintro _ _ _ ⟨rfl,rfl⟩
 refine Am (jT (Ah ?_))
 refine JB N (by simp +contextual) ?_
 intro O o e4
 refine JB L (by simp +contextual) ?_
 intro M4 j e5
 refine JB K (by simp +contextual) ?_
 intro V e S
 have b:=g.trans (o.trans (j.trans e))
 have G:CF V s q c L t N K:=⟨⟨X,e _ _ e5,f.mono (o.trans (j.trans e))⟩,b _ _ (r _ _ E),e _ _ (j _ _ e4),S⟩
 refine lq (AE rfl rfl rfl rfl (CM.cj ⟨_,_,_,S,rfl⟩ _)) ?_
 refine lq (AE rfl rfl rfl rfl (CM.cj ⟨_,_,_,b _ _ (r _ _ D),rfl⟩ _)) ?_
 refine lh (hC (Qx s m q c L t N K (Bh s q a xs) J R l d hJ a k xs [] V Q h B z b G (d _ _ _ _ b h0) (by rw[nil_append];exact List.prefix_rfl))) ?_;rintro _ Mf _ ⟨aa,R',rfl,hy⟩
 refine gh ?_
 refine Ug ?_
 refine AD (L':=R') (by simp) ?_
 refine JV (rs:=[]) rfl .nil ?_
 grind
set_option maxRecDepth 8000
set_option maxHeartbeats 40000000
def place(xs:List It)(k:Ky):Nat:=(xs.filter λx=>Ap x.key k).length
def Fl(xs:List It)(k:Ky):Bool:=decide ((xs[place xs k]?).map (·.key)=some k)
variable{j:Nat}{k:Ky}{xs:List It}
theorem GB(h:j<xs.length):place (xs.take (j+1)) k=place (xs.take j) k+(if Ap xs[j].key k then 1 else 0):=by
 unfold place
 rw[List.take_succ_eq_append_getElem h,List.filter_append,List.length_append]
 grind
theorem Hg(xs:List It)(k:Ky):place xs k<=xs.length:=List.length_filter_le _ _
theorem Fb(lv:Int)(xs:List It)(q:Ky)(a:Option Addr)(c:Nat)(ps:List (It×Value))(M:Mem)(G:xs.length<=c)(hs:SM M a (ps.flatMap Ac))(hp:ps.map (·.1)=xs)(z:∀p∈ps,BS M p.2 p.1.val)(F:xs.length<=100):
  SpecL prog 122 #[.agg #[.int .i64 lv,.slice a xs.length c],.agg (AG q).toArray] M [] λv _ _=>v=.tuple #[.int .i64 (place xs q),.bool (Fl xs q)]:=by
 refine sB func122 ntmps122 ?_;intro W
 refine EV λC B=>?_
 refine Cz (α:=Nat) (λk=>[(2,pB C),(3,pB B),(4,.int .i64 (place (xs.take k) q)),(9,.slice a xs.length c),(10,.int .i64 xs.length),(11,.int .i64 k)]) (λ_=>M) (λ_=>[(B,cE [.int .u8 q.kind,.int .u32 q.id,.int .u32 q.off] 43),(C,cE [.int .i64 lv,.slice a xs.length c] 135)]) (λk=>k<=xs.length) (λk=>xs.length-k) 0 (Nat.zero_le _) ?_
 rintro k hk
 try dsimp only at hk⊢
 have g:=Hg (xs.take k) q
 rw[List.length_take]at g
 refine gj (λr=>?_) λr=>?_
 ·refine gh ?_
  have d:k<xs.length:=by omega
  obtain⟨E,D,y,j⟩:=hs.open (by intro e;have:=congrArg length e;rw[Aj Ac 5 Ad,length_nil]at this;have u:=congrArg length hp;rw[length_map]at u;omega)
  subst y
  obtain⟨va,vc,h,m,l⟩:=Au j hp z d
  refine gh ?_
  refine lq (Bb (cs:=Fk xs[k] va vc) rfl rfl rfl rfl rfl (λi v b=>(h i v b).cj _)) ?_
  refine gA λH=>?_
  refine Br rfl rfl (CG rfl rfl rfl rfl rfl (by kernel_rfl) (Cd xs[k].key q M)) (λf=>?_) (λf=>?_)
  ·refine gh ?_
   refine Bw (k+1) (by omega) (hk:=(Keep.cons (t:=2) rfl (Keep.cons (t:=3) rfl (Keep.ceq (t:=4) rfl (by first|(rw[GB d,if_pos f];rfl)|(rw[GB d,if_neg (by simp[f])];rfl)) (Keep.cons (t:=9) rfl (Keep.cons (t:=10) rfl (Keep.cons (t:=11) rfl Keep.nil)))))))
  refine gh ?_
  refine Bw (k+1) (by omega) (hk:=(Keep.cons (t:=2) rfl (Keep.cons (t:=3) rfl (Keep.ceq (t:=4) rfl (by first|(rw[GB d,if_pos f];rfl)|(rw[GB d,if_neg (by simp[f])];rfl)) (Keep.cons (t:=9) rfl (Keep.cons (t:=10) rfl (Keep.cons (t:=11) rfl Keep.nil)))))))
 refine gh ?_
 refine JG [0,1,2,3,4,5,6,7,8,9,10,11,12,13,14,15,16,17] ?_
 refine gg ?_
 obtain rfl:k=xs.length:=by omega
 rw[List.take_length]
 rw[List.take_length]at g
 refine gj (λs=>?_) λs=>?_
 ·refine gh ?_
  have o:place xs q<xs.length:=by omega
  obtain⟨E,D,y,j⟩:=hs.open (by intro e;have:=congrArg length e;rw[Aj Ac 5 Ad,length_nil]at this;have u:=congrArg length hp;rw[length_map]at u;omega)
  subst y
  obtain⟨va,vc,h,m,l⟩:=Au j hp z o
  refine gh ?_
  refine dq rfl (Bb (cs:=AG xs[place xs q].key) rfl rfl rfl rfl rfl (λi v b=>(h i v (by match i,b with|0,b=>simpa [AG]using b|1,b=>simpa [AG]using b|2,b=>simpa [AG]using b|n+3,b=>simp[AG]at b)).cj _)) ?_
  refine gh ?_
  refine dq rfl (qEqI (ns:=[xs[place xs q].key.kind,xs[place xs q].key.id,xs[place xs q].key.off]) (ms:=[q.kind,q.id,q.off]) rfl rfl rfl rfl rfl rfl ⟨rfl,rfl⟩) ?_
  refine gr ?_
  grind[Fl,DZ]
 refine gr ?_
 grind[Fl]
set_option maxRecDepth 8000
set_option maxHeartbeats 40000000
variable{root:Int}{s:Sto}
theorem CT(h:(fchk s root).2=0):Aq s/\8<=root/\root<256/\¬s.now.getD root.toNat 0=0/\∃(a:Nat)(xs:List It),Ai s root.toNat=some ((a:Int),xs)/\AV s a xs/\(fchk s root).1=a+1:=by
 by_cases f:Aq s
 ·by_cases e:root<8\/256<=root
  ·grind [fchk]
  by_cases d:s.now.getD root.toNat 0=0
  ·grind [fchk]
  rw[GL f e d]at h
  split at h
  ·cases h
  rename_i g xs b
  have c:=(Ar b).lev
  grind[GL,AV]
 grind[fchk]
theorem wJd(s:Sto)(x:It):(kid s x).length<=5:=by
 unfold kid
 split
 ·rename_i h;exact(Ar h).len
 grind
variable{f:It->List It}{m:Nat}
theorem Pg{q:Ky}(h:∀x,(f x).length<=m):∀xs,(BV f q xs).length<=m*xs.length
 |[]=>by simp[BV]
 |x::xs=>by
  have a:=h x
  obtain⟨g,e,c⟩:∃g,BV f q (x::xs)=g++BV f q xs/\g.length<=m:=by
   cases xs with
   |nil=>exact⟨f x,rfl,a⟩
   |cons y ys=>
    refine⟨if Ap q y.key then f x else [],rfl,?_⟩
    split
    ·exact a
    exact Nat.zero_le _
  have b:=Pg h xs (q:=q)
  rw[e,List.length_append,List.length_cons,Nat.mul_add,Nat.mul_one]
  omega
theorem Qy(s:Sto)(q:Ky):∀(l:Nat)(xs:List It),(Bh s q l xs).length<=5 ^ l*xs.length
 |0,xs=>by rw[Bh,Nat.pow_zero,Nat.one_mul];exact List.length_filter_le _ _
 |l+1,xs=>by
  rw[Bh,Nat.pow_succ]
  refine Pg (λx=>Nat.le_trans (Qy s q l _) (Nat.mul_le_mul_left _ (wJd s x))) xs
variable{l:Nat}{xs:List It}
theorem LT{q:Ky}(b:l<6)(a:xs.length<=5):(Bh s q l xs).length<=15625:=by
 refine Nat.le_trans (Qy s q l xs) ?_
 have:5 ^ l<=5 ^ 5:=Nat.pow_le_pow_right (by omega) (by omega)
 exact Nat.le_trans (Nat.mul_le_mul this a) (by decide)
theorem Vt(h d nv lv:Value)(q:Ky)(a:Int)(M:Mem):
  SpecL prog 216 #[.agg #[h,d,nv,lv],.int .i64 a,.agg (AG q).toArray] M [] λu M' r=>(∃g f e,u=.func (.func 227) #[] #[pB g,pB f,pB e]/\M' g=some (cE [h,d,nv,lv] 32)/\M' f=some (cE (AG q) 43)/\M' e=some (cE [.int .i64 a] 3))/\r=[]:=by
 refine sB func216 ntmps216 ?_;intro W
 refine ga λk=>?_
 refine lh (Bf (cs:=[.int .i64 a]) rfl rfl rfl rfl) ?_;rintro _ _ _ ⟨j,rfl,rfl,rfl⟩
 refine ga λi=>?_
 refine AP k (by simp) ?_
 intro y l o
 refine AP j (by simp) ?_
 intro t c n
 refine AP i (by simp) ?_
 intro s b m
 refine gr ?_
 exact⟨⟨k,i,j,rfl,b _ _ (c _ _ o),m,b _ _ n⟩,rfl⟩
def rng(s:Sto)(root:Int)(a b:Ky):List It:=match Ai s root.toNat with
 |some (lv,xs)=>(Bh s a lv.toNat xs).takeWhile λx=> !Ap b x.key
 |none=>[]
variable{α:Type}
theorem ZB{p:α->Bool}{xs:List α}(h:∀x∈xs,p x=true):xs.takeWhile p=xs:=by
 induction xs with
 |nil=>rfl
 |cons x xs a=>rw[List.takeWhile_cons_of_pos (h x (by simp)),a (λy b=>h y (by simp[b]))]
theorem XL{p:α->Bool}{pre r:List α}{y:α}(h:∀x∈pre,p x=true)(a:p y=false):(pre++y::r).takeWhile p=pre:=by
 induction pre with
 |nil=>rw[nil_append,List.takeWhile_cons_of_neg (by simp[a])]
 |cons x xs b=>rw[cons_append,List.takeWhile_cons_of_pos (h x (by simp)),b (λy a=>h y (by simp[a]))]
abbrev ITS:TypeId:=133
def RI(b8:Nat)(to:Ky)(pre:List It)(M':Mem)(R:Lc):Prop:=∃v Rs,∃ps:List (It×Value),R=(b8,cE [v] ITS)::Rs/\Own v Rs IT 5 ps.length (ps.flatMap Ac)/\ps.map (·.1)=pre/\(∀p∈ps,BS M' p.2 p.1.val)/\∀x∈pre,(!Ap to x.key)=true
theorem UV(s:Sto)(g:Int)(a b:Ky)(V U nv lv:Value)(M:Mem)(h1:LS M V s.blocks)(h2:WS M U s.waits)(h3:BS M nv s.now)(h4:BS M lv s.last):
  SpecL prog 188 #[.agg #[V,U,nv,lv],.int .i64 g,.agg (AG a).toArray,.agg (AG b).toArray] M [] λu M' L'=>(∃v,u=.tuple #[v,.int .i64 (fchk s g).2]/\NS M' v (if (fchk s g).2=0 then rng s g a b else []))/\L'=[]:=by
 have ak:ST M (.agg #[V,U,nv,lv]) s:=⟨_,_,_,_,rfl,h1,h2,h3,h4⟩
 refine sB func188 ntmps188 ?_;intro W
 refine ga4 λb4 b6 b7 b8=>?_
 refine gQ (Hv s g V U nv lv M h1 h2 h3 h4) ?_
 refine gj (λn=>?_) λn=>?_
 ·refine gr ?_
  exact⟨⟨_,rfl,by rw[if_neg n];exact NS.nil⟩,rfl⟩
 refine gh ?_
 obtain⟨ae,am,ag,ao,F,xs,K,ad,aq⟩:=CT (Classical.not_not.1 n)
 have Z:=Ar K
 have ap:=Z.lev
 have af:=LT (s:=s) (q:=a) (l:=F) (by omega) Z.len
 obtain⟨k,rfl⟩:∃k:Nat,g=k:=⟨g.toNat,by omega⟩
 rw[Int.toNat_natCast]at K
 have G:rng s (k:Int) a b=(Bh s a F xs).takeWhile λx=> !Ap b x.key:=by grind[rng]
 obtain⟨S,o⟩:∃S,S=Bh s a F xs:=⟨_,rfl⟩
 rw[<-o]at af
 refine gc (Vt V U nv lv a (k:Int) M) ?_;rintro _ M1 P ⟨d1,d2,d3,rfl,aj,ai,ah⟩
 refine gh ?_
 refine B1 b7 (by simp) ?_
 intro al t e7
 replace P:=P.trans t
 refine Qi (R:=[(b8,cE [.slice none 0 0] ITS)]) (xs:=S) (En:=KEn) (ps:=[26]) rfl (by kernel_rfl) (b:=true) (lb:=[pB d1,pB d2,pB d3]) (λl J Jx X L2 E L hJ h0=>by rw[o]at hJ ⊢;exact Vu s ae a k F xs (by omega) K ad d1 d2 d3 (.nilFunc) al V U nv lv (t _ _ aj) (ak.mono P) (t _ _ ai) (t _ _ ah) l J Jx X L2 E (L rfl) hJ h0)
  (RI b8 b)
  (λc Y M' R=>c=.exit 0/\∃pre y,Y=pre++[y]/\RI b8 b pre M' R/\Ap b y.key=true)
  (λy _ vs ⟨va,vc,e,_⟩=>by rw[e];rfl) (by decide) ⟨_,[],[],rfl,Own.nil _ _,rfl,(λ_ h=>by cases h),(λ_ h=>by cases h)⟩ (λ_ pre X M3 R hM ⟨v,T,ps,q1,q2,q3,q4,q5⟩=>⟨v,T,ps,q1,q2,q3,λp D=>(q4 p D).mono hM,q5⟩) ?_ ?_ ?_
 ·intro l W2 pre y X R2 vs E Q B hE
  obtain⟨v,T,ps,rfl,f,j,z,C⟩:=Q
  obtain⟨oa,oc,rfl⟩:=f.form
  obtain⟨va,vc,rfl,ac,ab⟩:=hE
  refine ga λav=>?_
  refine jK λW'=>?_
  refine gh ?_
  refine lq (Bb (cs:=AG b) rfl rfl rfl rfl rfl (λi v hv=>CM.cj ⟨_,_,_,E _ _ e7,by simpa [AG]using hv⟩ _)) ?_
  refine gg ?_
  refine Br rfl rfl (CG rfl rfl rfl rfl rfl (by kernel_rfl) (Cd b y.key X)) (λaa=>?_) (λaa=>?_)
  ·refine gh ?_
   refine jBo rfl ?_
   refine AD (L':=(b8,cE [.slice oa ps.length oc] ITS)::T) (by simp) ?_
   refine jQx ?_
   exact⟨rfl,pre,y,rfl,⟨_,T,ps,rfl,f,j,z,C⟩,aa⟩
  refine gh ?_
  refine lh (Aa (cs:=[_,_,_,_,_]) rfl rfl rfl (by rfl) (by rfl) (by rfl)) ?_;rintro _ _ _ ⟨au,rfl,rfl,rfl⟩
  refine lh (Ba (R:=T) (m:=1) rfl rfl rfl rfl f rfl (λi v hv=>CJ.loc (by simpa using hv)) rfl (by rfl) (by simp[Value.oneCell']) (by have:=B.length_le;rw[List.length_append,List.length_singleton]at this;have h5:=congrArg length j;rw[length_map]at h5;omega) (by omega)) ?_;rintro s' _ _ ⟨rfl,R',rfl,I,_⟩
  obtain⟨a2,c2,rfl⟩:=I.form
  refine gh ?_
  refine AK (L':=(b8,cE [.slice a2 (ps.length+1) c2] ITS)::R') (λw h=>(h.perm perm_append_comm).fewer (.cons _ (.cons _ (.refl _)))) ?_
  refine Zj ?_
  refine⟨_,R',ps++[(y,.slice va y.val.length vc)],rfl,?_,by rw[List.map_append,j];rfl,?_,?_⟩
  ·grind [Ac]
  ·intro p D;rcases List.mem_append.1 D with D|D
   ·exact z p D
   rw[List.mem_singleton.1 D];exact⟨va,vc,rfl,ac,ab⟩
  grind
 ·intro d X R2 E Q
  obtain⟨v,T,ps,rfl,f,j,z,C⟩:=Q
  obtain⟨oa,oc,rfl⟩:=f.form
  simp only[cons_append,nil_append]
  refine gh ?_
  refine Bi (L2:=_) Rm.perm ?_
  refine Cj f (by simp) ?_
  intro M9 a9 c9 O e9 N H;cases e9
  refine gr ?_
  refine⟨⟨_,congrArg (λe=>Value.tuple #[_,Value.int .i64 e]) (Classical.not_not.1 n).symm,?_⟩,rfl⟩
  rw[if_pos (Classical.not_not.1 n),G,<-o,ZB C]
  exact⟨_,_,ps,by rw[<-j,length_map],by rw[<-j,length_map];exact N,H,j,λp D=>(z p D).mono O⟩
 intro d c pre X R2 E B Q
 obtain⟨rfl,pre,y,rfl,Q,hy⟩:=Q
 obtain⟨v,T,ps,rfl,f,j,z,C⟩:=Q
 obtain⟨oa,oc,rfl⟩:=f.form
 simp only[cons_append,nil_append]
 refine gh ?_
 refine Bi (L2:=_) Rm.perm ?_
 refine Cj f (by simp) ?_
 intro M9 a9 c9 O e9 N H;cases e9
 refine gr ?_
 refine⟨⟨_,congrArg (λe=>Value.tuple #[_,Value.int .i64 e]) (Classical.not_not.1 n).symm,?_⟩,rfl⟩
 obtain⟨r,hr⟩:=B
 rw[if_pos (Classical.not_not.1 n),G,<-o,<-hr,append_assoc,List.singleton_append,XL C (by rw[hy];rfl)]
 exact⟨_,_,ps,by rw[<-j,length_map],by rw[<-j,length_map];exact N,H,j,λp D=>(z p D).mono O⟩
theorem UW(s:Sto)(v:Value)(c:Int)(a b:Ky)(M:Mem)(h:ST M v s):SpecL prog 188 #[v,.int .i64 c,.agg (AG a).toArray,.agg (AG b).toArray] M [] λu M' d=>(∃v,u=.tuple #[v,.int .i64 (fchk s c).2]/\NS M' v (if (fchk s c).2=0 then rng s c a b else []))/\d=[]:=by
 obtain⟨l,e,nv,f,rfl,k,j,i,g⟩:=h.ex
 grind[UV]
theorem Hw(s:Sto)(v:Value)(a:Int)(M:Mem)(h:ST M v s):SpecL prog 120 #[v,.int .i64 a] M [] λu _ _=>u=.tuple #[.int .i64 (fchk s a).1,.int .i64 (fchk s a).2]:=by
 obtain⟨i,b,nv,c,rfl,g,f,e,d⟩:=h.ex
 grind[Hv]
def Hh(xs:List It)(q:Ky):Option It:=if Fl xs q then xs[place xs q]? else if place xs q=0 then none else xs[place xs q-1]?
def Bg(s:Sto)(q:Ky):Nat->List It->Option It
 |0,xs=>if Fl xs q then xs[place xs q]? else none
 |l+1,xs=>match Hh xs q with|some x=>Bg s q l (kid s x)|none=>none
def fnd(s:Sto)(root:Int)(q:Ky):Option It:=match Ai s root.toNat with|some (lv,xs)=>Bg s q lv.toNat xs|none=>none
def FdPost(s:Sto)(root:Int)(q:Ky)(u:Value)(M':Mem):Prop:=if (fchk s root).2=0 then
  match fnd s root q with
  |some x=>∃va vc,u=.tuple #[.agg (Fk x va vc).toArray,.int .i64 0]/\x.val.length<=vc/\SM M' va (Ab x.val)
  |none=>u=.tuple #[.agg zeroIt.toArray,.int .i64 6]
 else u=.tuple #[.agg zeroIt.toArray,.int .i64 (fchk s root).2]
variable{M':Mem}
theorem FdPost.none{q:Ky}(h:(fchk s root).2=0)(a:fnd s root q=.none):FdPost s root q (.tuple #[.agg zeroIt.toArray,.int .i64 6]) M':=by
 grind[FdPost]
variable{va:Option Addr}{vc:Nat}
theorem FdPost.some{q:Ky}{x:It}(h:(fchk s root).2=0)(a:fnd s root q=.some x)(c:x.val.length<=vc)(b:SM M' va (Ab x.val)):FdPost s root q (.tuple #[.agg (Fk x va vc).toArray,.int .i64 0]) M':=by
 grind[FdPost]
theorem EU{q:Ky}(h:Fl xs q=true):place xs q<xs.length:=by
 grind[Fl,place]
theorem YS(s:Sto)(b:Int)(q:Ky)(bv X nv lv:Value)(M:Mem)(h1:LS M bv s.blocks)(z:WS M X s.waits)(h3:BS M nv s.now)(h4:BS M lv s.last):
  SpecL prog 65 #[.agg #[bv,X,nv,lv],.int .i64 b,.agg (AG q).toArray] M [] λu M' L'=>FdPost s b q u M'/\L'=[]:=by
 have ai:ST M (.agg #[bv,X,nv,lv]) s:=⟨_,_,_,_,rfl,h1,z,h3,h4⟩
 refine sB func65 ntmps65 ?_;intro W
 refine Rl λb3 b5 b6=>?_
 refine N6 ?_
 refine gQ (Hv s b bv X nv lv M h1 z h3 h4) ?_
 refine gj (λT=>?_) λT=>?_
 ·refine gh ?_
  refine jN (λ_ h=>by cases h) ?_
  refine gr ?_
  exact⟨by unfold FdPost;rw[if_neg T];rfl,rfl⟩
 refine gh ?_
 have F:=Classical.not_not.1 T
 obtain⟨ab,ao,ae,aq,H,V,J,aa,av⟩:=CT F
 obtain⟨⟨_,am,_,_⟩,⟨ag,_⟩,_⟩:=id ab
 refine gc (Kh s _ M ai (by omega) (by omega)) ?_;rintro _ M1 aj ad
 have L:=ad M1 (MLe.refl _) aj
 obtain⟨pb,_,_,_,_,rfl,_⟩:=id L.ex
 simp only[nil_append]
 refine gh ?_
 refine Pa ?_
 refine gh ?_
 refine Cz (α:=Nat×Nat×List It×Mem) (λx=>[(5,pB b5),(6,pB b6),(10,.int .i64 (x.1:Int)),(11,pB pb)]) (λx=>x.2.2.2) (λx=>[(b6,cE [.int .u8 0,.int .u32 0,.int .u32 0,.int .i64 0,.slice none 0 0] IT),(b5,cE [.int .u8 q.kind,.int .u32 q.id,.int .u32 q.off] 43),(b3,cE [bv,X,nv,lv] 32)]) (λx=>x.1<256/\Ai s x.1=some ((x.2.1:Int),x.2.2.1)/\AV s x.2.1 x.2.2.1/\MLe M1 x.2.2.2/\fnd s b q=Bg s q x.2.1 x.2.2.1) (λx=>x.2.1) (b.toNat,H,V,M1) ⟨by show b.toNat<256;omega,J,aa,MLe.refl _,by show fnd s b q=Bg s q H V;unfold fnd;rw[J];rfl⟩ ?_ (hk:=(Keep.cons (t:=5) rfl (Keep.cons (t:=6) rfl (Keep.ceq (t:=10) rfl (by rw[show ((b.toNat:Nat):Int)=b from Int.toNat_of_nonneg (by omega)]) (Keep.cons (t:=11) rfl Keep.nil)))))
 rintro⟨k,d,xs,Mk⟩ ⟨o,O,D,r,ah⟩
 try dsimp only at o O D r ah⊢
 refine gc (Ep s k _ Mk ab o (L.mono r)) ?_;rintro _ Mn Q P
 obtain⟨sl,rfl,af⟩:=(by unfold BnPost at P;rw[O]at P;exact P:∃sl,_/\NS Mn sl xs)
 obtain⟨a,c,ps,rfl,hc,hs,E,hb⟩:=af
 simp only[nil_append]
 have f:=Ar O
 have al:=f.len
 have au:=f.lev
 have ak:=Hg xs q
 refine ga λaw=>?_
 refine lq (qC (Fb _ xs q a c ps Mn hc hs E hb (by omega))) ?_
 iterate 2 refine jp rfl ?_
 refine Zi rfl (λG=>?_) (λG=>?_)
 ·iterate 2 refine jp rfl ?_
  refine Am (jT (Ge (Ao (Ah ?_))))
  refine lq (Ak rfl rfl rfl rfl rfl) ?_
  refine lq (AE rfl rfl rfl rfl (CJ.loc rfl)) ?_
  refine js rfl (λS=>?_) (λS=>?_)
  ·refine gg ?_
   have ac:=EU G
   obtain⟨sb,so,U,N⟩:=hs.open (by intro e;have:=congrArg length e;rw[Aj Ac 5 Ad,length_nil]at this;have z:=congrArg length E;rw[length_map]at z;omega)
   subst U
   obtain⟨va,vc,g,C,B⟩:=Au N E hb (k:=place xs q) (by omega)
   refine gh ?_
   refine lq (Bb (cs:=Fk xs[place xs q] va vc) rfl rfl rfl rfl rfl (λi v hv=>(g i v hv).cj _)) ?_
   refine gh ?_
   refine jN (λ_ h=>by cases h) ?_
   refine gr ?_
   refine⟨FdPost.some F ?_ C B,rfl⟩
   simp_all [Bg]
  iterate 4 refine jp rfl ?_
  refine Am (jT (FM rfl (Ao (Ao (Ah ?_)))))
  refine lq (Ak rfl rfl rfl rfl rfl) ?_
  refine lq (AE rfl rfl rfl rfl (CJ.loc rfl)) ?_
  refine js rfl (λy=>?_) (λy=>?_)
  ·omega
  refine jp rfl ?_
  refine Am (jT (FM rfl (Ah ?_)))
  refine jp rfl ?_
  refine js rfl (λR=>?_) (λR=>?_)
  ·refine gg ?_
   have ac:=EU G
   obtain⟨sb,so,U,N⟩:=hs.open (by intro e;have:=congrArg length e;rw[Aj Ac 5 Ad,length_nil]at this;have z:=congrArg length E;rw[length_map]at z;omega)
   subst U
   obtain⟨va,vc,g,C,B⟩:=Au N E hb (k:=place xs q) (by omega)
   refine gh ?_
   refine lq (AE rfl rfl rfl rfl ((g 3 _ rfl).cj _)) ?_
   refine gh ?_
   obtain⟨l,rfl⟩:∃l,d=l+1:=⟨d-1,by omega⟩
   obtain⟨ys,m,I,j⟩:=BA D (getElem_mem (show place xs q<xs.length by omega))
   have Y:=f.ref xs[place xs q] (getElem_mem _)
   have Z:=f.up (by omega) xs[place xs q] (getElem_mem _)
   have n:((xs[place xs q].ref.toNat:Nat):Int)=xs[place xs q].ref:=Int.toNat_of_nonneg (by omega)
   have K:kid s xs[place xs q]=ys:=by grind[kid]
   refine Bw (xs[place xs q].ref.toNat,l,ys,Mn) ⟨by show xs[place xs q].ref.toNat<256;omega,m,j,r.trans Q,?_⟩ (hk:=(Keep.cons (t:=5) rfl (Keep.cons (t:=6) rfl (Keep.ceq (t:=10) rfl (by rw[n]) (Keep.cons (t:=11) rfl Keep.nil)))))
   grind[fnd,Bg,Hh,place,kid]
  refine gg ?_
  have ac:=EU G
  obtain⟨sb,so,U,N⟩:=hs.open (by intro e;have:=congrArg length e;rw[Aj Ac 5 Ad,length_nil]at this;have z:=congrArg length E;rw[length_map]at z;omega)
  subst U
  obtain⟨va,vc,g,C,B⟩:=Au N E hb (k:=place xs q) (by omega)
  refine gh ?_
  refine lq (AE rfl rfl rfl rfl ((g 3 _ rfl).cj _)) ?_
  refine gh ?_
  obtain⟨l,rfl⟩:∃l,d=l+1:=⟨d-1,by omega⟩
  obtain⟨ys,m,I,j⟩:=BA D (getElem_mem (show place xs q<xs.length by omega))
  have Y:=f.ref xs[place xs q] (getElem_mem _)
  have Z:=f.up (by omega) xs[place xs q] (getElem_mem _)
  have n:((xs[place xs q].ref.toNat:Nat):Int)=xs[place xs q].ref:=Int.toNat_of_nonneg (by omega)
  have K:kid s xs[place xs q]=ys:=by grind[kid]
  refine Bw (xs[place xs q].ref.toNat,l,ys,Mn) ⟨by show xs[place xs q].ref.toNat<256;omega,m,j,r.trans Q,?_⟩ (hk:=(Keep.cons (t:=5) rfl (Keep.cons (t:=6) rfl (Keep.ceq (t:=10) rfl (by rw[n]) (Keep.cons (t:=11) rfl Keep.nil)))))
  grind[fnd,Bg,Hh,place,kid]
 refine gj (λS=>?_) λS=>?_
 ·iterate 4 refine jp rfl ?_
  refine Am (jT (FM rfl (Ao (Ao (Ah ?_)))))
  refine lq (Ak rfl rfl rfl rfl rfl) ?_
  refine lq (AE rfl rfl rfl rfl (CJ.loc rfl)) ?_
  refine js rfl (λy=>?_) (λy=>?_)
  ·refine jp rfl ?_
   refine Am (jT (GI rfl (D0 (jT (GI rfl (Kr ?_))))))
   refine jBo rfl ?_
   refine jBo rfl ?_
   refine wLi (jBx (jT (Ao (Ah ?_))))
   refine lq (Bk (cs:=[_,_,_,_,_]) rfl rfl rfl (by rfl)) ?_
   refine Dz rfl (Ae rfl rfl rfl rfl rfl rfl rfl rfl) ?_;rintro _ _ _ ⟨rfl,rfl⟩
   refine jp rfl ?_
   refine Am (jT (Bs ?_))
   refine jN (λ_ h=>by cases h) ?_
   refine zd ([]) rfl ?_
   refine⟨FdPost.none F ?_,rfl⟩
   simp_all [Bg]
  omega
 iterate 4 refine jp rfl ?_
 refine Am (jT (FM rfl (Ao (Ao (Ah ?_)))))
 refine lq (Ak rfl rfl rfl rfl rfl) ?_
 refine lq (AE rfl rfl rfl rfl (CJ.loc rfl)) ?_
 refine js rfl (λy=>?_) (λy=>?_)
 ·omega
 refine jp rfl ?_
 refine Am (jT (FM rfl (Ah ?_)))
 refine jp rfl ?_
 refine js rfl (λR=>?_) (λR=>?_)
 ·refine gg ?_
  refine jBo rfl ?_
  refine jBo rfl ?_
  refine gh ?_
  refine jN (λ_ h=>by cases h) ?_
  refine zd ([]) rfl ?_
  refine⟨FdPost.none F ?_,rfl⟩
  obtain⟨l,rfl⟩:∃l,d=l+1:=⟨d-1,by omega⟩
  grind[Bg,Hh]
 refine gg ?_
 have ap:0<place xs q:=by omega
 obtain⟨sb,so,U,N⟩:=hs.open (by intro e;have:=congrArg length e;rw[Aj Ac 5 Ad,length_nil]at this;have z:=congrArg length E;rw[length_map]at z;omega)
 subst U
 obtain⟨va,vc,g,C,B⟩:=Au N E hb (k:=place xs q-1) (by omega)
 refine lq (Bc (Ca rfl rfl rfl rfl (by omega)) (v':=.pointer (some ⟨sb,so+(place xs q-1)*5,none⟩)) (by congr 3;omega)) ?_
 refine gg ?_
 refine lq (AE rfl rfl rfl rfl ((g 3 _ rfl).cj _)) ?_
 refine gg ?_
 obtain⟨l,rfl⟩:∃l,d=l+1:=⟨d-1,by omega⟩
 obtain⟨ys,m,I,j⟩:=BA D (getElem_mem (show place xs q-1<xs.length by omega))
 have Y:=f.ref xs[place xs q-1] (getElem_mem _)
 have Z:=f.up (by omega) xs[place xs q-1] (getElem_mem _)
 have n:((xs[place xs q-1].ref.toNat:Nat):Int)=xs[place xs q-1].ref:=Int.toNat_of_nonneg (by omega)
 have K:kid s xs[place xs q-1]=ys:=by grind[kid]
 refine Bw (xs[place xs q-1].ref.toNat,l,ys,Mn) ⟨by show xs[place xs q-1].ref.toNat<256;omega,m,j,r.trans Q,?_⟩ (hk:=(Keep.cons (t:=5) rfl (Keep.cons (t:=6) rfl (Keep.ceq (t:=10) rfl (by rw[n]) (Keep.cons (t:=11) rfl Keep.nil)))))
 grind[fnd,Bg,Hh,place,kid]
theorem Qv(s:Sto)(v:Value)(a:Int)(q:Ky)(M:Mem)(h:ST M v s):SpecL prog 65 #[v,.int .i64 a,.agg (AG q).toArray] M [] λu M' b=>FdPost s a q u M'/\b=[]:=by
 obtain⟨j,c,nv,d,rfl,i,g,f,e⟩:=h.ex
 grind[YS]
set_option maxRecDepth 8000
def KJ(a b:Ky):Prop:=Ap b a=false
variable{a b:Ky}
theorem N3:Ap a b=true↔(a.kind<b.kind\/a.kind=b.kind/\(a.id<b.id\/a.id=b.id/\a.off<b.off)):=by grind[Ap]
theorem H0:KJ a b↔¬(b.kind<a.kind\/b.kind=a.kind/\(b.id<a.id\/b.id=a.id/\b.off<a.off)):=by grind[KJ,Ap]
theorem Fh(a:Ky):KJ a a:=by grind[H0]
variable{c:Ky}
theorem Kl(h:Ap a b=true)(k:Ap b c=true):Ap a c=true:=by grind[N3]
theorem HZ(h:KJ a b)(k:KJ b c):KJ a c:=by grind[H0]
theorem N2(h:Ap a b=true)(k:KJ b c):Ap a c=true:=by grind[N3,H0]
theorem Vl(h:KJ a b)(k:Ap b c=true):Ap a c=true:=by grind[N3,H0]
theorem Jz(h:Ap a b=true):KJ a b:=by grind[N3,H0]
theorem Vm:Ap a a=false:=Fh a
theorem Qf(h:KJ a b):a=b\/Ap a b=true:=by
 rw[H0]at h;rw[N3]
 by_cases e:a.kind=b.kind/\a.id=b.id/\a.off=b.off
 ·left;obtain⟨f,d,c⟩:=a;obtain⟨b1,b2,b3⟩:=b;simp_all
 omega
def Srt(ys:List It):Prop:=ys.Pairwise λx y=>Ap x.key y.key=true
def allOne(s:Sto):Nat->It->List It
 |0,x=>[x]
 |l+1,x=>(kid s x).flatMap (allOne s l)
def Aw(s:Sto)(l:Nat)(xs:List It):List It:=xs.flatMap (allOne s l)
structure InSp(p:Sp)(ys:List It):Prop where
 srt:Srt ys
 btw:∀y∈ys,KJ p.first y.key/\KJ y.key p.last
 le:KJ p.first p.last
structure TreeL(g:It->List It)(xs:List It):Prop where
 pw:xs.Pairwise λz w=>(∀y∈g z,Ap y.key w.key=true)/\Ap z.key w.key=true
 each:∀z∈xs,Srt (g z)/\∀y∈g z,KJ z.key y.key
def Bt:List It->Ky
 |[]=>⟨0,0,0⟩
 |x::_=>x.key
theorem wCr{f:It->Sp}{g:It->List It}:∀{xs:List It}{o:Option Sp},(∀x∈xs,(f x).is=true->(f x).first=x.key->InSp (f x) (g x))->(A2 f o xs).is=true->xs≠[]->
  TreeL g xs/\(∀z∈xs,∀y∈g z,KJ y.key (A2 f o xs).last)/\(∀z∈xs,KJ z.key (A2 f o xs).last)/\(∀q,o=some q->∀z∈xs,Ap q.last z.key=true)/\(A2 f o xs).first=(match o with|none=>Bt xs|some q=>q.first)
 |[],_,_,_,h=>absurd rfl h
 |x::xs,o,hg,his,_=>by
  rw[A2]at his⊢
  split at his
  case isFalse=>cases his
  rename_i hs
  rw[if_pos hs]
  unfold As at hs
  rw[Bool.and_eq_true,Bool.and_eq_true,decide_eq_true_eq]at hs
  obtain⟨⟨h1,h2⟩,h3⟩:=hs
  have hx:=hg x (by simp) h1 h2
  have hxl:KJ x.key (f x).last:=by rw[<-h2];exact hx.le
  have hxy:∀y∈g x,KJ x.key y.key:=λy hy=>by rw[<-h2];exact(hx.btw y hy).1
  have ho:∀q,o=some q->Ap q.last x.key=true:=λq e=>by subst e;rw[<-h2];exact h3
  have hf0:o=none->(A7 (f x) o).first=x.key:=λe=>by subst e;exact h2
  have hf1:∀q,o=some q->(A7 (f x) o).first=q.first:=λq e=>by subst e;rfl
  cases xs with
  |nil=>
   refine⟨⟨List.pairwise_singleton _ _,λz hz=>?_⟩,λz hz=>?_,λz hz=>?_,λq e z hz=>?_,?_⟩
   ·rw [List.mem_singleton.1 hz];exact⟨hx.srt,hxy⟩
   ·rw [List.mem_singleton.1 hz];exact λy hy=>(hx.btw y hy).2
   ·rw [List.mem_singleton.1 hz];exact hxl
   ·rw [List.mem_singleton.1 hz];exact ho q e
   show (A7 (f x) o).first=_
   cases o with
   |none=>exact hf0 rfl
   |some q=>exact hf1 q rfl
  |cons y ys=>
   obtain⟨i1,i2,i3,i4,i5⟩:=wCr (f:=f) (g:=g) (xs:=y::ys) (o:=some (A7 (f x) o)) (λz hz=>hg z (by simp[hz])) his (by simp)
   have hlt:∀z∈y::ys,Ap (f x).last z.key=true:=λz hz=>i4 _ rfl z hz
   have hll:KJ (f x).last (A2 f (some (A7 (f x) o)) (y::ys)).last:=Jz (N2 (hlt y (by simp)) (i3 y (by simp)))
   refine⟨⟨List.pairwise_cons.2 ⟨λw hw=>⟨λz hz=>Vl (hx.btw z hz).2 (hlt w hw),Vl hxl (hlt w hw)⟩,i1.pw⟩,λz hz=>?_⟩,λz hz=>?_,λz hz=>?_,λq e z hz=>?_,?_⟩
   ·rcases List.mem_cons.1 hz with rfl|hz
    ·exact ⟨hx.srt,hxy⟩
    exact i1.each z hz
   ·rcases List.mem_cons.1 hz with rfl|hz
    ·exact λu hu=>HZ (hx.btw u hu).2 hll
    exact i2 z hz
   ·rcases List.mem_cons.1 hz with rfl|hz
    ·exact HZ hxl hll
    exact i3 z hz
   ·rcases List.mem_cons.1 hz with rfl|hz
    ·exact ho q e
    exact Kl (ho q e) (Vl hxl (hlt z hz))
   rw[i5]
   show (A7 (f x) o).first=_
   cases o with
   |none=>exact hf0 rfl
   |some q=>exact hf1 q rfl
variable{g:It->List It}{xs:List It}
theorem TreeL.srt(h:TreeL g xs):Srt (xs.flatMap g):=by
 refine List.pairwise_flatMap.2 ⟨λz a=>(h.each z a).1,?_⟩
 refine h.pw.imp_of_mem λ{z w} a d e x c y b=>?_
 exact N2 (e.1 x c) ((h.each w d).2 y b)
theorem wAq(s:Sto):∀(l:Nat)(x:It),(AL s l x).is=true->(AL s l x).first=x.key->InSp (AL s l x) (allOne s l x)
 |0,x,_,_=>⟨List.pairwise_singleton _ _,λy j=>by rw[List.mem_singleton.1 j];exact⟨Fh _,Fh _⟩,Fh _⟩
 |l+1,x,h,B=>by
  obtain⟨ys,k,e,C⟩:=Q2 h
  have t:kid s x=ys:=by unfold kid;rw[k]
  rw[C]at h B⊢
  obtain⟨i,r,o,_,m⟩:=wCr (g:=allOne s l) (λz _ a b=>wAq s l z a b) h e
  have D:allOne s (l+1) x=ys.flatMap (allOne s l):=by rw[allOne,t]
  rw[D]
  obtain⟨f,n,rfl⟩:=List.exists_cons_of_ne_nil e
  have u:∀z∈f::n,KJ f.key z.key:=λz c=>by
   rcases List.mem_cons.1 c with rfl|c
   ·exact Fh _
   exact Jz ((List.pairwise_cons.1 i.pw).1 z c).2
  refine⟨i.srt,λy j=>?_,?_⟩
  ·obtain ⟨z,c,d⟩:=List.mem_flatMap.1 j
   refine⟨?_,r z c y d⟩
   rw[m];exact HZ (u z c) ((i.each z c).2 y d)
  rw[m];exact o f (by simp)
variable{l:Nat}{s:Sto}
theorem Up(h:AV s l xs):TreeL (allOne s l) xs:=by
 by_cases c:xs=[]
 ·subst c;exact⟨List.Pairwise.nil,λz d=>by cases d⟩
 exact(wCr (λz _ a b=>wAq s l z a b) (h c) c).1
theorem wMv(h:AV s (l+1) xs){x:It}(a:x∈xs):AV s l (kid s x):=by
 grind[BA,kid]
theorem Xl{q:Ky}:∀{l:Nat}{xs:List It},AV s l xs->Bh s q l xs=(Aw s l xs).filter λx=> !Ap x.key q
 |0,xs,_=>by rw[Bh,Aw];simp[allOne]
 |l+1,xs,h=>by
  have c:∀x∈xs,Bh s q l (kid s x)=(allOne s (l+1) x).filter λx=> !Ap x.key q:=λx a=>Xl (wMv h a)
  have f:=Up h
  have d:=f.pw
  clear f h
  rw[Bh,Aw]
  induction xs with
  |nil=>rfl
  |cons x xs b=>
   have a:=c x (by simp)
   have j:=b (λy i=>c y (by simp[i])) (List.pairwise_cons.1 d).2
   rw[List.flatMap_cons,List.filter_append,<-j]
   have e:BV (λx=>Bh s q l (kid s x)) q (x::xs)=(match xs with|[]=>Bh s q l (kid s x)|y::_=>if Ap q y.key then Bh s q l (kid s x)else [])++BV (λx=>Bh s q l (kid s x)) q xs:=by cases xs<;>rfl
   rw[e]
   congr 1
   cases xs with
   |nil=>exact a
   |cons y ys=>
    show (if Ap q y.key=true then _ else _)=_
    split
    ·exact a
    rename_i k
    symm
    rw[List.filter_eq_nil_iff]
    intro z g
    have n:=((List.pairwise_cons.1 d).1 y (by simp)).1 z g
    have m:KJ y.key q:=by simpa [KJ]using k
    have:=N2 n m
    simp[this]
variable{A:List It}
theorem U1{q:Ky}(h:∀w∈A,Ap w.key q=false):place A q=0:=by
 simp_all [place]
theorem Lp{q:Ky}:∀{l:Nat}{xs:List It}{x:It},Bg s q l xs=some x->x∈Aw s l xs/\x.key=q
 |0,xs,x,h=>by
  rw[Bg]at h
  split at h
  ·rename_i a
   unfold Fl at a
   rw[h]at a
   have:=of_decide_eq_true a
   refine⟨?_,by simpa using this⟩
   rw[Aw];simp only[allOne]
   exact List.mem_flatMap.2 ⟨x,List.mem_of_getElem? h,by simp⟩
  cases h
 |l+1,xs,x,h=>by
  rw[Bg]at h
  split at h
  ·rename_i z b
   obtain⟨d,c⟩:=Lp h
   refine⟨List.mem_flatMap.2 ⟨z,?_,d⟩,c⟩
   unfold Hh at b
   split at b
   ·exact List.mem_of_getElem? b
   split at b
   ·cases b
   exact List.mem_of_getElem? b
  cases h
def allT(s:Sto)(root:Int):List It:=match Ai s root.toNat with|some (lv,xs)=>Aw s lv.toNat xs|none=>[]
def btw(a b:Ky)(x:It):Bool:= !Ap x.key a&& !Ap b x.key
theorem PR:∀{ys:List It},Srt ys->(ys.takeWhile λx=> !Ap b x.key)=ys.filter λx=> !Ap b x.key
 |[],_=>rfl
 |y::ys,h=>by
  have c:=List.pairwise_cons.1 h
  by_cases a:Ap b y.key=true
  ·rw [List.takeWhile_cons_of_neg (by simp[a]),List.filter_cons_of_neg (by simp[a])]
   symm
   rw[List.filter_eq_nil_iff]
   intro z d
   have:=Kl a (c.1 z d)
   simp[this]
  rw[List.takeWhile_cons_of_pos (by simp[a]),List.filter_cons_of_pos (by simp[a]),PR c.2]
variable{ys:List It}
theorem Srt.filter(h:Srt ys)(p:It->Bool):Srt (ys.filter p):=List.Pairwise.filter p h
variable{root:Int}
theorem wKs(h:(fchk s root).2=0):Srt (allT s root):=by
 obtain⟨_,_,_,_,b,xs,a,c,_⟩:=CT h
 unfold allT;rw[a]
 exact(Up c).srt
theorem wMm(h:(fchk s root).2=0)(a b:Ky):rng s root a b=(allT s root).filter (btw a b):=by
 have d:=wKs h
 obtain⟨_,_,_,_,c,xs,e,f,_⟩:=CT h
 unfold rng allT at *
 rw[e]at d⊢
 change Srt (Aw s c xs)at d
 show ((Bh s a c xs).takeWhile λx=> !Ap b x.key)=(Aw s c xs).filter (btw a b)
 rw[Xl f,PR (d.filter _),List.filter_filter]
 congr 1;funext x;unfold btw;rw[Bool.and_comm]
theorem wDe(h:(fchk s root).2=0){q:Ky}{x:It}(a:fnd s root q=some x):x∈allT s root/\x.key=q:=by
 grind[CT,fnd,allT,Lp]
theorem wMu(h:¬Ap a b=true):KJ b a:=by grind[KJ]
theorem wGu(h:(fchk s root).2=0)(a b:Ky):(rng s root a b).length<=15625:=by
 obtain⟨_,_,_,_,c,xs,e,_,_⟩:=CT h
 unfold rng;rw[e]
 have d:=Ar e
 have f:=LT (s:=s) (q:=a) (l:=c) (by have:=d.lev;omega) d.len
 have g:=(List.takeWhile_prefix (λx=> !Ap b x.key) (l:=Bh s a c xs)).length_le
 grind
set_option maxRecDepth 8000
def ED(lv:Int)(xs:List It):List (Int×Int):=xs.map λx=>(x.ref,lv-1)
def BT:List It->Sto->Option Sto
 |[],s=>some s
 |x::xs,s=>if x.ref=0 then BT xs s else if looseE s x.ref.toNat=0 then BT xs (AF s x.ref.toNat)else none
def AN(s:Sto)(k:Nat):Sto:={ s with now:=s.now.set k 0 }
def HV(first:List By):Nat->Sto->List (Int×Int)->Option Sto
 |_,s,[]=>some s
 |0,_,_::_=>none
 |n+1,s,(k,l)::st=>
  if s.now.getD k.toNat 0=0 then none
  else if s.now.getD k.toNat 0≠1 then HV first n (AF s k.toNat) st
  else match Ai s k.toNat with
   |none=>none
   |some (lv,xs)=>if first.getD k.toNat 0=0\/(0<=l/\lv≠l)then none
    else if 0<lv then HV first n (AN s k.toNat) (ED lv xs++st)
    else match BT xs (AN s k.toNat)with
     |none=>none
     |some t=>HV first n t st
def Do(bs:List By):Nat:=(bs.map UInt8.toNat).sum
def leave(s:Sto)(root:Int):Option Sto:=HV s.now (Do s.now) s [(root,-1)]
def A5(l:List It):List (List It):=if 5<l.length then [l.take 3,l.drop 3]else [l]
def PJ(s:Sto)(p:List It):It:=⟨Bt p,(mkAt (Ag s p):Int),[]⟩
def Mx(lv:Int):List (List It)->Sto->List It->Except Int (Sto×List It)
 |[],s,up=>.ok (s,up)
 |p::ps,s,up=>if mkE s lv p=0 then Mx lv ps (mkS s lv p) (up++[PJ s p])else .error (mkE s lv p)
def Fx:List It->Sto->Except Int Sto
 |[],s=>.ok s
 |x::xs,s=>if x.ref=0 then Fx xs s else if looseE s x.ref.toNat=0 then Fx xs (AF s x.ref.toNat)else .error (looseE s x.ref.toNat)
def build(s:Sto)(lv:Int)(l held:List It):Except Int (Sto×List It):=match Mx lv (A5 l) s []with
 |.error e=>.error e
 |.ok (t,up)=>match Fx held t with
  |.error e=>.error e
  |.ok t2=>.ok (t2,up)
structure Stp where
 lv:Int
 xs:List It
 at_:Nat
def Bz(xs:List It)(q:Ky):Nat:=if Fl xs q then place xs q else place xs q-1
def Av(s:Sto)(q:Ky):Nat->List It->List Stp
 |0,xs=>[⟨0,xs,place xs q⟩]
 |l+1,xs=>⟨((l+1:Nat):Int),xs,Bz xs q⟩::Av s q l (match xs[Bz xs q]? with|some x=>kid s x|none=>[])
def DT(ws:List Stp)(q:Ky):Bool:=ws.length==6&& !(ws.any λw=>decide (w.xs.length<5))&& !(match ws.getLast? with|some w=>Fl w.xs q|none=>false)
def Dr(w:Stp)(q:Ky):Nat:=match w.xs[w.at_]? with
 |none=>0
 |some y=>if w.lv=0/\y.key≠q then 0 else 1
def Fa(w:Stp)(q:Ky)(up:List It):List It:=w.xs.take w.at_++up++w.xs.drop (w.at_+Dr w q)
def H2(s:Sto)(x:It):List Stp->Except Int (Sto×List It)
 |[]=>.ok (s,[x])
 |w::ws=>match H2 s x ws with
  |.error e=>.error e
  |.ok (t,up)=>build t w.lv (Fa w x.key up) up
def CL(s:Sto)(root:Int)(x:It):Int:=if (fchk s root).2=0 then (if BY x=0 then (if x.ref≠0/\s.now.getD x.ref.toNat 0=0 then 6 else 0)else 8)else (fchk s root).2
def EL(x:It)(n:Int):Except Int (Sto×List It)->Except Int (Sto×List It)
 |.error e=>.error e
 |.ok (t,up)=>if 1<up.length then build t n up up else .ok (t,up)
def F6(s:Sto)(root:Int)(x:It)(ws:List Stp):Except Int (Sto×Int):=if DT ws x.key=true then .error 120 else
 match EL x ws.length (H2 s x ws)with
 |.error e=>.error e
 |.ok (t,up)=>match leave t root with
  |none=>.error 8
  |some t2=>.ok (t2,match up with|y::_=>y.ref|[]=>0)
def Fw(s:Sto)(root:Int)(x:It):Except Int (Sto×Int):=
 if CL s root x≠0 then .error (CL s root x)else
  match Ai s root.toNat with
  |none=>.error 8
  |some (lv,xs)=>F6 s root x (Av s x.key lv.toNat xs)
end Go.Proofs.YtdahhoicackcaaaGreat
