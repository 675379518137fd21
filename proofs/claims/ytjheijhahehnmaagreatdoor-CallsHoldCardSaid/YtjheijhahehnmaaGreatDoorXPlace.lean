/- Lemmas. -/
import Derived.Test.YtjheijhahehnmaaGreatDoorXLoose
namespace Go.Proofs.YtjheijhahehnmaaGreatDoor
open Go.Proofs.Tryz
open List (length length_nil length_map getElem_mem mem_cons_of_mem drop_eq_getElem_cons nil_append)
set_option linter.unusedSimpArgs false
set_option linter.unusedVariables false
set_option linter.unusedSectionVars false
set_option maxHeartbeats 40000000
set_option maxRecDepth 8000
open Go.RowKit
variable{Lb:Lc}{M:Mem}{bb:Nat}{s:Sto}
theorem BOwn.bn(h:BOwn M bb Lb s)(H:(Lb.map (·.1)).Nodup)(y:∀p∈Lb,M p.1=none):BN (Ef M Lb) (pB bb) s:=by
 have d:=Pp y;have G:∀p∈Lb,Ef M Lb p.1=some p.2:=λp f=>F5 H f;obtain⟨C,z,E,D,B,O,P,R,L,K,J,k,m,l,j⟩:=h;have o:∀p∈(bb,cE [C,z,.slice E s.now.length D,B] Eg)::(O++P),Ef M Lb p.1=some p.2:=by grind
 refine⟨bb,C,z,_,B,rfl,o (bb,_) List.mem_cons_self,L.mono d,?_,?_,K.mono d⟩
 ·rcases j with j|⟨rfl,I,N,rfl,g,hold⟩
  ·obtain ⟨a,c,rfl,w,n⟩:=j.lent (M:=Ef M Lb) (λp f=>o p (by simp[f]));exact⟨a,c,k,rfl,w,n,m,λp f=>(l p f).mono d⟩
  refine⟨_,_,k,rfl,lR,?_,m,λp f=>(l p f).mono d⟩;rcases g with y|g
  ·exact .inl y
  obtain⟨b,of,Q⟩:=N;simp only at g;subst g;exact .inr ⟨b,of,rfl,λi u F=>(hold i u F).mono d⟩
 obtain⟨a,c,e,w,n⟩:=J.lent (M:=Ef M Lb) (λp f=>o p (by simp[f]));cases e;exact⟨_,_,rfl,w,n⟩
theorem Nc(s:Sto)(k f:Nat)(hk:k<256)(d:Au s)(M:Mem)(a:Lc)(h:BOwn M f a s):Sg 85 #[pB f,iL k] M a λu b c=>BnPost s k u b/\c=a:=by
 have:=SpecL.lend (R:=a) (L:=[]) (post:=λu b c=>BnPost s k u (Ck (Ef M a) b)/\c=[]) (λe i=>S0 s k _ (Ef M a) d hk (h.bn e i));rw[List.append_nil]at this;refine this.mono ?_;rintro u b c ⟨j,l,⟨g,rfl⟩,rfl,rfl,e⟩;exact⟨g.mono (wCr e),by simp⟩
structure CE(M:Mem)(s:Sto)(b1 b2 b3:Nat):Prop where
 st:∃bv wv nv lv,M b1=some (cE [bv,wv,nv,lv] 28)/\BS M nv s.now
 bn:∃v,M b2=some (cE [v] 70)/\BN M v s
 cl:M b3=some (cE [.func (.func 307) #[] #[pB b1,pB b2,pB b3]] 415)
variable{M:Mem}{b1:Nat}{s:Sto}
theorem CE.mono{M':Mem}{g f:Nat}(h:CE M s b1 g f)(e:MLe M M'):CE M' s b1 g f:=by
 obtain⟨⟨a,b,c,d,m,l⟩,⟨v,k,j⟩,i⟩:=h;exact⟨⟨a,b,c,d,e _ _ m,l.mono e⟩,⟨v,e _ _ k,j.mono e⟩,e _ _ i⟩
theorem Yg(s:Sto)(J:Au s)(X V U:Nat)(xs:List It)(a:Option Addr)(c:Nat)(ps:List (It×Value))(M:Mem)(Q:CE M s X V U)(hc:xs.length<=c)(hs:SM M a (ps.flatMap Ad))(H:ps.map (·.1)=xs)(hb:∀p∈ps,BS M p.2 p.1.val)(B:NdOk 0 xs):
  Sg 307 #[.agg #[iL 0,.slice a xs.length c],pB X,pB V,pB U] M [] λv _ _=>v=.agg (Nr (A4 (AR s 0) none xs)).toArray:=by
 have ae:=B.lev;have Z:=B.len;refine sB func307 ntmps307 ?_;intro W;refine VY λb4 b5 b6=>?_;refine Cy (α:=Nat×Mem×Option Sp) (λx=>[(1,pB X),(2,pB V),(3,pB U),(4,pB b4),(5,pB b5),(6,pB b6),(13,.slice a xs.length c),(14,iL xs.length),(15,iL x.1)]) (λx=>x.2.1) (λx=>[(b6,cE (Nr (x.2.2.getD Cq)) 417),(b5,cE (Nr Cq) 417),(b4,cE [iL 0,.slice a xs.length c] 81)]) (λx=>x.1<=xs.length/\MLe M x.2.1/\(x.2.2=none↔x.1=0)/\A4 (AR s 0) none xs=A4 (AR s 0) x.2.2 (xs.drop x.1)) (λx=>xs.length-x.1) (0,M,none) ⟨zL,mR,by simp,rfl⟩ ?_;rintro⟨k,I,o⟩ ⟨hk,n,d,z⟩;try dsimp only at hk n d z⊢
 have G:=Q.mono n;have K:=hs.mono n;have R:=λp H=>(hb p H).mono n;refine gj (λS=>?_) λS=>?_
 ·refine gh ?_;have l:k<xs.length:=by omega
  obtain⟨sb,so,T,hx⟩:=K.open (by intro e;have:=cA length e;rw[Af Ad 5 Ae,length_nil]at this;have h2:=cA length H;rw[length_map]at h2;omega);subst T;obtain⟨va,vc,P,ac,ab⟩:=Av hx H R l;have aa:=B.ref xs[k] (getElem_mem l);refine gh ?_;refine lq (A0 (cs:=EL xs[k] va vc) rfl rfl rfl rfl rfl (λi v hv=>(P i v hv).cj _)) ?_;refine ga λb8=>?_;refine Qp [0,1,2,3,4,5,6,7,8,9,10,11,12,13,14,15,16,117,118] ?_;refine gj (λD=>?_) λD=>?_
  ·refine gh ?_;refine Gu rfl rfl rfl (AW rfl rfl) ?_;rintro _ _ _ ⟨b9,rfl,rfl,rfl⟩;refine Cr (mR) (λ_ h=>mem_cons_of_mem _ h) (by first|exact mR|assumption) (by simp) ?_;refine Dw rfl rfl (Ak rfl rfl rfl rfl rfl rfl rfl rfl) ?_;rintro _ _ _ ⟨rfl,rfl⟩;refine Cr (mR) (λ_ h=>mem_cons_of_mem _ h) (by first|exact mR|assumption) (by simp) ?_;refine gt ?_;obtain⟨p,b⟩:∃p:Sp,p=AR s 0 xs[k]:=⟨_,rfl⟩;rw[show ([iB xs[k].key.kind,iU xs[k].key.id,iU xs[k].key.off,iB xs[k].key.kind,iU xs[k].key.id,iU xs[k].key.off,.bool true]:List Value)=Nr p by rw[b];simp[Nr,AR,D]];refine BK rfl rfl (Aw rfl rfl rfl rfl (CJ.loc rfl)) (λg=>?_) (λg=>?_)
   ·refine gg ?_;refine BK rfl rfl (UW (ns:=[p.first.kind,p.first.id,p.first.off]) (ms:=[xs[k].key.kind,xs[k].key.id,xs[k].key.off]) rfl rfl rfl rfl rfl rfl ⟨rfl,rfl⟩) (λf=>?_) (λf=>?_)
    ·refine gr ?_;show Value.agg (Nr Cq).toArray=_;rw[Dx l z (by first|(rw[<-b];simp[Aq,g];done)|(rw[<-b];simp[Aq,show ¬p.first=xs[k].key from λe=>oT f (by rw[e])];done)|(obtain⟨q,rfl⟩:=Option.ne_none_iff_exists'.1 (λe=>by have:=d.1 e;omega:o≠none);rw[<-b];simp[Aq,show Ap q.last p.first=false from m]))]
    refine gj (λC=>?_) λC=>?_
    ·refine gg ?_;refine BK rfl rfl (Dc rfl rfl rfl rfl rfl (by kernel_rfl) (Ch (o.getD Cq).last p.first _)) (λm=>?_) (λm=>?_)
     ·refine gj (λy=>?_) λy=>?_
      ·exfalso;omega
      refine gh ?_;have u:p.first=xs[k].key:=by have:=DZ p.first xs[k].key;rw[dT (nN (oF f))]at this;exact oT this.symm
      obtain⟨q,rfl⟩:∃q,o=some q:=by
        cases o with
        |none=>have:=d.1 rfl;omega
        |some q=>exact⟨q,rfl⟩
      refine BB (k+1,I,some (Bi p (some q))) ⟨by show k+1<=xs.length;omega,n,by simp,?_⟩ (hs:=?_)
      ·show A4 _ _ _=A4 _ (some (Bi p _)) _;rw[b];exact Hm l z (by rw[<-b];simp[Aq,g,<-u,show Ap q.last p.first=true from m])
      intro w h;refine(h.fewer ?_:St _ _ _ w);first|exact .refl _|exact .cons _ (.refl _)|exact .cons _ (.cons _ (.refl _))|exact .cons _ (.cons _ (.cons _ (.refl _)))|exact .cons _ (.cons _ (.cons _ (.cons _ (.refl _))))|exact .cons _ (.cons _ (.cons _ (.cons _ (.cons _ (.refl _)))))
     refine gr ?_;show Value.agg (Nr Cq).toArray=_;rw[Dx l z (by first|(rw[<-b];simp[Aq,g];done)|(rw[<-b];simp[Aq,show ¬p.first=xs[k].key from λe=>oT f (by rw[e])];done)|(obtain⟨q,rfl⟩:=Option.ne_none_iff_exists'.1 (λe=>by have:=d.1 e;omega:o≠none);rw[<-b];simp[Aq,show Ap q.last p.first=false from m]))]
    refine gj (λy=>?_) λy=>?_
    ·refine gh ?_;have u:p.first=xs[k].key:=by have:=DZ p.first xs[k].key;rw[dT (nN (oF f))]at this;exact oT this.symm
     obtain rfl:o=none:=d.2 (by omega);refine BB (k+1,I,some (Bi p none)) ⟨by show k+1<=xs.length;omega,n,by simp,?_⟩ (hs:=?_)
     ·show A4 _ _ _=A4 _ (some (Bi p _)) _;rw[b];exact Hm l z (by rw[<-b];simp[Aq,g,u])
     intro w h;refine(h.fewer ?_:St _ _ _ w);first|exact .refl _|exact .cons _ (.refl _)|exact .cons _ (.cons _ (.refl _))|exact .cons _ (.cons _ (.cons _ (.refl _)))|exact .cons _ (.cons _ (.cons _ (.cons _ (.refl _))))|exact .cons _ (.cons _ (.cons _ (.cons _ (.cons _ (.refl _)))))
    exfalso;omega
   refine gr ?_;show Value.agg (Nr Cq).toArray=_;rw[Dx l z (by first|(rw[<-b];simp[Aq,g];done)|(rw[<-b];simp[Aq,show ¬p.first=xs[k].key from λe=>oT f (by rw[e])];done)|(obtain⟨q,rfl⟩:=Option.ne_none_iff_exists'.1 (λe=>by have:=d.1 e;omega:o≠none);rw[<-b];simp[Aq,show Ap q.last p.first=false from m]))]
  refine gh ?_;obtain⟨bv,wv,nv,lw,E,F⟩:=G.st;obtain⟨na,nc,rfl,ad,N⟩:=F;have O:s.now.length=256:=J.2.1.1;obtain⟨nb,no,T,L⟩:=N.open (by intro e;have:=cA length e;rw[Ac,length_nil]at this;omega);subst T;refine dq rfl (Aw rfl rfl rfl rfl (CM.cj ⟨_,_,_,E,rfl⟩ _)) ?_;refine gh ?_;have Y:0<=xs[k].ref/\xs[k].ref<256:=by omega
  refine gh ?_;refine dq rfl (Aw rfl rfl rfl rfl ((L _ _ (by rw[mO];exact B5 (j:=xs[k].ref.toNat) (by omega))).cj _)) ?_;refine gh ?_;refine Gu rfl rfl rfl (AW rfl rfl) ?_;rintro _ _ _ ⟨b9,rfl,rfl,rfl⟩;refine Cr (mR) (λ_ h=>mem_cons_of_mem _ h) (by first|exact mR|assumption) (by simp) ?_;refine Dw rfl rfl (Ak rfl rfl rfl rfl rfl rfl rfl rfl) ?_;rintro _ _ _ ⟨rfl,rfl⟩;refine Cr (mR) (λ_ h=>mem_cons_of_mem _ h) (by first|exact mR|assumption) (by simp) ?_;refine gt ?_;obtain⟨p,b⟩:∃p:Sp,p=AR s 0 xs[k]:=⟨_,rfl⟩;rw[show ([iB xs[k].key.kind,iU xs[k].key.id,iU xs[k].key.off,iB xs[k].key.kind,iU xs[k].key.id,iU xs[k].key.off,.bool (decide (0<((s.now.getD xs[k].ref.toNat 0).toNat:Int)))]:List Value)=Nr p by rw[b];simp[Nr,AR,D]];refine BK rfl rfl (Aw rfl rfl rfl rfl (CJ.loc rfl)) (λg=>?_) (λg=>?_)
  ·refine gg ?_;refine BK rfl rfl (UW (ns:=[p.first.kind,p.first.id,p.first.off]) (ms:=[xs[k].key.kind,xs[k].key.id,xs[k].key.off]) rfl rfl rfl rfl rfl rfl ⟨rfl,rfl⟩) (λf=>?_) (λf=>?_)
   ·refine gr ?_;show Value.agg (Nr Cq).toArray=_;rw[Dx l z (by first|(rw[<-b];simp[Aq,g];done)|(rw[<-b];simp[Aq,show ¬p.first=xs[k].key from λe=>oT f (by rw[e])];done)|(obtain⟨q,rfl⟩:=Option.ne_none_iff_exists'.1 (λe=>by have:=d.1 e;omega:o≠none);rw[<-b];simp[Aq,show Ap q.last p.first=false from m]))]
   refine gj (λC=>?_) λC=>?_
   ·refine gg ?_;refine BK rfl rfl (Dc rfl rfl rfl rfl rfl (by kernel_rfl) (Ch (o.getD Cq).last p.first _)) (λm=>?_) (λm=>?_)
    ·refine gj (λy=>?_) λy=>?_
     ·exfalso;omega
     refine gh ?_;have u:p.first=xs[k].key:=by have:=DZ p.first xs[k].key;rw[dT (nN (oF f))]at this;exact oT this.symm
     obtain⟨q,rfl⟩:∃q,o=some q:=by
       cases o with
       |none=>have:=d.1 rfl;omega
       |some q=>exact⟨q,rfl⟩
     refine BB (k+1,I,some (Bi p (some q))) ⟨by show k+1<=xs.length;omega,n,by simp,?_⟩ (hs:=?_)
     ·show A4 _ _ _=A4 _ (some (Bi p _)) _;rw[b];exact Hm l z (by rw[<-b];simp[Aq,g,<-u,show Ap q.last p.first=true from m])
     intro w h;refine(h.fewer ?_:St _ _ _ w);first|exact .refl _|exact .cons _ (.refl _)|exact .cons _ (.cons _ (.refl _))|exact .cons _ (.cons _ (.cons _ (.refl _)))|exact .cons _ (.cons _ (.cons _ (.cons _ (.refl _))))|exact .cons _ (.cons _ (.cons _ (.cons _ (.cons _ (.refl _)))))
    refine gr ?_;show Value.agg (Nr Cq).toArray=_;rw[Dx l z (by first|(rw[<-b];simp[Aq,g];done)|(rw[<-b];simp[Aq,show ¬p.first=xs[k].key from λe=>oT f (by rw[e])];done)|(obtain⟨q,rfl⟩:=Option.ne_none_iff_exists'.1 (λe=>by have:=d.1 e;omega:o≠none);rw[<-b];simp[Aq,show Ap q.last p.first=false from m]))]
   refine gj (λy=>?_) λy=>?_
   ·refine gh ?_;have u:p.first=xs[k].key:=by have:=DZ p.first xs[k].key;rw[dT (nN (oF f))]at this;exact oT this.symm
    obtain rfl:o=none:=d.2 (by omega);refine BB (k+1,I,some (Bi p none)) ⟨by show k+1<=xs.length;omega,n,by simp,?_⟩ (hs:=?_)
    ·show A4 _ _ _=A4 _ (some (Bi p _)) _;rw[b];exact Hm l z (by rw[<-b];simp[Aq,g,u])
    intro w h;refine(h.fewer ?_:St _ _ _ w);first|exact .refl _|exact .cons _ (.refl _)|exact .cons _ (.cons _ (.refl _))|exact .cons _ (.cons _ (.cons _ (.refl _)))|exact .cons _ (.cons _ (.cons _ (.cons _ (.refl _))))|exact .cons _ (.cons _ (.cons _ (.cons _ (.cons _ (.refl _)))))
   exfalso;omega
  refine gr ?_;show Value.agg (Nr Cq).toArray=_;rw[Dx l z (by first|(rw[<-b];simp[Aq,g];done)|(rw[<-b];simp[Aq,show ¬p.first=xs[k].key from λe=>oT f (by rw[e])];done)|(obtain⟨q,rfl⟩:=Option.ne_none_iff_exists'.1 (λe=>by have:=d.1 e;omega:o≠none);rw[<-b];simp[Aq,show Ap q.last p.first=false from m]))]
 refine gr ?_;show Value.agg (Nr (o.getD Cq)).toArray=_;rw[Yb (by omega) z]
theorem Yf(s:Sto)(N:Au s)(X V U:Nat)(xs:List It)(a:Option Addr)(c:Nat)(ps:List (It×Value))(M:Mem)(ag:CE M s X V U)(hc:xs.length<=c)(hs:SM M a (ps.flatMap Ad))(Y:ps.map (·.1)=xs)(hb:∀p∈ps,BS M p.2 p.1.val)(l:Nat)(lv:Int)(a0:lv=(l:Int)+1)(D:NdOk lv xs)(ih:∀(ys:List It)(v:Value)(M:Mem),CE M s X V U->NS M v ys->NdOk (l:Int) ys->Sg 307 #[.agg #[iL (l:Int),v],pB X,pB V,pB U] M [] λu _ _=>u=.agg (Nr (A4 (AR s l) none ys)).toArray):
  Sg 307 #[.agg #[iL lv,.slice a xs.length c],pB X,pB V,pB U] M [] λv _ _=>v=.agg (Nr (A4 (AR s (l+1)) none xs)).toArray:=by
 have az:=D.lev;have aq:=D.len;refine sB func307 ntmps307 ?_;intro W;refine VY λb4 b5 b6=>?_;refine Cy (α:=Nat×Mem×Option Sp) (λx=>[(1,pB X),(2,pB V),(3,pB U),(4,pB b4),(5,pB b5),(6,pB b6),(13,.slice a xs.length c),(14,iL xs.length),(15,iL x.1)]) (λx=>x.2.1) (λx=>[(b6,cE (Nr (x.2.2.getD Cq)) 417),(b5,cE (Nr Cq) 417),(b4,cE [iL lv,.slice a xs.length c] 81)]) (λx=>x.1<=xs.length/\MLe M x.2.1/\(x.2.2=none↔x.1=0)/\A4 (AR s (l+1)) none xs=A4 (AR s (l+1)) x.2.2 (xs.drop x.1)) (λx=>xs.length-x.1) (0,M,none) ⟨zL,mR,by simp,rfl⟩ ?_;rintro⟨k,Mk,o⟩ ⟨hk,y,g,z⟩;try dsimp only at hk y g z⊢
 have m:=ag.mono y;have Z:=hs.mono y;have aj:=λp Y=>(hb p Y).mono y;refine gj (λao=>?_) λao=>?_
 ·refine gh ?_;have d:k<xs.length:=by omega
  obtain⟨sb,so,e0,hx⟩:=Z.open (by intro e;have:=cA length e;rw[Af Ad 5 Ae,length_nil]at this;have h2:=cA length Y;rw[length_map]at h2;omega);subst e0;obtain⟨va,vc,af,aw,av⟩:=Av hx Y aj d;have au:=D.ref xs[k] (getElem_mem d);refine gh ?_;refine lq (A0 (cs:=EL xs[k] va vc) rfl rfl rfl rfl rfl (λi v hv=>(af i v hv).cj _)) ?_;refine ga λb8=>?_;refine Qp [0,1,2,3,4,5,6,7,8,9,10,11,12,13,14,15,16,117,118] ?_;refine gj (λT=>?_) λT=>?_
  ·exfalso;exact D.up (by omega) xs[k] (getElem_mem d) T
  refine gh ?_;obtain⟨bv,wv,nv,lw,L,P⟩:=m.st;obtain⟨na,nc,rfl,ay,ab⟩:=P;have ad:s.now.length=256:=N.2.1.1;obtain⟨nb,no,e0,aa⟩:=ab.open (by intro e;have:=cA length e;rw[Ac,length_nil]at this;omega);subst e0;refine dq rfl (Aw rfl rfl rfl rfl (CM.cj ⟨_,_,_,L,rfl⟩ _)) ?_;refine gh ?_;have ap:0<=xs[k].ref/\xs[k].ref<256:=by omega
  refine gh ?_;refine dq rfl (Aw rfl rfl rfl rfl ((aa _ _ (by rw[mO];exact B5 (j:=xs[k].ref.toNat) (by omega))).cj _)) ?_;refine gh ?_;refine Gu rfl rfl rfl (AW rfl rfl) ?_;rintro _ _ _ ⟨b9,rfl,rfl,rfl⟩;refine Cr (mR) (λ_ h=>mem_cons_of_mem _ h) (by first|exact mR|assumption) (by simp) ?_;refine Dw rfl rfl (Ak rfl rfl rfl rfl rfl rfl rfl rfl) ?_;rintro _ _ _ ⟨rfl,rfl⟩;refine Cr (mR) (λ_ h=>mem_cons_of_mem _ h) (by first|exact mR|assumption) (by simp) ?_;refine gt ?_;obtain⟨bp,R,ah⟩:=m.bn;refine lq (Aw rfl rfl rfl rfl (CM.cj ⟨_,_,_,R,rfl⟩ _)) ?_;refine gh ?_;have ax:=D.up (by omega) xs[k] (getElem_mem d);have ae:((xs[k].ref.toNat:Nat):Int)=xs[k].ref:=Int.toNat_of_nonneg (by omega);refine gc (by have:=Et s xs[k].ref.toNat bp Mk N (by omega) ah;rwa[ae]at this) ?_;rintro _ Mn G ai;obtain⟨nl,ya,yn,yc,e,rfl,n⟩:=BnPost.form ai;refine gA λa1=>?_;refine gj (λam=>?_) λam=>?_
  ·refine gr ?_;show Value.agg (Nr Cq).toArray=_;obtain⟨Q,b⟩|⟨Q,ys,b,K,F⟩:=n
   ·rw [Dx d z (MB b)]
   rw[Dx d z (MA b (by omega))]
  refine gj (λal=>?_) λal=>?_
  ·refine gr ?_;show Value.agg (Nr Cq).toArray=_;obtain⟨Q,b⟩|⟨Q,ys,b,K,F⟩:=n
   ·rw [Dx d z (MB b)]
   rw[Dx d z (MA b (by omega))]
  refine gj (λS=>?_) λS=>?_
  ·refine gr ?_;show Value.agg (Nr Cq).toArray=_;obtain⟨Q,b⟩|⟨Q,ys,b,K,F⟩:=n
   ·rw [Dx d z (MB b)]
   rw[Dx d z (MA b (by intro hh;exact hh.2 (List.eq_nil_of_length_eq_zero (by omega))))]
  refine gh ?_;refine lq (Aw rfl rfl rfl rfl (CM.cj ⟨_,_,_,(m.mono G).cl,rfl⟩ _)) ?_;refine gh ?_;obtain⟨_,b⟩|⟨rfl,ys,b,rfl,F⟩:=n
  ·omega
  have ac:nl=(l:Int):=by omega
  subst ac;have J:ys≠[]:=λe=>S (by rw[e];rfl);refine gQ (ih ys _ Mn (m.mono G) F (Ar b)) ?_;obtain⟨p,f⟩:∃p:Sp,p=AR s (l+1) xs[k]:=⟨_,rfl⟩;have O:A4 (AR s l) none ys=p:=by rw[f];simp only[AR];rw[b];exact(iP ⟨by omega,J⟩).symm
  rw[O];refine BK rfl rfl (Aw rfl rfl rfl rfl (CJ.loc rfl)) (λC=>?_) (λC=>?_)
  ·refine gg ?_;refine BK rfl rfl (UW (ns:=[p.first.kind,p.first.id,p.first.off]) (ms:=[xs[k].key.kind,xs[k].key.id,xs[k].key.off]) rfl rfl rfl rfl rfl rfl ⟨rfl,rfl⟩) (λB=>?_) (λB=>?_)
   ·refine gr ?_;show Value.agg (Nr Cq).toArray=_;rw[Dx d z (by first|(rw[<-f];simp[Aq,C];done)|(rw[<-f];simp[Aq,show ¬p.first=xs[k].key from λe=>oT B (by rw[e])];done)|(obtain⟨q,rfl⟩:=Option.ne_none_iff_exists'.1 (λe=>by have:=g.1 e;omega:o≠none);rw[<-f];simp[Aq,show Ap q.last p.first=false from E]))]
   refine gj (λak=>?_) λak=>?_
   ·refine gg ?_;refine BK rfl rfl (Dc rfl rfl rfl rfl rfl (by kernel_rfl) (Ch (o.getD Cq).last p.first _)) (λE=>?_) (λE=>?_)
    ·refine gj (λI=>?_) λI=>?_
     ·exfalso;omega
     refine gh ?_;have H:p.first=xs[k].key:=by have:=DZ p.first xs[k].key;rw[dT (nN (oF B))]at this;exact oT this.symm
     obtain⟨q,rfl⟩:∃q,o=some q:=by
       cases o with
       |none=>have:=g.1 rfl;omega
       |some q=>exact⟨q,rfl⟩
     refine BB (k+1,Mn,some (Bi p (some q))) ⟨by show k+1<=xs.length;omega,y.trans G,by simp,?_⟩ (hs:=?_)
     ·show A4 _ _ _=A4 _ (some (Bi p _)) _;rw[f];exact Hm d z (by rw[<-f];simp[Aq,C,<-H,show Ap q.last p.first=true from E])
     intro w h;refine(h.fewer ?_:St _ _ _ w);first|exact .refl _|exact .cons _ (.refl _)|exact .cons _ (.cons _ (.refl _))|exact .cons _ (.cons _ (.cons _ (.refl _)))|exact .cons _ (.cons _ (.cons _ (.cons _ (.refl _))))|exact .cons _ (.cons _ (.cons _ (.cons _ (.cons _ (.refl _)))))
    refine gr ?_;show Value.agg (Nr Cq).toArray=_;rw[Dx d z (by first|(rw[<-f];simp[Aq,C];done)|(rw[<-f];simp[Aq,show ¬p.first=xs[k].key from λe=>oT B (by rw[e])];done)|(obtain⟨q,rfl⟩:=Option.ne_none_iff_exists'.1 (λe=>by have:=g.1 e;omega:o≠none);rw[<-f];simp[Aq,show Ap q.last p.first=false from E]))]
   refine gj (λI=>?_) λI=>?_
   ·refine gh ?_;have H:p.first=xs[k].key:=by have:=DZ p.first xs[k].key;rw[dT (nN (oF B))]at this;exact oT this.symm
    obtain rfl:o=none:=g.2 (by omega);refine BB (k+1,Mn,some (Bi p none)) ⟨by show k+1<=xs.length;omega,y.trans G,by simp,?_⟩ (hs:=?_)
    ·show A4 _ _ _=A4 _ (some (Bi p _)) _;rw[f];exact Hm d z (by rw[<-f];simp[Aq,C,H])
    intro w h;refine(h.fewer ?_:St _ _ _ w);first|exact .refl _|exact .cons _ (.refl _)|exact .cons _ (.cons _ (.refl _))|exact .cons _ (.cons _ (.cons _ (.refl _)))|exact .cons _ (.cons _ (.cons _ (.cons _ (.refl _))))|exact .cons _ (.cons _ (.cons _ (.cons _ (.cons _ (.refl _)))))
   exfalso;omega
  refine gr ?_;show Value.agg (Nr Cq).toArray=_;rw[Dx d z (by first|(rw[<-f];simp[Aq,C];done)|(rw[<-f];simp[Aq,show ¬p.first=xs[k].key from λe=>oT B (by rw[e])];done)|(obtain⟨q,rfl⟩:=Option.ne_none_iff_exists'.1 (λe=>by have:=g.1 e;omega:o≠none);rw[<-f];simp[Aq,show Ap q.last p.first=false from E]))]
 refine gr ?_;show Value.agg (Nr (o.getD Cq)).toArray=_;rw[Yb (by omega) z]
theorem QD(s:Sto)(b:Au s)(h g f:Nat):∀(l:Nat)(ys:List It)(v:Value)(M:Mem),CE M s h g f->NS M v ys->NdOk (l:Int) ys->
  Sg 307 #[.agg #[iL (l:Int),v],pB h,pB g,pB f] M [] λu _ _=>u=.agg (Nr (A4 (AR s l) none ys)).toArray
 |0,ys,v,M,e,j,d=>by
  obtain⟨a,c,i,rfl,n,k,m,o⟩:=j;exact Yg s b h g f ys a c i M e n k m o d
 |l+1,ys,v,M,e,j,d=>by
  obtain⟨a,c,i,rfl,n,k,m,o⟩:=j;exact Yf s b h g f ys a c i M e n k m o l ((l+1:Nat):Int) (by omega) d (QD s b h g f l)
def AN(s:Sto)(root:Int):Int×Int:=
 if Au s then
  if root<8\/256<=root then (0,2)
  else if s.now.getD root.toNat 0=0 then (0,6)
  else match Ag s root.toNat with
   |none=>(0,8)
   |some (lv,xs)=>if A1 s lv.toNat xs then (lv+1,0)else (0,8)
 else (0,8)
theorem Hb{root:Int}(h:Au s)(b:¬(root<8\/256<=root))(c:¬s.now.getD root.toNat 0=0):AN s root=match Ag s root.toNat with
  |none=>(0,8)
  |some (a,xs)=>if A1 s a.toNat xs then (a+1,0)else (0,8):=by
 grind[AN]
theorem H1(s:Sto)(root:Int)(V F G lv:Value)(M:Mem)(h1:LS M V s.blocks)(h2:WS M F s.waits)(P:BS M G s.now)(h4:BS M lv s.last):
  Sg 256 #[.agg #[V,F,G,lv],iL root] M [] λu _ L'=>u=.tuple #[iL (AN s root).1,iL (AN s root).2]:=by
 have y:ST M (.agg #[V,F,G,lv]) s:=⟨_,_,_,_,rfl,h1,h2,P,h4⟩;refine sB func256 ntmps256 ?_;intro W;refine ga λZ=>?_;refine gQ (CC s _ M y) ?_;refine gj (λC=>?_) λC=>?_
 ·refine gr ?_;grind[Au,AN,Dz]
 refine gj (λR=>?_) λR=>?_
 ·refine gr ?_;grind[Au,Dz,AN]
 refine gj (λQ=>?_) λQ=>?_
 ·refine gr ?_;grind[Au,Dz,AN]
 refine gh ?_;have b:Au s:=Classical.byContradiction λk=>C (by unfold Dz;rw[iN k];decide);have J:s.now.length=256:=b.2.1.1;have ab:s.waits.length<=4096:=b.1.2.1;obtain⟨na,nc,rfl,ac,I⟩:=id P;obtain⟨nb,no,e0,H⟩:=I.open (by intro e;have:=cA length e;rw[Ac,length_nil]at this;omega);subst e0;obtain⟨k,rfl⟩:∃k:Nat,root=k:=⟨root.toNat,by omega⟩;refine gh ?_;refine lq (Aw rfl rfl rfl rfl ((H _ _ (by rw[mO];exact B5 (j:=k) (by omega))).cj _)) ?_;refine gj (λi=>?_) λi=>?_
 ·refine gr ?_;unfold AN;rw[iP b,iN (by omega),iP (UInt8.toNat.inj (by simpa using i))]
 refine gc (Lh s _ M y (by omega) (by omega)) ?_;rintro _ M1 B w;have d:=w M1 (mR) B;obtain⟨pb,_,_,_,_,rfl,_⟩:=id d.ex;refine ga λY=>?_;refine gc (Et s k _ M1 b (by omega) d) ?_;rintro _ Mn z K;obtain⟨D,ya,yn,yc,e,rfl,c⟩:=BnPost.form K;refine gA λb8=>?_;refine gj (λO=>?_) λO=>?_
 ·refine gr ?_;rw[Hb b (by omega) (λe=>i (by rw[show s.now.getD k 0=0 from e];rfl))];grind
 refine gA λX=>?_;refine gj (λN=>?_) λN=>?_
 ·refine jp rfl ?_;refine AA Z (by simp) ?_;intro Mg h U;refine AA Y (by simp) ?_;intro Mh g T;refine AA X (by simp) ?_;intro Mi f S;have o:CE Mi s Z Y X:=⟨⟨_,_,_,_,f _ _ (g _ _ U),(P.mono ((B.trans z).trans (h.trans (g.trans f))))⟩,⟨_,f _ _ T,d.mono (z.trans (h.trans (g.trans f)))⟩,S⟩;refine lq (Aw rfl rfl rfl rfl (CM.cj ⟨_,_,_,o.cl,rfl⟩ _)) ?_;refine gh ?_;obtain⟨_,a⟩|⟨rfl,E,a,rfl,m⟩:=c
  ·omega
  have n:=Ar a;have ad:=n.lev;obtain⟨l,rfl⟩:∃l:Nat,D=l:=⟨D.toNat,by omega⟩;refine gQ (QD s b Z Y X l E _ Mi o (m.mono (h.trans (g.trans f))) n) ?_;refine BK rfl rfl (wHp rfl rfl rfl rfl rfl) (λL=>?_) (λL=>?_)
  ·refine gr ?_;grind[Hb,Ag,A1]
  refine gr ?_;grind[Hb,Ag,A1,A4,AR]
 refine gh ?_;have aa:0<=D/\D<6:=by
  obtain⟨_,a⟩|⟨_,E,a,_,_⟩:=c
  ·omega
  exact(Ar a).lev
 refine gr ?_;obtain⟨he,a⟩|⟨rfl,E,a,rfl,m⟩:=c
 ·omega
 simp_all [Hb,Ag,A1]
def B0(f:It->List It)(q:Ky):List It->List It
 |[]=>[]
 |x::xs=>(match xs with|[]=>f x|y::_=>if Ap q y.key then f x else [])++B0 f q xs
def Bs(s:Sto)(q:Ky):Nat->List It->List It
 |0,xs=>xs.filter λx=> !Ap x.key q
 |l+1,xs=>B0 (λx=>Bs s q l (kid s x)) q xs
def KEn(y:It)(M:Mem)(vs:List Value):Prop:=∃va vc,vs=[.agg (EL y va vc).toArray]/\y.val.length<=vc/\SM M va (Aa y.val)
structure CF(M:Mem)(s:Sto)(q:Ky)(l c1 c2 c3 c4:Nat):Prop where
 bn:∃p,M c1=some (cE [pB p] 70)/\BN M (pB p) s
 fr:M c2=some (cE (Az q) 92)
 yi:M c3=some (cE [.func (.yield l) #[] #[]] 427)
 cl:M c4=some (cE [.func (.func 317) #[] #[pB c1,pB c2,pB c3,pB c4]] 208)
variable{M:Mem}{l:Nat}{s:Sto}
theorem CF.mono{M':Mem}{q:Ky}{e d c b:Nat}(h:CF M s q l e d c b)(a:MLe M M'):CF M' s q l e d c b:=by
 obtain⟨⟨p,k,j⟩,i,g,f⟩:=h;exact⟨⟨p,a _ _ k,j.mono a⟩,a _ _ i,a _ _ g,a _ _ f⟩
variable{f:It->List It}{j:Nat}{xs:List It}
theorem wEi{q:Ky}(a:j+1<xs.length)(h:Ap q xs[j+1].key=true):B0 f q (xs.drop j)=f xs[j]++B0 f q (xs.drop (j+1)):=by
 rw[drop_eq_getElem_cons (show j<xs.length by omega),drop_eq_getElem_cons a,B0];simp[h]
theorem Yc{q:Ky}(a:j+1<xs.length)(h:Ap q xs[j+1].key=false):B0 f q (xs.drop j)=B0 f q (xs.drop (j+1)):=by
 rw[drop_eq_getElem_cons (show j<xs.length by omega),drop_eq_getElem_cons a,B0];simp[h]
theorem VT{q:Ky}(a:j<xs.length)(b:¬j+1<xs.length):B0 f q (xs.drop j)=f xs[j]++B0 f q (xs.drop (j+1)):=by
 rw[drop_eq_getElem_cons a,List.drop_eq_nil_of_le (show xs.length<=j+1 by omega)];simp[B0]
variable{α:Type}
theorem wYf{b r a:List α}{x:α}(h:b++(x::r)<+:a):b++[x]<+:a:=by
 refine List.IsPrefix.trans ?_ h;simp_all
def wVb(P:Program)(s:Sto)(q:Ky)(l c1 c2 c3 c4:Nat)(all:List It)(J Jx:List It->Mem->Lc->Prop)(M0:Mem)(lev:Nat):Prop:=
 ∀(k:Nat)(xs:List It)(pre:List It)(M:Mem)(L:Lc),k<256->Ag s k=some ((lev:Int),xs)->A1 s lev xs->MLe M0 M->CF M s q l c1 c2 c3 c4->J pre M L->pre++Bs s q lev xs<+:all->
  SpecL P 317 #[iL k,pB c1,pB c2,pB c3,pB c4] M L λv M' L'=>(v=.bool true/\J (pre++Bs s q lev xs) M' L')\/(v=.bool false/\∃pre',pre'<+:all/\Jx pre' M' L')
theorem wEx(s:Sto)(T:Au s)(q:Ky)(G c1 c2 c3 c4:Nat)(F:List It)(J Jx:List It->Mem->Lc->Prop)(M0:Mem)(z:∀b M2 M3 L2,MLe M2 M3->J b M2 L2->J b M3 L2)(hJ:∀b y M2 L2 vs,MLe M0 M2->J b M2 L2->b++[y]<+:F->KEn y M2 vs->D7 prog G vs.toArray M2 L2 λv L L'=>(v=.bool true/\J (b++[y]) L L')\/(v=.bool false/\Jx (b++[y]) L L'))(k:Nat)(xs b:List It)(M:Mem)(L0:Lc)(B:k<256)(H:Ag s k=some (0,xs))(ag:A1 s (0) xs)(ab:MLe M0 M)(I:CF M s q G c1 c2 c3 c4)(ac:J b M L0)(n:b++Bs s q (0) xs<+:F):
  Sg 317 #[iL k,pB c1,pB c2,pB c3,pB c4] M L0 λv L L'=>(v=.bool true/\J (b++Bs s q (0) xs) L L')\/(v=.bool false/\∃m,m<+:F/\Jx m L L'):=by
 have u:=Ar H;have ah:=u.lev;have ae:=u.len;refine sB func317 ntmps317 ?_;intro W;refine gh ?_;obtain⟨bp,K,Y⟩:=I.bn;refine lq (Aw rfl rfl rfl rfl (CM.cj ⟨_,_,_,K,rfl⟩ _)) ?_;refine gc (Et s k _ M T B Y) ?_;rintro _ Mn D C;obtain⟨sl,rfl,V⟩:=(by unfold BnPost at C;rw[H]at C;exact C:∃sl,_/\NS Mn sl xs);obtain⟨a,c,ps,rfl,hc,hs,O,hb⟩:=V;simp only[nil_append];refine ga λb7=>?_;refine Cy (α:=Nat×Mem×Lc×List It) (λx=>[(1,pB c1),(2,pB c2),(3,pB c3),(4,pB c4),(7,pB b7),(19,.slice a xs.length c),(20,iL xs.length),(21,iL x.1)]) (λx=>x.2.1) (λx=>(b7,cE [iL 0,.slice a xs.length c] 81)::x.2.2.1) (λx=>x.1<=xs.length/\MLe Mn x.2.1/\J x.2.2.2 x.2.1 x.2.2.1/\x.2.2.2++(xs.drop x.1).filter (λx=> !Ap x.key q)=b++Bs s q 0 xs) (λx=>xs.length-x.1) (0,Mn,L0,b) ⟨zL,mR,z _ _ _ _ D ac,rfl⟩ ?_;rintro⟨j,Mk,Lk,P⟩ ⟨hj,d,E,f⟩;try dsimp only at hj d E f⊢
 refine gj (λad=>?_) λad=>?_
 ·refine gh ?_;have g:j<xs.length:=by omega
  have U:=hs.mono d;have Z:=λp O=>(hb p O).mono d;obtain⟨sb,so,e0,hx⟩:=U.open (by intro e;have:=cA length e;rw[Af Ad 5 Ae,length_nil]at this;have h2:=cA length O;rw[length_map]at h2;omega);subst e0;obtain⟨va,vc,X,R,Q⟩:=Av hx O Z g;have af:=u.ref xs[j] (getElem_mem g);have o:=I.mono (D.trans d);refine gh ?_;refine lq (A0 (cs:=EL xs[j] va vc) rfl rfl rfl rfl rfl (λi v S=>(X i v S).cj _)) ?_;refine gA λai=>?_;refine gt ?_;refine lq (A0 (cs:=Az q) rfl rfl rfl rfl rfl (λi v S=>CM.cj ⟨_,_,_,o.fr,by simpa using S⟩ _)) ?_;refine BK rfl rfl (Dc rfl rfl rfl rfl rfl (by kernel_rfl) (Ch xs[j].key q _)) (λl=>?_) (λl=>?_)
  ·refine gh ?_;refine BB (j+1,Mk,Lk,P) ⟨by show j+1<=xs.length;omega,d,E,?_⟩;show _++(xs.drop (j+1)).filter (λx=> !Ap x.key q)=_;rw[<-f,drop_eq_getElem_cons g,List.filter_cons_of_neg (by simp[l])]
  refine gh ?_;refine lq (Aw rfl rfl rfl rfl (CM.cj ⟨_,_,_,o.yi,rfl⟩ _)) ?_;refine gh ?_;refine lh (KF rfl rfl rfl rfl (hJ P xs[j] Mk Lk _ (ab.trans (D.trans d)) E (by rw[drop_eq_getElem_cons g,List.filter_cons_of_pos (by simp[l])]at f;rw[<-f]at n;exact wYf n) ⟨va,vc,rfl,R,Q⟩)) ?_;rintro _ Mf _ ⟨aa,R',rfl,N⟩;rcases N with⟨rfl,N⟩|⟨rfl,N⟩
  ·refine gh ?_;refine BB (j+1,Mf,R',P++[xs[j]]) ⟨by show j+1<=xs.length;omega,d.trans aa,N,?_⟩ (hs:=λw h=>(h.perm List.perm_append_comm).fewer (by simp));show _++(xs.drop (j+1)).filter (λx=> !Ap x.key q)=_;rw[<-f,drop_eq_getElem_cons g,List.filter_cons_of_pos (by simp[l])];simp
  refine gh ?_;refine AE (L':=R') (by simp) ?_;refine GK rfl rfl ?_;rw[drop_eq_getElem_cons g,List.filter_cons_of_pos (by simp[l])]at f;grind[wYf]
 refine gh ?_;refine AE (L':=Lk) (by simp) ?_;refine GK rfl rfl ?_;grind
theorem wEw(s:Sto)(ag:Au s)(q:Ky)(I c1 c2 c3 c4:Nat)(G:List It)(J Jx:List It->Mem->Lc->Prop)(M0:Mem)(N:∀b M2 M3 L2,MLe M2 M3->J b M2 L2->J b M3 L2)(hJ:∀b y M2 L2 vs,MLe M0 M2->J b M2 L2->b++[y]<+:G->KEn y M2 vs->D7 prog I vs.toArray M2 L2 λv M' L'=>(v=.bool true/\J (b++[y]) M' L')\/(v=.bool false/\Jx (b++[y]) M' L'))(l:Nat)(lv:Int)(ay:lv=(l:Int)+1)(ih:wVb prog s q I c1 c2 c3 c4 G J Jx M0 l)(k:Nat)(xs b:List It)(M:Mem)(L0:Lc)(P:k<256)(Y:Ag s k=some (lv,xs))(V:A1 s ((l+1)) xs)(ad:MLe M0 M)(aa:CF M s q I c1 c2 c3 c4)(am:J b M L0)(m:b++Bs s q ((l+1)) xs<+:G):
  Sg 317 #[iL k,pB c1,pB c2,pB c3,pB c4] M L0 λv M' L'=>(v=.bool true/\J (b++Bs s q ((l+1)) xs) M' L')\/(v=.bool false/\∃H,H<+:G/\Jx H M' L'):=by
 have z:=Ar Y;have ax:=z.lev;have aq:=z.len;refine sB func317 ntmps317 ?_;intro W;refine gh ?_;obtain⟨bp,ab,al⟩:=aa.bn;refine lq (Aw rfl rfl rfl rfl (CM.cj ⟨_,_,_,ab,rfl⟩ _)) ?_;refine gc (Et s k _ M ag P al) ?_;rintro _ Mn E R;obtain⟨sl,rfl,ai⟩:=(by unfold BnPost at R;rw[Y]at R;exact R:∃sl,_/\NS Mn sl xs);obtain⟨a,c,ps,rfl,hc,hs,X,hb⟩:=ai;simp only[nil_append];refine ga λb7=>?_;refine Cy (α:=Nat×Mem×Lc×List It) (λx=>[(1,pB c1),(2,pB c2),(3,pB c3),(4,pB c4),(7,pB b7),(19,.slice a xs.length c),(20,iL xs.length),(21,iL x.1)]) (λx=>x.2.1) (λx=>(b7,cE [iL lv,.slice a xs.length c] 81)::x.2.2.1) (λx=>x.1<=xs.length/\MLe Mn x.2.1/\J x.2.2.2 x.2.1 x.2.2.1/\x.2.2.2++B0 (λx=>Bs s q l (kid s x)) q (xs.drop x.1)=b++Bs s q (l+1) xs) (λx=>xs.length-x.1) (0,Mn,L0,b) ⟨zL,mR,N _ _ _ _ E am,rfl⟩ ?_;rintro⟨j,Mk,Lk,T⟩ ⟨hj,d,F,u⟩;try dsimp only at hj d F u⊢
 refine gj (λap=>?_) λap=>?_
 ·refine gh ?_;have g:j<xs.length:=by omega
  have ah:=hs.mono d;have ac:=λp X=>(hb p X).mono d;obtain⟨sb,so,e0,hx⟩:=ah.open (by intro e;have:=cA length e;rw[Af Ad 5 Ae,length_nil]at this;have h2:=cA length X;rw[length_map]at h2;omega);subst e0;obtain⟨va,vc,aj,aw,av⟩:=Av hx X ac g;have au:=z.ref xs[j] (getElem_mem g);have f:=aa.mono (E.trans d);refine gh ?_;refine lq (A0 (cs:=EL xs[j] va vc) rfl rfl rfl rfl rfl (λi v o=>(aj i v o).cj _)) ?_;refine gA λaz=>?_;refine gt ?_;refine Qp [0,1,2,3,4,5,6,7,8,9,10,11,12,13,14,15,16,17,18] ?_;refine gj (λao=>?_) λao=>?_
  ·refine gh ?_;refine dq rfl (A0 (cs:=Az q) rfl rfl rfl rfl rfl (λi v o=>CM.cj ⟨_,_,_,f.fr,by simpa using o⟩ _)) ?_;refine dq rfl (Ah rfl rfl rfl rfl rfl) ?_;refine dq rfl (Aw rfl rfl rfl rfl (CJ.loc rfl)) ?_;refine dp rfl rfl ?_;refine da rfl rfl (by omega) ?_;have Z:j+1<xs.length:=by omega
   obtain⟨wa,wc,ak,-,-⟩:=Av hx X ac Z;refine dq rfl (Bo (FN rfl rfl rfl rfl (by omega)) (v':=.pointer (some ⟨sb,so+(j+1)*5,none⟩)) (by congr 3)) ?_;refine gh ?_;refine dq rfl (A0 (cs:=Az xs[j+1].key) rfl rfl rfl rfl rfl (λi v o=>(ak i v (by match i,o with|0,o=>simpa [Az]using o|1,o=>simpa [Az]using o|2,o=>simpa [Az]using o|n+3,o=>simp[Az]at o)).cj _)) ?_;refine Sq rfl rfl rfl (Dc rfl rfl rfl rfl rfl (by kernel_rfl) (Ch q xs[j+1].key _)) (λae=>?_) (λae=>?_)
   ·refine gh ?_;refine lq (Aw rfl rfl rfl rfl (CM.cj ⟨_,_,_,f.cl,rfl⟩ _)) ?_;refine gh ?_;have af:=z.up (by omega) xs[j] (getElem_mem g);have O:((xs[j].ref.toNat:Nat):Int)=xs[j].ref:=Int.toNat_of_nonneg (by omega);obtain⟨C,L,U,K⟩:=BE V (getElem_mem g);have B:kid s xs[j]=C:=by grind[kid]
    have Q:B0 (λx=>Bs s q l (kid s x)) q (xs.drop j)=Bs s q l C++B0 (λx=>Bs s q l (kid s x)) q (xs.drop (j+1)):=(wEi Z ae).trans (by rw[B]);rw[Q]at u;refine lh (BU rfl rfl rfl rfl rfl (by kernel_rfl) (by have:=ih xs[j].ref.toNat C T Mk Lk (by omega) L K (ad.trans (E.trans d)) f F (by rw[<-u,<-List.append_assoc]at m;exact(List.prefix_append _ _).trans m);rwa[O]at this)) ?_;rintro _ Mf _ ⟨S,R',rfl,D⟩;rcases D with⟨rfl,D⟩|⟨rfl,D⟩
    ·refine gh ?_;refine BB (j+1,Mf,R',T++Bs s q l C) ⟨by show j+1<=xs.length;omega,d.trans S,D,?_⟩ (hs:=λw h=>(h.perm List.perm_append_comm).fewer (by simp));grind
    refine gh ?_;refine AE (L':=R') (by simp) ?_;refine GK rfl rfl ?_;grind
   refine gh ?_;refine BB (j+1,Mk,Lk,T) ⟨by show j+1<=xs.length;omega,d,F,?_⟩;grind[B0,Bs,kid,Yc]
  refine gh ?_;refine lq (Aw rfl rfl rfl rfl (CM.cj ⟨_,_,_,f.cl,rfl⟩ _)) ?_;refine gh ?_;have af:=z.up (by omega) xs[j] (getElem_mem g);have O:((xs[j].ref.toNat:Nat):Int)=xs[j].ref:=Int.toNat_of_nonneg (by omega);obtain⟨C,L,U,K⟩:=BE V (getElem_mem g);have B:kid s xs[j]=C:=by grind[kid]
  have Q:B0 (λx=>Bs s q l (kid s x)) q (xs.drop j)=Bs s q l C++B0 (λx=>Bs s q l (kid s x)) q (xs.drop (j+1)):=(VT g (by omega)).trans (by rw[B]);rw[Q]at u;refine lh (BU rfl rfl rfl rfl rfl (by kernel_rfl) (by have:=ih xs[j].ref.toNat C T Mk Lk (by omega) L K (ad.trans (E.trans d)) f F (by rw[<-u,<-List.append_assoc]at m;exact(List.prefix_append _ _).trans m);rwa[O]at this)) ?_;rintro _ Mf _ ⟨S,R',rfl,D⟩;rcases D with⟨rfl,D⟩|⟨rfl,D⟩
  ·refine gh ?_;refine BB (j+1,Mf,R',T++Bs s q l C) ⟨by show j+1<=xs.length;omega,d.trans S,D,?_⟩ (hs:=λw h=>(h.perm List.perm_append_comm).fewer (by simp));grind
  refine gh ?_;refine AE (L':=R') (by simp) ?_;refine GK rfl rfl ?_;grind
 refine gh ?_;refine AE (L':=Lk) (by simp) ?_;refine GK rfl rfl ?_;grind[B0]
theorem SL(s:Sto)(g:Au s)(q:Ky)(c B z w u:Nat)(e:List It)(J o:List It->Mem->Lc->Prop)(n:Mem)(b:∀a M2 F L2,MLe M2 F->J a M2 L2->J a F L2)(E:∀a y M2 L2 vs,MLe n M2->J a M2 L2->a++[y]<+:e->KEn y M2 vs->D7 prog c vs.toArray M2 L2 λv G H=>(v=.bool true/\J (a++[y]) G H)\/(v=.bool false/\o (a++[y]) G H)):∀C,wVb prog s q c B z w u e J o n C
 |0=>λk xs a M L D h f j i m d=>wEx s g q c B z w u e J o n b E k xs a M L D h f j i m d
 |l+1=>λk xs a M L D h f j i m d=>wEw s g q c B z w u e J o n b E l ((l+1:Nat):Int) (by omega) (SL s g q c B z w u e J o n b E l) k xs a M L D h f j i m d
theorem XX(s:Sto)(n:Au s)(q:Ky)(k b:Nat)(xs:List It)(j:k<256)(F:Ag s k=some ((b:Int),xs))(E:A1 s b xs)(Z B Y:Nat)(v1:Value)(M:Mem)(O C D lv:Value)(K:M Z=some (cE [O,C,D,lv] 28))(N:ST M (.agg [O,C,D,lv].toArray) s)(I:M B=some (cE (Az q) 92))(H:M Y=some (cE [iL (k:Int)] 3))(d:Nat)(J V:List It->Mem->Lc->Prop)(m:Mem)(U:Lc)(z:MLe M m)(e:∀a M2 S L2,MLe M2 S->J a M2 L2->J a S L2)(hJ:∀a y M2 L2 vs,MLe m M2->J a M2 L2->a++[y]<+:Bs s q b xs->KEn y M2 vs->D7 prog d vs.toArray M2 L2 λv w L'=>(v=.bool true/\J (a++[y]) w L')\/(v=.bool false/\V (a++[y]) w L'))(h0:J [] m U):
  Sg 316 #[.func (.yield d) #[] #[],pB Z,pB B,pB Y] m U λ_ w L'=>J (Bs s q b xs) w L'\/∃a,a<+:Bs s q b xs/\V a w L':=by
 refine sB func316 ntmps316 ?_;intro W;refine gh ?_;refine lh (Bz (cs:=[.func (.yield d) #[] #[]]) rfl rfl rfl rfl) ?_;rintro _ _ _ ⟨R,rfl,rfl,rfl⟩;refine gh ?_;obtain⟨⟨_,aa,_,_⟩,⟨G,_⟩,_⟩:=id n;refine lq (A0 (cs:=[O,C,D,lv]) rfl rfl rfl rfl rfl (λi v hv=>CM.cj ⟨_,_,_,z _ _ K,by simpa using hv⟩ _)) ?_;refine gc (Lh s _ m (N.mono z) (by omega) (by omega)) ?_;rintro _ T h o;have g:=o T (mR) h;obtain⟨pb,_,_,_,_,rfl,_⟩:=id g.ex;simp only[nil_append];refine lh (AW rfl rfl) ?_;rintro _ _ _ ⟨Q,rfl,rfl,rfl⟩;refine Dv rfl (Ak rfl rfl rfl rfl rfl rfl rfl rfl) ?_;rintro _ _ _ ⟨rfl,rfl⟩;refine Am (jT (Ao (Aj ?_)));refine lh (AW rfl rfl) ?_;rintro _ _ _ ⟨P,rfl,rfl,rfl⟩;refine Am (jT (Ao (Aj ?_)));refine jp rfl ?_;refine Dv rfl (Ak rfl rfl rfl rfl rfl rfl rfl rfl) ?_;rintro _ _ _ ⟨rfl,rfl⟩;refine Am (jT (Aj ?_));refine KA R (by simp +contextual) ?_;intro S u e4;refine KA Q (by simp +contextual) ?_;intro M4 l e5;refine KA P (by simp +contextual) ?_;intro M5 f X;have c:=h.trans (u.trans (l.trans f));have L:CF M5 s q d Q B R P:=⟨⟨pb,f _ _ e5,g.mono (u.trans (l.trans f))⟩,c _ _ (z _ _ I),f _ _ (l _ _ e4),X⟩;refine lq (Aw rfl rfl rfl rfl (CM.cj ⟨_,_,_,X,rfl⟩ _)) ?_;refine lq (Aw rfl rfl rfl rfl (CM.cj ⟨_,_,_,c _ _ (z _ _ H),rfl⟩ _)) ?_;refine lh (hC (SL s n q d Q B R P (Bs s q b xs) J V m e hJ b k xs [] M5 U j F E c L (e _ _ _ _ c h0) (by rw[nil_append];exact List.prefix_rfl))) ?_;rintro _ Mf _ ⟨ab,R',rfl,hy⟩;refine gh ?_;refine XR ?_;refine AE (L':=R') (by simp) ?_;refine NT (rs:=[]) rfl .nil ?_;grind
def place(xs:List It)(k:Ky):Nat:=(xs.filter λx=>Ap x.key k).length
def Fy(xs:List It)(k:Ky):Bool:=decide ((xs[place xs k]?).map (·.key)=some k)
variable{j:Nat}{k:Ky}{xs:List It}
theorem GU(h:j<xs.length):place (xs.take (j+1)) k=place (xs.take j) k+(if Ap xs[j].key k then 1 else 0):=by
 unfold place;rw[List.take_succ_eq_append_getElem h,List.filter_append,List.length_append];grind
theorem HH(xs:List It)(k:Ky):place xs k<=xs.length:=List.length_filter_le _ _
theorem Fj(lv:Int)(xs:List It)(q:Ky)(a:Option Addr)(c:Nat)(ps:List (It×Value))(M:Mem)(J:xs.length<=c)(hs:SM M a (ps.flatMap Ad))(j:ps.map (·.1)=xs)(D:∀p∈ps,BS M p.2 p.1.val)(I:xs.length<=100):
  Sg 308 #[.agg #[iL lv,.slice a xs.length c],.agg (Az q).toArray] M [] λv _ _=>v=.tuple #[iL (place xs q),.bool (Fy xs q)]:=by
 refine sB func308 ntmps308 ?_;intro W;refine JM λF E=>?_;refine Cy (α:=Nat) (λk=>[(2,pB F),(3,pB E),(4,iL (place (xs.take k) q)),(9,.slice a xs.length c),(10,iL xs.length),(11,iL k)]) (λ_=>M) (λ_=>[(E,cE [iB q.kind,iU q.id,iU q.off] 92),(F,cE [iL lv,.slice a xs.length c] 81)]) (λk=>k<=xs.length) (λk=>xs.length-k) 0 (zL) ?_;rintro k hk;try dsimp only at hk⊢
 have g:=HH (xs.take k) q;rw[List.length_take]at g;refine gj (λu=>?_) λu=>?_
 ·refine gh ?_;have d:k<xs.length:=by omega
  obtain⟨H,G,z,l⟩:=hs.open (by intro e;have:=cA length e;rw[Af Ad 5 Ae,length_nil]at this;have y:=cA length j;rw[length_map]at y;omega);subst z;obtain⟨C,B,h,o,m⟩:=Av l j D d;refine gh ?_;refine lq (A0 (cs:=EL xs[k] C B) rfl rfl rfl rfl rfl (λi v b=>(h i v b).cj _)) ?_;refine gA λK=>?_;refine BK rfl rfl (Dc rfl rfl rfl rfl rfl (by kernel_rfl) (Ch xs[k].key q M)) (λf=>?_) (λf=>?_)
  ·refine gh ?_;refine BB (k+1) (by omega) (hk:=(kC (t:=2) rfl (kC (t:=3) rfl (Keep.ceq (t:=4) rfl (by first|(rw[GU d,iP f];rfl)|(rw[GU d,iN (by simp[f])];rfl)) (kC (t:=9) rfl (kC (t:=10) rfl (kC (t:=11) rfl Keep.nil)))))))
  refine gh ?_;refine BB (k+1) (by omega) (hk:=(kC (t:=2) rfl (kC (t:=3) rfl (Keep.ceq (t:=4) rfl (by first|(rw[GU d,iP f];rfl)|(rw[GU d,iN (by simp[f])];rfl)) (kC (t:=9) rfl (kC (t:=10) rfl (kC (t:=11) rfl Keep.nil)))))))
 refine gh ?_;refine Qp [0,1,2,3,4,5,6,7,8,9,10,11,12,13,14,15,16,17] ?_;refine gg ?_;obtain rfl:k=xs.length:=by omega
 rw[List.take_length];rw[List.take_length]at g;refine gj (λw=>?_) λw=>?_
 ·refine gh ?_;have s:place xs q<xs.length:=by omega
  obtain⟨H,G,z,l⟩:=hs.open (by intro e;have:=cA length e;rw[Af Ad 5 Ae,length_nil]at this;have y:=cA length j;rw[length_map]at y;omega);subst z;obtain⟨C,B,h,o,m⟩:=Av l j D s;refine gh ?_;refine dq rfl (A0 (cs:=Az xs[place xs q].key) rfl rfl rfl rfl rfl (λi v b=>(h i v (by match i,b with|0,b=>simpa [Az]using b|1,b=>simpa [Az]using b|2,b=>simpa [Az]using b|n+3,b=>simp[Az]at b)).cj _)) ?_;refine gh ?_;refine dq rfl (wVx (ns:=[xs[place xs q].key.kind,xs[place xs q].key.id,xs[place xs q].key.off]) (ms:=[q.kind,q.id,q.off]) rfl rfl rfl rfl rfl rfl ⟨rfl,rfl⟩) ?_;refine gr ?_;grind[Fy,DZ]
 refine gr ?_;grind[Fy]
end Go.Proofs.YtjheijhahehnmaaGreatDoor
