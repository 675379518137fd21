/- Walks: where a key stands in a node. -/
import Derived.Test.YtjheijhahehnmaaGreatDoorZLoose
import Derived.Test.YtjheijhahehnmaaGreatDoorZHn
import Derived.Test.YtjheijhahehnmaaGreatDoorZSp
import Derived.Test.YtjheijhahehnmaaGreatDoorZNode
namespace Go.Proofs.YtjheijhahehnmaaGreatDoor
open Go.Proofs.Tryz
open List (length length_nil length_map getElem_mem mem_cons_of_mem drop_eq_getElem_cons nil_append)
set_option linter.unusedSimpArgs false
set_option linter.unusedVariables false
set_option linter.unusedSectionVars false
set_option maxHeartbeats 40000000
set_option maxRecDepth 8000
open Go.RowKit
variable{Lb:Lc}{M:Mem}{bb:Nat}{s:Sto}
theorem BOwn.bn(h:BOwn M bb Lb s)(I:(Lb.map (·.1)).Nodup)(z:∀p∈Lb,M p.1=none):BN (Ev M Lb) (pB bb) s:=by
 have d:=PJ z;have H:∀p∈Lb,Ev M Lb p.1=some p.2:=λp f=>Gp I f;obtain⟨D,B,F,E,C,P,Q,S,N,L,K,k,m,l,j⟩:=h;have w:∀p∈(bb,cE [D,B,.slice F s.now.length E,C] Ew)::(P++Q),Ev M Lb p.1=some p.2:=by grind
 refine⟨bb,D,B,_,C,rfl,w (bb,_) List.mem_cons_self,N.mono d,?_,?_,L.mono d⟩
 ·rcases j with j|⟨rfl,J,O,rfl,g,n⟩
  ·obtain ⟨a,c,rfl,y,o⟩:=j.lent (M:=Ev M Lb) (λp f=>w p (by simp[f]));exact⟨a,c,k,rfl,y,o,m,λp f=>(l p f).mono d⟩
  refine⟨_,_,k,rfl,Nat.le_refl _,?_,m,λp f=>(l p f).mono d⟩;rcases g with z|g
  ·exact .inl z
  obtain⟨b,of,R⟩:=O;simp only at g;subst g;exact .inr ⟨b,of,rfl,λi u G=>(n i u G).mono d⟩
 obtain⟨a,c,e,y,o⟩:=K.lent (M:=Ev M Lb) (λp f=>w p (by simp[f]));cases e;exact⟨_,_,rfl,y,o⟩
theorem NB(s:Sto)(k f:Nat)(hk:k<256)(d:Av s)(M:Mem)(a:Lc)(h:BOwn M f a s):SpecL prog 85 #[pB f,.int .i64 k] M a λu b c=>BnPost s k u b/\c=a:=by
 have:=SpecL.lend (R:=a) (L:=[]) (post:=λu b c=>BnPost s k u (Cn (Ev M a) b)/\c=[]) (λe i=>TF s k _ (Ev M a) d hk (h.bn e i));rw[List.append_nil]at this;refine this.mono ?_;rintro u b c ⟨j,l,⟨g,rfl⟩,rfl,rfl,e⟩;exact⟨g.mono (wFe e),by simp⟩
structure CE(M:Mem)(s:Sto)(b1 b2 b3:Nat):Prop where
 st:∃bv wv nv lv,M b1=some (cE [bv,wv,nv,lv] 28)/\BS M nv s.now
 bn:∃v,M b2=some (cE [v] 70)/\BN M v s
 cl:M b3=some (cE [.func (.func 307) #[] #[pB b1,pB b2,pB b3]] 415)
variable{M:Mem}{b1:Nat}{s:Sto}
theorem CE.mono{M':Mem}{g f:Nat}(h:CE M s b1 g f)(e:MLe M M'):CE M' s b1 g f:=by
 obtain⟨⟨a,b,c,d,m,l⟩,⟨v,k,j⟩,i⟩:=h;exact⟨⟨a,b,c,d,e _ _ m,l.mono e⟩,⟨v,e _ _ k,j.mono e⟩,e _ _ i⟩
theorem Zj(s:Sto)(J:Av s)(X V U:Nat)(xs:List It)(a:Option Addr)(c:Nat)(ps:List (It×Value))(M:Mem)(Q:CE M s X V U)(hc:xs.length<=c)(hs:SM M a (ps.flatMap Ae))(H:ps.map (·.1)=xs)(hb:∀p∈ps,BS M p.2 p.1.val)(B:NdOk 0 xs):
  SpecL prog 307 #[.agg #[.int .i64 0,.slice a xs.length c],pB X,pB V,pB U] M [] λv _ _=>v=.agg (NQ (A6 (AR s 0) none xs)).toArray:=by
 have ae:=B.lev;have Z:=B.len;refine sB func307 ntmps307 ?_;intro W;refine W4 λb4 b5 b6=>?_;refine CC (α:=Nat×Mem×Option Sp) (λx=>[(1,pB X),(2,pB V),(3,pB U),(4,pB b4),(5,pB b5),(6,pB b6),(13,.slice a xs.length c),(14,.int .i64 xs.length),(15,.int .i64 x.1)]) (λx=>x.2.1) (λx=>[(b6,cE (NQ (x.2.2.getD Cu)) 417),(b5,cE (NQ Cu) 417),(b4,cE [.int .i64 0,.slice a xs.length c] 81)]) (λx=>x.1<=xs.length/\MLe M x.2.1/\(x.2.2=none↔x.1=0)/\A6 (AR s 0) none xs=A6 (AR s 0) x.2.2 (xs.drop x.1)) (λx=>xs.length-x.1) (0,M,none) ⟨Nat.zero_le _,MLe.refl _,by simp,rfl⟩ ?_;rintro⟨k,I,o⟩ ⟨hk,n,d,z⟩;try dsimp only at hk n d z⊢
 have G:=Q.mono n;have K:=hs.mono n;have R:=λp H=>(hb p H).mono n;refine gj (λS=>?_) λS=>?_
 ·refine gh ?_;have l:k<xs.length:=by omega
  obtain⟨sb,so,T,hx⟩:=K.open (by intro e;have:=congrArg length e;rw[Aj Ae 5 Ag,length_nil]at this;have h2:=congrArg length H;rw[length_map]at h2;omega);subst T;obtain⟨va,vc,P,ac,ab⟩:=Aw hx H R l;have aa:=B.ref xs[k] (getElem_mem l);refine gh ?_;refine lq (A1 (cs:=E1 xs[k] va vc) rfl rfl rfl rfl rfl (λi v hv=>(P i v hv).cj _)) ?_;refine ga λb8=>?_;refine QQ [0,1,2,3,4,5,6,7,8,9,10,11,12,13,14,15,16,117,118] ?_;refine gj (λD=>?_) λD=>?_
  ·refine gh ?_;refine GP rfl rfl rfl (AX rfl rfl) ?_;rintro _ _ _ ⟨b9,rfl,rfl,rfl⟩;refine Cv (MLe.refl _) (λ_ h=>mem_cons_of_mem _ h) (by first|exact MLe.refl _|assumption) (by simp) ?_;refine DF rfl rfl (Ao rfl rfl rfl rfl rfl rfl rfl rfl) ?_;rintro _ _ _ ⟨rfl,rfl⟩;refine Cv (MLe.refl _) (λ_ h=>mem_cons_of_mem _ h) (by first|exact MLe.refl _|assumption) (by simp) ?_;refine gt ?_;obtain⟨p,b⟩:∃p:Sp,p=AR s 0 xs[k]:=⟨_,rfl⟩;rw[show ([.int .u8 xs[k].key.kind,.int .u32 xs[k].key.id,.int .u32 xs[k].key.off,.int .u8 xs[k].key.kind,.int .u32 xs[k].key.id,.int .u32 xs[k].key.off,.bool true]:List Value)=NQ p by rw[b];simp[NQ,AR,D]];refine BP rfl rfl (Au rfl rfl rfl rfl (CJ.loc rfl)) (λg=>?_) (λg=>?_)
   ·refine gg ?_;refine BP rfl rfl (VX (ns:=[p.first.kind,p.first.id,p.first.off]) (ms:=[xs[k].key.kind,xs[k].key.id,xs[k].key.off]) rfl rfl rfl rfl rfl rfl ⟨rfl,rfl⟩) (λf=>?_) (λf=>?_)
    ·refine gr ?_;show Value.agg (NQ Cu).toArray=_;rw[DG l z (by first|(rw[<-b];simp[Aq,g];done)|(rw[<-b];simp[Aq,show ¬p.first=xs[k].key from λe=>of_decide_eq_true f (by rw[e])];done)|(obtain⟨q,rfl⟩:=Option.ne_none_iff_exists'.1 (λe=>by have:=d.1 e;omega:o≠none);rw[<-b];simp[Aq,show Ap q.last p.first=false from m]))]
    refine gj (λC=>?_) λC=>?_
    ·refine gg ?_;refine BP rfl rfl (CZ rfl rfl rfl rfl rfl (by kernel_rfl) (Ck (o.getD Cu).last p.first _)) (λm=>?_) (λm=>?_)
     ·refine gj (λy=>?_) λy=>?_
      ·exfalso;omega
      refine gh ?_;have u:p.first=xs[k].key:=by have:=Ed p.first xs[k].key;rw[decide_eq_true (Classical.not_not.1 (of_decide_eq_false f))]at this;exact of_decide_eq_true this.symm
      obtain⟨q,rfl⟩:∃q,o=some q:=by
        cases o with
        |none=>have:=d.1 rfl;omega
        |some q=>exact⟨q,rfl⟩
      refine BD (k+1,I,some (Bk p (some q))) ⟨by show k+1<=xs.length;omega,n,by simp,?_⟩ (hs:=?_)
      ·show A6 _ _ _=A6 _ (some (Bk p _)) _;rw[b];exact HH l z (by rw[<-b];simp[Aq,g,<-u,show Ap q.last p.first=true from m])
      intro w h;refine(h.fewer ?_:St _ _ _ w);first|exact .refl _|exact .cons _ (.refl _)|exact .cons _ (.cons _ (.refl _))|exact .cons _ (.cons _ (.cons _ (.refl _)))|exact .cons _ (.cons _ (.cons _ (.cons _ (.refl _))))|exact .cons _ (.cons _ (.cons _ (.cons _ (.cons _ (.refl _)))))
     refine gr ?_;show Value.agg (NQ Cu).toArray=_;rw[DG l z (by first|(rw[<-b];simp[Aq,g];done)|(rw[<-b];simp[Aq,show ¬p.first=xs[k].key from λe=>of_decide_eq_true f (by rw[e])];done)|(obtain⟨q,rfl⟩:=Option.ne_none_iff_exists'.1 (λe=>by have:=d.1 e;omega:o≠none);rw[<-b];simp[Aq,show Ap q.last p.first=false from m]))]
    refine gj (λy=>?_) λy=>?_
    ·refine gh ?_;have u:p.first=xs[k].key:=by have:=Ed p.first xs[k].key;rw[decide_eq_true (Classical.not_not.1 (of_decide_eq_false f))]at this;exact of_decide_eq_true this.symm
     obtain rfl:o=none:=d.2 (by omega);refine BD (k+1,I,some (Bk p none)) ⟨by show k+1<=xs.length;omega,n,by simp,?_⟩ (hs:=?_)
     ·show A6 _ _ _=A6 _ (some (Bk p _)) _;rw[b];exact HH l z (by rw[<-b];simp[Aq,g,u])
     intro w h;refine(h.fewer ?_:St _ _ _ w);first|exact .refl _|exact .cons _ (.refl _)|exact .cons _ (.cons _ (.refl _))|exact .cons _ (.cons _ (.cons _ (.refl _)))|exact .cons _ (.cons _ (.cons _ (.cons _ (.refl _))))|exact .cons _ (.cons _ (.cons _ (.cons _ (.cons _ (.refl _)))))
    exfalso;omega
   refine gr ?_;show Value.agg (NQ Cu).toArray=_;rw[DG l z (by first|(rw[<-b];simp[Aq,g];done)|(rw[<-b];simp[Aq,show ¬p.first=xs[k].key from λe=>of_decide_eq_true f (by rw[e])];done)|(obtain⟨q,rfl⟩:=Option.ne_none_iff_exists'.1 (λe=>by have:=d.1 e;omega:o≠none);rw[<-b];simp[Aq,show Ap q.last p.first=false from m]))]
  refine gh ?_;obtain⟨bv,wv,nv,lw,E,F⟩:=G.st;obtain⟨na,nc,rfl,ad,N⟩:=F;have O:s.now.length=256:=J.2.1.1;obtain⟨nb,no,T,L⟩:=N.open (by intro e;have:=congrArg length e;rw[Ad,length_nil]at this;omega);subst T;refine dq rfl (Au rfl rfl rfl rfl (CM.cj ⟨_,_,_,E,rfl⟩ _)) ?_;refine gh ?_;have Y:0<=xs[k].ref/\xs[k].ref<256:=by omega
  refine gh ?_;refine dq rfl (Au rfl rfl rfl rfl ((L _ _ (by rw[Nat.mul_one];exact Ca (j:=xs[k].ref.toNat) (by omega))).cj _)) ?_;refine gh ?_;refine GP rfl rfl rfl (AX rfl rfl) ?_;rintro _ _ _ ⟨b9,rfl,rfl,rfl⟩;refine Cv (MLe.refl _) (λ_ h=>mem_cons_of_mem _ h) (by first|exact MLe.refl _|assumption) (by simp) ?_;refine DF rfl rfl (Ao rfl rfl rfl rfl rfl rfl rfl rfl) ?_;rintro _ _ _ ⟨rfl,rfl⟩;refine Cv (MLe.refl _) (λ_ h=>mem_cons_of_mem _ h) (by first|exact MLe.refl _|assumption) (by simp) ?_;refine gt ?_;obtain⟨p,b⟩:∃p:Sp,p=AR s 0 xs[k]:=⟨_,rfl⟩;rw[show ([.int .u8 xs[k].key.kind,.int .u32 xs[k].key.id,.int .u32 xs[k].key.off,.int .u8 xs[k].key.kind,.int .u32 xs[k].key.id,.int .u32 xs[k].key.off,.bool (decide (0<((s.now.getD xs[k].ref.toNat 0).toNat:Int)))]:List Value)=NQ p by rw[b];simp[NQ,AR,D]];refine BP rfl rfl (Au rfl rfl rfl rfl (CJ.loc rfl)) (λg=>?_) (λg=>?_)
  ·refine gg ?_;refine BP rfl rfl (VX (ns:=[p.first.kind,p.first.id,p.first.off]) (ms:=[xs[k].key.kind,xs[k].key.id,xs[k].key.off]) rfl rfl rfl rfl rfl rfl ⟨rfl,rfl⟩) (λf=>?_) (λf=>?_)
   ·refine gr ?_;show Value.agg (NQ Cu).toArray=_;rw[DG l z (by first|(rw[<-b];simp[Aq,g];done)|(rw[<-b];simp[Aq,show ¬p.first=xs[k].key from λe=>of_decide_eq_true f (by rw[e])];done)|(obtain⟨q,rfl⟩:=Option.ne_none_iff_exists'.1 (λe=>by have:=d.1 e;omega:o≠none);rw[<-b];simp[Aq,show Ap q.last p.first=false from m]))]
   refine gj (λC=>?_) λC=>?_
   ·refine gg ?_;refine BP rfl rfl (CZ rfl rfl rfl rfl rfl (by kernel_rfl) (Ck (o.getD Cu).last p.first _)) (λm=>?_) (λm=>?_)
    ·refine gj (λy=>?_) λy=>?_
     ·exfalso;omega
     refine gh ?_;have u:p.first=xs[k].key:=by have:=Ed p.first xs[k].key;rw[decide_eq_true (Classical.not_not.1 (of_decide_eq_false f))]at this;exact of_decide_eq_true this.symm
     obtain⟨q,rfl⟩:∃q,o=some q:=by
       cases o with
       |none=>have:=d.1 rfl;omega
       |some q=>exact⟨q,rfl⟩
     refine BD (k+1,I,some (Bk p (some q))) ⟨by show k+1<=xs.length;omega,n,by simp,?_⟩ (hs:=?_)
     ·show A6 _ _ _=A6 _ (some (Bk p _)) _;rw[b];exact HH l z (by rw[<-b];simp[Aq,g,<-u,show Ap q.last p.first=true from m])
     intro w h;refine(h.fewer ?_:St _ _ _ w);first|exact .refl _|exact .cons _ (.refl _)|exact .cons _ (.cons _ (.refl _))|exact .cons _ (.cons _ (.cons _ (.refl _)))|exact .cons _ (.cons _ (.cons _ (.cons _ (.refl _))))|exact .cons _ (.cons _ (.cons _ (.cons _ (.cons _ (.refl _)))))
    refine gr ?_;show Value.agg (NQ Cu).toArray=_;rw[DG l z (by first|(rw[<-b];simp[Aq,g];done)|(rw[<-b];simp[Aq,show ¬p.first=xs[k].key from λe=>of_decide_eq_true f (by rw[e])];done)|(obtain⟨q,rfl⟩:=Option.ne_none_iff_exists'.1 (λe=>by have:=d.1 e;omega:o≠none);rw[<-b];simp[Aq,show Ap q.last p.first=false from m]))]
   refine gj (λy=>?_) λy=>?_
   ·refine gh ?_;have u:p.first=xs[k].key:=by have:=Ed p.first xs[k].key;rw[decide_eq_true (Classical.not_not.1 (of_decide_eq_false f))]at this;exact of_decide_eq_true this.symm
    obtain rfl:o=none:=d.2 (by omega);refine BD (k+1,I,some (Bk p none)) ⟨by show k+1<=xs.length;omega,n,by simp,?_⟩ (hs:=?_)
    ·show A6 _ _ _=A6 _ (some (Bk p _)) _;rw[b];exact HH l z (by rw[<-b];simp[Aq,g,u])
    intro w h;refine(h.fewer ?_:St _ _ _ w);first|exact .refl _|exact .cons _ (.refl _)|exact .cons _ (.cons _ (.refl _))|exact .cons _ (.cons _ (.cons _ (.refl _)))|exact .cons _ (.cons _ (.cons _ (.cons _ (.refl _))))|exact .cons _ (.cons _ (.cons _ (.cons _ (.cons _ (.refl _)))))
   exfalso;omega
  refine gr ?_;show Value.agg (NQ Cu).toArray=_;rw[DG l z (by first|(rw[<-b];simp[Aq,g];done)|(rw[<-b];simp[Aq,show ¬p.first=xs[k].key from λe=>of_decide_eq_true f (by rw[e])];done)|(obtain⟨q,rfl⟩:=Option.ne_none_iff_exists'.1 (λe=>by have:=d.1 e;omega:o≠none);rw[<-b];simp[Aq,show Ap q.last p.first=false from m]))]
 refine gr ?_;show Value.agg (NQ (o.getD Cu)).toArray=_;rw[Ze (by omega) z]
theorem Zi(s:Sto)(O:Av s)(Y X V:Nat)(xs:List It)(a:Option Addr)(c:Nat)(ps:List (It×Value))(M:Mem)(ah:CE M s Y X V)(hc:xs.length<=c)(hs:SM M a (ps.flatMap Ae))(Z:ps.map (·.1)=xs)(hb:∀p∈ps,BS M p.2 p.1.val)(l:Nat)(lv:Int)(a1:lv=(l:Int)+1)(D:NdOk lv xs)(ih:∀(F:List It)(v:Value)(M:Mem),CE M s Y X V->NS M v F->NdOk (l:Int) F->SpecL prog 307 #[.agg #[.int .i64 (l:Int),v],pB Y,pB X,pB V] M [] λu _ _=>u=.agg (NQ (A6 (AR s l) none F)).toArray):
  SpecL prog 307 #[.agg #[.int .i64 lv,.slice a xs.length c],pB Y,pB X,pB V] M [] λv _ _=>v=.agg (NQ (A6 (AR s (l+1)) none xs)).toArray:=by
 have a0:=D.lev;have au:=D.len;refine sB func307 ntmps307 ?_;intro W;refine W4 λb4 b5 b6=>?_;refine CC (α:=Nat×Mem×Option Sp) (λx=>[(1,pB Y),(2,pB X),(3,pB V),(4,pB b4),(5,pB b5),(6,pB b6),(13,.slice a xs.length c),(14,.int .i64 xs.length),(15,.int .i64 x.1)]) (λx=>x.2.1) (λx=>[(b6,cE (NQ (x.2.2.getD Cu)) 417),(b5,cE (NQ Cu) 417),(b4,cE [.int .i64 lv,.slice a xs.length c] 81)]) (λx=>x.1<=xs.length/\MLe M x.2.1/\(x.2.2=none↔x.1=0)/\A6 (AR s (l+1)) none xs=A6 (AR s (l+1)) x.2.2 (xs.drop x.1)) (λx=>xs.length-x.1) (0,M,none) ⟨Nat.zero_le _,MLe.refl _,by simp,rfl⟩ ?_;rintro⟨k,Mk,o⟩ ⟨hk,y,g,z⟩;try dsimp only at hk y g z⊢
 have m:=ah.mono y;have aa:=hs.mono y;have ak:=λp Z=>(hb p Z).mono y;refine gj (λap=>?_) λap=>?_
 ·refine gh ?_;have d:k<xs.length:=by omega
  obtain⟨sb,so,e0,hx⟩:=aa.open (by intro e;have:=congrArg length e;rw[Aj Ae 5 Ag,length_nil]at this;have h2:=congrArg length Z;rw[length_map]at h2;omega);subst e0;obtain⟨va,vc,ag,ax,aw⟩:=Aw hx Z ak d;have av:=D.ref xs[k] (getElem_mem d);refine gh ?_;refine lq (A1 (cs:=E1 xs[k] va vc) rfl rfl rfl rfl rfl (λi v hv=>(ag i v hv).cj _)) ?_;refine ga λb8=>?_;refine QQ [0,1,2,3,4,5,6,7,8,9,10,11,12,13,14,15,16,117,118] ?_;refine gj (λU=>?_) λU=>?_
  ·exfalso;exact D.up (by omega) xs[k] (getElem_mem d) U
  refine gh ?_;obtain⟨bv,wv,nv,lw,N,Q⟩:=m.st;obtain⟨na,nc,rfl,az,ac⟩:=Q;have ae:s.now.length=256:=O.2.1.1;obtain⟨nb,no,e0,ab⟩:=ac.open (by intro e;have:=congrArg length e;rw[Ad,length_nil]at this;omega);subst e0;refine dq rfl (Au rfl rfl rfl rfl (CM.cj ⟨_,_,_,N,rfl⟩ _)) ?_;refine gh ?_;have aq:0<=xs[k].ref/\xs[k].ref<256:=by omega
  refine gh ?_;refine dq rfl (Au rfl rfl rfl rfl ((ab _ _ (by rw[Nat.mul_one];exact Ca (j:=xs[k].ref.toNat) (by omega))).cj _)) ?_;refine gh ?_;refine GP rfl rfl rfl (AX rfl rfl) ?_;rintro _ _ _ ⟨b9,rfl,rfl,rfl⟩;refine Cv (MLe.refl _) (λ_ h=>mem_cons_of_mem _ h) (by first|exact MLe.refl _|assumption) (by simp) ?_;refine DF rfl rfl (Ao rfl rfl rfl rfl rfl rfl rfl rfl) ?_;rintro _ _ _ ⟨rfl,rfl⟩;refine Cv (MLe.refl _) (λ_ h=>mem_cons_of_mem _ h) (by first|exact MLe.refl _|assumption) (by simp) ?_;refine gt ?_;obtain⟨bp,S,ai⟩:=m.bn;refine lq (Au rfl rfl rfl rfl (CM.cj ⟨_,_,_,S,rfl⟩ _)) ?_;refine gh ?_;have ay:=D.up (by omega) xs[k] (getElem_mem d);have af:((xs[k].ref.toNat:Nat):Int)=xs[k].ref:=Int.toNat_of_nonneg (by omega);refine gc (by have:=EI s xs[k].ref.toNat bp Mk O (by omega) ai;rwa[af]at this) ?_;rintro _ Mn H aj;obtain⟨nl,ya,yn,yc,e,rfl,n⟩:=BnPost.form aj;refine gA λa2=>?_;refine gj (λao=>?_) λao=>?_
  ·refine gr ?_;show Value.agg (NQ Cu).toArray=_;obtain⟨R,b⟩|⟨R,F,b,L,G⟩:=n
   ·rw [DG d z (MX b)]
   rw[DG d z (MW b (by omega))]
  refine gj (λam=>?_) λam=>?_
  ·refine gr ?_;show Value.agg (NQ Cu).toArray=_;obtain⟨R,b⟩|⟨R,F,b,L,G⟩:=n
   ·rw [DG d z (MX b)]
   rw[DG d z (MW b (by omega))]
  refine gj (λT=>?_) λT=>?_
  ·refine gr ?_;show Value.agg (NQ Cu).toArray=_;obtain⟨R,b⟩|⟨R,F,b,L,G⟩:=n
   ·rw [DG d z (MX b)]
   rw[DG d z (MW b (by intro hh;exact hh.2 (List.eq_nil_of_length_eq_zero (by omega))))]
  refine gh ?_;refine lq (Au rfl rfl rfl rfl (CM.cj ⟨_,_,_,(m.mono H).cl,rfl⟩ _)) ?_;refine gh ?_;obtain⟨_,b⟩|⟨rfl,F,b,rfl,G⟩:=n
  ·omega
  have ad:nl=(l:Int):=by omega
  subst ad;have K:F≠[]:=λe=>T (by rw[e];rfl);refine gQ (ih F _ Mn (m.mono H) G (Ar b)) ?_;obtain⟨p,f⟩:∃p:Sp,p=AR s (l+1) xs[k]:=⟨_,rfl⟩;have P:A6 (AR s l) none F=p:=by rw[f];simp only[AR];rw[b];exact(if_pos ⟨by omega,K⟩).symm
  rw[P];refine BP rfl rfl (Au rfl rfl rfl rfl (CJ.loc rfl)) (λC=>?_) (λC=>?_)
  ·refine gg ?_;refine BP rfl rfl (VX (ns:=[p.first.kind,p.first.id,p.first.off]) (ms:=[xs[k].key.kind,xs[k].key.id,xs[k].key.off]) rfl rfl rfl rfl rfl rfl ⟨rfl,rfl⟩) (λB=>?_) (λB=>?_)
   ·refine gr ?_;show Value.agg (NQ Cu).toArray=_;rw[DG d z (by first|(rw[<-f];simp[Aq,C];done)|(rw[<-f];simp[Aq,show ¬p.first=xs[k].key from λe=>of_decide_eq_true B (by rw[e])];done)|(obtain⟨q,rfl⟩:=Option.ne_none_iff_exists'.1 (λe=>by have:=g.1 e;omega:o≠none);rw[<-f];simp[Aq,show Ap q.last p.first=false from E]))]
   refine gj (λal=>?_) λal=>?_
   ·refine gg ?_;refine BP rfl rfl (CZ rfl rfl rfl rfl rfl (by kernel_rfl) (Ck (o.getD Cu).last p.first _)) (λE=>?_) (λE=>?_)
    ·refine gj (λJ=>?_) λJ=>?_
     ·exfalso;omega
     refine gh ?_;have I:p.first=xs[k].key:=by have:=Ed p.first xs[k].key;rw[decide_eq_true (Classical.not_not.1 (of_decide_eq_false B))]at this;exact of_decide_eq_true this.symm
     obtain⟨q,rfl⟩:∃q,o=some q:=by
       cases o with
       |none=>have:=g.1 rfl;omega
       |some q=>exact⟨q,rfl⟩
     refine BD (k+1,Mn,some (Bk p (some q))) ⟨by show k+1<=xs.length;omega,y.trans H,by simp,?_⟩ (hs:=?_)
     ·show A6 _ _ _=A6 _ (some (Bk p _)) _;rw[f];exact HH d z (by rw[<-f];simp[Aq,C,<-I,show Ap q.last p.first=true from E])
     intro w h;refine(h.fewer ?_:St _ _ _ w);first|exact .refl _|exact .cons _ (.refl _)|exact .cons _ (.cons _ (.refl _))|exact .cons _ (.cons _ (.cons _ (.refl _)))|exact .cons _ (.cons _ (.cons _ (.cons _ (.refl _))))|exact .cons _ (.cons _ (.cons _ (.cons _ (.cons _ (.refl _)))))
    refine gr ?_;show Value.agg (NQ Cu).toArray=_;rw[DG d z (by first|(rw[<-f];simp[Aq,C];done)|(rw[<-f];simp[Aq,show ¬p.first=xs[k].key from λe=>of_decide_eq_true B (by rw[e])];done)|(obtain⟨q,rfl⟩:=Option.ne_none_iff_exists'.1 (λe=>by have:=g.1 e;omega:o≠none);rw[<-f];simp[Aq,show Ap q.last p.first=false from E]))]
   refine gj (λJ=>?_) λJ=>?_
   ·refine gh ?_;have I:p.first=xs[k].key:=by have:=Ed p.first xs[k].key;rw[decide_eq_true (Classical.not_not.1 (of_decide_eq_false B))]at this;exact of_decide_eq_true this.symm
    obtain rfl:o=none:=g.2 (by omega);refine BD (k+1,Mn,some (Bk p none)) ⟨by show k+1<=xs.length;omega,y.trans H,by simp,?_⟩ (hs:=?_)
    ·show A6 _ _ _=A6 _ (some (Bk p _)) _;rw[f];exact HH d z (by rw[<-f];simp[Aq,C,I])
    intro w h;refine(h.fewer ?_:St _ _ _ w);first|exact .refl _|exact .cons _ (.refl _)|exact .cons _ (.cons _ (.refl _))|exact .cons _ (.cons _ (.cons _ (.refl _)))|exact .cons _ (.cons _ (.cons _ (.cons _ (.refl _))))|exact .cons _ (.cons _ (.cons _ (.cons _ (.cons _ (.refl _)))))
   exfalso;omega
  refine gr ?_;show Value.agg (NQ Cu).toArray=_;rw[DG d z (by first|(rw[<-f];simp[Aq,C];done)|(rw[<-f];simp[Aq,show ¬p.first=xs[k].key from λe=>of_decide_eq_true B (by rw[e])];done)|(obtain⟨q,rfl⟩:=Option.ne_none_iff_exists'.1 (λe=>by have:=g.1 e;omega:o≠none);rw[<-f];simp[Aq,show Ap q.last p.first=false from E]))]
 refine gr ?_;show Value.agg (NQ (o.getD Cu)).toArray=_;rw[Ze (by omega) z]
theorem Q6(s:Sto)(d:Av s)(i h g:Nat):∀(l:Nat)(b:List It)(v:Value)(M:Mem),CE M s i h g->NS M v b->NdOk (l:Int) b->
  SpecL prog 307 #[.agg #[.int .i64 (l:Int),v],pB i,pB h,pB g] M [] λu _ _=>u=.agg (NQ (A6 (AR s l) none b)).toArray
 |0,b,v,M,f,k,e=>by
  obtain⟨a,c,j,rfl,o,m,n,w⟩:=k;exact Zj s d i h g b a c j M f o m n w e
 |l+1,b,v,M,f,k,e=>by
  obtain⟨a,c,j,rfl,o,m,n,w⟩:=k;exact Zi s d i h g b a c j M f o m n w l ((l+1:Nat):Int) (by omega) e (Q6 s d i h g l)
def AQ(s:Sto)(root:Int):Int×Int:=
 if Av s then
  if root<8\/256<=root then (0,2)
  else if s.now.getD root.toNat 0=0 then (0,6)
  else match Ak s root.toNat with
   |none=>(0,8)
   |some (lv,xs)=>if A3 s lv.toNat xs then (lv+1,0)else (0,8)
 else (0,8)
theorem Hv{root:Int}(h:Av s)(b:¬(root<8\/256<=root))(c:¬s.now.getD root.toNat 0=0):AQ s root=match Ak s root.toNat with
  |none=>(0,8)
  |some (a,xs)=>if A3 s a.toNat xs then (a+1,0)else (0,8):=by
 grind[AQ]
theorem Jo(s:Sto)(root:Int)(V F G lv:Value)(M:Mem)(h1:LS M V s.blocks)(h2:WS M F s.waits)(P:BS M G s.now)(h4:BS M lv s.last):
  SpecL prog 256 #[.agg #[V,F,G,lv],.int .i64 root] M [] λu _ L'=>u=.tuple #[.int .i64 (AQ s root).1,.int .i64 (AQ s root).2]:=by
 have y:ST M (.agg #[V,F,G,lv]) s:=⟨_,_,_,_,rfl,h1,h2,P,h4⟩;refine sB func256 ntmps256 ?_;intro W;refine ga λZ=>?_;refine gQ (CK s _ M y) ?_;refine gj (λC=>?_) λC=>?_
 ·refine gr ?_;grind[Av,AQ,DJ]
 refine gj (λR=>?_) λR=>?_
 ·refine gr ?_;grind[Av,DJ,AQ]
 refine gj (λQ=>?_) λQ=>?_
 ·refine gr ?_;grind[Av,DJ,AQ]
 refine gh ?_;have b:Av s:=Classical.byContradiction λk=>C (by unfold DJ;rw[if_neg k];decide);have J:s.now.length=256:=b.2.1.1;have ab:s.waits.length<=4096:=b.1.2.1;obtain⟨na,nc,rfl,ac,I⟩:=id P;obtain⟨nb,no,e0,H⟩:=I.open (by intro e;have:=congrArg length e;rw[Ad,length_nil]at this;omega);subst e0;obtain⟨k,rfl⟩:∃k:Nat,root=k:=⟨root.toNat,by omega⟩;refine gh ?_;refine lq (Au rfl rfl rfl rfl ((H _ _ (by rw[Nat.mul_one];exact Ca (j:=k) (by omega))).cj _)) ?_;refine gj (λi=>?_) λi=>?_
 ·refine gr ?_;unfold AQ;rw[if_pos b,if_neg (by omega),if_pos (UInt8.toNat.inj (by simpa using i))]
 refine gc (LJ s _ M y (by omega) (by omega)) ?_;rintro _ M1 B w;have d:=w M1 (MLe.refl _) B;obtain⟨pb,_,_,_,_,rfl,_⟩:=id d.ex;refine ga λY=>?_;refine gc (EI s k _ M1 b (by omega) d) ?_;rintro _ Mn z K;obtain⟨D,ya,yn,yc,e,rfl,c⟩:=BnPost.form K;refine gA λb8=>?_;refine gj (λO=>?_) λO=>?_
 ·refine gr ?_;rw[Hv b (by omega) (λe=>i (by rw[show s.now.getD k 0=0 from e];rfl))];grind
 refine gA λX=>?_;refine gj (λN=>?_) λN=>?_
 ·refine jp rfl ?_;refine Az Z (by simp) ?_;intro Mg h U;refine Az Y (by simp) ?_;intro Mh g T;refine Az X (by simp) ?_;intro Mi f S;have o:CE Mi s Z Y X:=⟨⟨_,_,_,_,f _ _ (g _ _ U),(P.mono ((B.trans z).trans (h.trans (g.trans f))))⟩,⟨_,f _ _ T,d.mono (z.trans (h.trans (g.trans f)))⟩,S⟩;refine lq (Au rfl rfl rfl rfl (CM.cj ⟨_,_,_,o.cl,rfl⟩ _)) ?_;refine gh ?_;obtain⟨_,a⟩|⟨rfl,E,a,rfl,m⟩:=c
  ·omega
  have n:=Ar a;have ad:=n.lev;obtain⟨l,rfl⟩:∃l:Nat,D=l:=⟨D.toNat,by omega⟩;refine gQ (Q6 s b Z Y X l E _ Mi o (m.mono (h.trans (g.trans f))) n) ?_;refine BP rfl rfl (wLi rfl rfl rfl rfl rfl) (λL=>?_) (λL=>?_)
  ·refine gr ?_;grind[Hv,Ak,A3]
  refine gr ?_;grind[Hv,Ak,A3,A6,AR]
 refine gh ?_;have aa:0<=D/\D<6:=by
  obtain⟨_,a⟩|⟨_,E,a,_,_⟩:=c
  ·omega
  exact(Ar a).lev
 refine gr ?_;obtain⟨he,a⟩|⟨rfl,E,a,rfl,m⟩:=c
 ·omega
 simp_all [Hv,Ak,A3]
def B4(f:It->List It)(q:Ky):List It->List It
 |[]=>[]
 |x::xs=>(match xs with|[]=>f x|y::_=>if Ap q y.key then f x else [])++B4 f q xs
def Bx(s:Sto)(q:Ky):Nat->List It->List It
 |0,xs=>xs.filter λx=> !Ap x.key q
 |l+1,xs=>B4 (λx=>Bx s q l (kid s x)) q xs
def KEn(y:It)(M:Mem)(vs:List Value):Prop:=∃va vc,vs=[.agg (E1 y va vc).toArray]/\y.val.length<=vc/\SM M va (Aa y.val)
structure CF(M:Mem)(s:Sto)(q:Ky)(l c1 c2 c3 c4:Nat):Prop where
 bn:∃p,M c1=some (cE [pB p] 70)/\BN M (pB p) s
 fr:M c2=some (cE (AA q) 92)
 yi:M c3=some (cE [.func (.yield l) #[] #[]] 427)
 cl:M c4=some (cE [.func (.func 317) #[] #[pB c1,pB c2,pB c3,pB c4]] 208)
variable{M:Mem}{l:Nat}{s:Sto}
theorem CF.mono{M':Mem}{q:Ky}{e d c b:Nat}(h:CF M s q l e d c b)(a:MLe M M'):CF M' s q l e d c b:=by
 obtain⟨⟨p,k,j⟩,i,g,f⟩:=h;exact⟨⟨p,a _ _ k,j.mono a⟩,a _ _ i,a _ _ g,a _ _ f⟩
variable{f:It->List It}{j:Nat}{xs:List It}
theorem wGw{q:Ky}(a:j+1<xs.length)(h:Ap q xs[j+1].key=true):B4 f q (xs.drop j)=f xs[j]++B4 f q (xs.drop (j+1)):=by
 rw[drop_eq_getElem_cons (show j<xs.length by omega),drop_eq_getElem_cons a,B4];simp[h]
theorem Zf{q:Ky}(a:j+1<xs.length)(h:Ap q xs[j+1].key=false):B4 f q (xs.drop j)=B4 f q (xs.drop (j+1)):=by
 rw[drop_eq_getElem_cons (show j<xs.length by omega),drop_eq_getElem_cons a,B4];simp[h]
theorem WX{q:Ky}(a:j<xs.length)(b:¬j+1<xs.length):B4 f q (xs.drop j)=f xs[j]++B4 f q (xs.drop (j+1)):=by
 rw[drop_eq_getElem_cons a,List.drop_eq_nil_of_le (show xs.length<=j+1 by omega)];simp[B4]
variable{α:Type}
theorem SZ{b r a:List α}{x:α}(h:b++(x::r)<+:a):b++[x]<+:a:=by
 refine List.IsPrefix.trans ?_ h;simp_all
def wXw(P:Program)(s:Sto)(q:Ky)(l c1 c2 c3 c4:Nat)(all:List It)(J Jx:List It->Mem->Lc->Prop)(M0:Mem)(lev:Nat):Prop:=
 ∀(k:Nat)(xs:List It)(pre:List It)(M:Mem)(L:Lc),k<256->Ak s k=some ((lev:Int),xs)->A3 s lev xs->MLe M0 M->CF M s q l c1 c2 c3 c4->J pre M L->pre++Bx s q lev xs<+:all->
  SpecL P 317 #[.int .i64 k,pB c1,pB c2,pB c3,pB c4] M L λv M' L'=>(v=.bool true/\J (pre++Bx s q lev xs) M' L')\/(v=.bool false/\∃pre',pre'<+:all/\Jx pre' M' L')
theorem wHm(s:Sto)(T:Av s)(q:Ky)(G c1 c2 c3 c4:Nat)(F:List It)(J Jx:List It->Mem->Lc->Prop)(M0:Mem)(z:∀b M2 M3 L2,MLe M2 M3->J b M2 L2->J b M3 L2)(hJ:∀b y M2 L2 vs,MLe M0 M2->J b M2 L2->b++[y]<+:F->KEn y M2 vs->Em prog G vs.toArray M2 L2 λv L L'=>(v=.bool true/\J (b++[y]) L L')\/(v=.bool false/\Jx (b++[y]) L L'))(k:Nat)(xs b:List It)(M:Mem)(L0:Lc)(B:k<256)(H:Ak s k=some (0,xs))(ag:A3 s (0) xs)(ab:MLe M0 M)(I:CF M s q G c1 c2 c3 c4)(ac:J b M L0)(n:b++Bx s q (0) xs<+:F):
  SpecL prog 317 #[.int .i64 k,pB c1,pB c2,pB c3,pB c4] M L0 λv L L'=>(v=.bool true/\J (b++Bx s q (0) xs) L L')\/(v=.bool false/\∃m,m<+:F/\Jx m L L'):=by
 have u:=Ar H;have ah:=u.lev;have ae:=u.len;refine sB func317 ntmps317 ?_;intro W;refine gh ?_;obtain⟨bp,K,Y⟩:=I.bn;refine lq (Au rfl rfl rfl rfl (CM.cj ⟨_,_,_,K,rfl⟩ _)) ?_;refine gc (EI s k _ M T B Y) ?_;rintro _ Mn D C;obtain⟨sl,rfl,V⟩:=(by unfold BnPost at C;rw[H]at C;exact C:∃sl,_/\NS Mn sl xs);obtain⟨a,c,ps,rfl,hc,hs,O,hb⟩:=V;simp only[nil_append];refine ga λb7=>?_;refine CC (α:=Nat×Mem×Lc×List It) (λx=>[(1,pB c1),(2,pB c2),(3,pB c3),(4,pB c4),(7,pB b7),(19,.slice a xs.length c),(20,.int .i64 xs.length),(21,.int .i64 x.1)]) (λx=>x.2.1) (λx=>(b7,cE [.int .i64 0,.slice a xs.length c] 81)::x.2.2.1) (λx=>x.1<=xs.length/\MLe Mn x.2.1/\J x.2.2.2 x.2.1 x.2.2.1/\x.2.2.2++(xs.drop x.1).filter (λx=> !Ap x.key q)=b++Bx s q 0 xs) (λx=>xs.length-x.1) (0,Mn,L0,b) ⟨Nat.zero_le _,MLe.refl _,z _ _ _ _ D ac,rfl⟩ ?_;rintro⟨j,Mk,Lk,P⟩ ⟨hj,d,E,f⟩;try dsimp only at hj d E f⊢
 refine gj (λad=>?_) λad=>?_
 ·refine gh ?_;have g:j<xs.length:=by omega
  have U:=hs.mono d;have Z:=λp O=>(hb p O).mono d;obtain⟨sb,so,e0,hx⟩:=U.open (by intro e;have:=congrArg length e;rw[Aj Ae 5 Ag,length_nil]at this;have h2:=congrArg length O;rw[length_map]at h2;omega);subst e0;obtain⟨va,vc,X,R,Q⟩:=Aw hx O Z g;have af:=u.ref xs[j] (getElem_mem g);have o:=I.mono (D.trans d);refine gh ?_;refine lq (A1 (cs:=E1 xs[j] va vc) rfl rfl rfl rfl rfl (λi v S=>(X i v S).cj _)) ?_;refine gA λai=>?_;refine gt ?_;refine lq (A1 (cs:=AA q) rfl rfl rfl rfl rfl (λi v S=>CM.cj ⟨_,_,_,o.fr,by simpa using S⟩ _)) ?_;refine BP rfl rfl (CZ rfl rfl rfl rfl rfl (by kernel_rfl) (Ck xs[j].key q _)) (λl=>?_) (λl=>?_)
  ·refine gh ?_;refine BD (j+1,Mk,Lk,P) ⟨by show j+1<=xs.length;omega,d,E,?_⟩;show _++(xs.drop (j+1)).filter (λx=> !Ap x.key q)=_;rw[<-f,drop_eq_getElem_cons g,List.filter_cons_of_neg (by simp[l])]
  refine gh ?_;refine lq (Au rfl rfl rfl rfl (CM.cj ⟨_,_,_,o.yi,rfl⟩ _)) ?_;refine gh ?_;refine lh (K4 rfl rfl rfl rfl (hJ P xs[j] Mk Lk _ (ab.trans (D.trans d)) E (by rw[drop_eq_getElem_cons g,List.filter_cons_of_pos (by simp[l])]at f;rw[<-f]at n;exact SZ n) ⟨va,vc,rfl,R,Q⟩)) ?_;rintro _ Mf _ ⟨aa,R',rfl,N⟩;rcases N with⟨rfl,N⟩|⟨rfl,N⟩
  ·refine gh ?_;refine BD (j+1,Mf,R',P++[xs[j]]) ⟨by show j+1<=xs.length;omega,d.trans aa,N,?_⟩ (hs:=λw h=>(h.perm List.perm_append_comm).fewer (by simp));show _++(xs.drop (j+1)).filter (λx=> !Ap x.key q)=_;rw[<-f,drop_eq_getElem_cons g,List.filter_cons_of_pos (by simp[l])];simp
  refine gh ?_;refine AB (L':=R') (by simp) ?_;refine FX rfl rfl ?_;rw[drop_eq_getElem_cons g,List.filter_cons_of_pos (by simp[l])]at f;grind[SZ]
 refine gh ?_;refine AB (L':=Lk) (by simp) ?_;refine FX rfl rfl ?_;grind
theorem wHk(s:Sto)(ag:Av s)(q:Ky)(I c1 c2 c3 c4:Nat)(G:List It)(J Jx:List It->Mem->Lc->Prop)(M0:Mem)(N:∀b M2 M3 L2,MLe M2 M3->J b M2 L2->J b M3 L2)(hJ:∀b y M2 L2 vs,MLe M0 M2->J b M2 L2->b++[y]<+:G->KEn y M2 vs->Em prog I vs.toArray M2 L2 λv M' L'=>(v=.bool true/\J (b++[y]) M' L')\/(v=.bool false/\Jx (b++[y]) M' L'))(l:Nat)(lv:Int)(ay:lv=(l:Int)+1)(ih:wXw prog s q I c1 c2 c3 c4 G J Jx M0 l)(k:Nat)(xs b:List It)(M:Mem)(L0:Lc)(P:k<256)(Y:Ak s k=some (lv,xs))(V:A3 s ((l+1)) xs)(ad:MLe M0 M)(aa:CF M s q I c1 c2 c3 c4)(am:J b M L0)(m:b++Bx s q ((l+1)) xs<+:G):
  SpecL prog 317 #[.int .i64 k,pB c1,pB c2,pB c3,pB c4] M L0 λv M' L'=>(v=.bool true/\J (b++Bx s q ((l+1)) xs) M' L')\/(v=.bool false/\∃H,H<+:G/\Jx H M' L'):=by
 have z:=Ar Y;have ax:=z.lev;have aq:=z.len;refine sB func317 ntmps317 ?_;intro W;refine gh ?_;obtain⟨bp,ab,al⟩:=aa.bn;refine lq (Au rfl rfl rfl rfl (CM.cj ⟨_,_,_,ab,rfl⟩ _)) ?_;refine gc (EI s k _ M ag P al) ?_;rintro _ Mn E R;obtain⟨sl,rfl,ai⟩:=(by unfold BnPost at R;rw[Y]at R;exact R:∃sl,_/\NS Mn sl xs);obtain⟨a,c,ps,rfl,hc,hs,X,hb⟩:=ai;simp only[nil_append];refine ga λb7=>?_;refine CC (α:=Nat×Mem×Lc×List It) (λx=>[(1,pB c1),(2,pB c2),(3,pB c3),(4,pB c4),(7,pB b7),(19,.slice a xs.length c),(20,.int .i64 xs.length),(21,.int .i64 x.1)]) (λx=>x.2.1) (λx=>(b7,cE [.int .i64 lv,.slice a xs.length c] 81)::x.2.2.1) (λx=>x.1<=xs.length/\MLe Mn x.2.1/\J x.2.2.2 x.2.1 x.2.2.1/\x.2.2.2++B4 (λx=>Bx s q l (kid s x)) q (xs.drop x.1)=b++Bx s q (l+1) xs) (λx=>xs.length-x.1) (0,Mn,L0,b) ⟨Nat.zero_le _,MLe.refl _,N _ _ _ _ E am,rfl⟩ ?_;rintro⟨j,Mk,Lk,T⟩ ⟨hj,d,F,u⟩;try dsimp only at hj d F u⊢
 refine gj (λap=>?_) λap=>?_
 ·refine gh ?_;have g:j<xs.length:=by omega
  have ah:=hs.mono d;have ac:=λp X=>(hb p X).mono d;obtain⟨sb,so,e0,hx⟩:=ah.open (by intro e;have:=congrArg length e;rw[Aj Ae 5 Ag,length_nil]at this;have h2:=congrArg length X;rw[length_map]at h2;omega);subst e0;obtain⟨va,vc,aj,aw,av⟩:=Aw hx X ac g;have au:=z.ref xs[j] (getElem_mem g);have f:=aa.mono (E.trans d);refine gh ?_;refine lq (A1 (cs:=E1 xs[j] va vc) rfl rfl rfl rfl rfl (λi v o=>(aj i v o).cj _)) ?_;refine gA λaz=>?_;refine gt ?_;refine QQ [0,1,2,3,4,5,6,7,8,9,10,11,12,13,14,15,16,17,18] ?_;refine gj (λao=>?_) λao=>?_
  ·refine gh ?_;refine dq rfl (A1 (cs:=AA q) rfl rfl rfl rfl rfl (λi v o=>CM.cj ⟨_,_,_,f.fr,by simpa using o⟩ _)) ?_;refine dq rfl (Ac rfl rfl rfl rfl rfl) ?_;refine dq rfl (Au rfl rfl rfl rfl (CJ.loc rfl)) ?_;refine dp rfl rfl ?_;refine da rfl rfl (by omega) ?_;have Z:j+1<xs.length:=by omega
   obtain⟨wa,wc,ak,-,-⟩:=Aw hx X ac Z;refine dq rfl (Bh (EV rfl rfl rfl rfl (by omega)) (v':=.pointer (some ⟨sb,so+(j+1)*5,none⟩)) (by congr 3)) ?_;refine gh ?_;refine dq rfl (A1 (cs:=AA xs[j+1].key) rfl rfl rfl rfl rfl (λi v o=>(ak i v (by match i,o with|0,o=>simpa [AA]using o|1,o=>simpa [AA]using o|2,o=>simpa [AA]using o|n+3,o=>simp[AA]at o)).cj _)) ?_;refine Td rfl rfl rfl (CZ rfl rfl rfl rfl rfl (by kernel_rfl) (Ck q xs[j+1].key _)) (λae=>?_) (λae=>?_)
   ·refine gh ?_;refine lq (Au rfl rfl rfl rfl (CM.cj ⟨_,_,_,f.cl,rfl⟩ _)) ?_;refine gh ?_;have af:=z.up (by omega) xs[j] (getElem_mem g);have O:((xs[j].ref.toNat:Nat):Int)=xs[j].ref:=Int.toNat_of_nonneg (by omega);obtain⟨C,L,U,K⟩:=BJ V (getElem_mem g);have B:kid s xs[j]=C:=by grind[kid]
    have Q:B4 (λx=>Bx s q l (kid s x)) q (xs.drop j)=Bx s q l C++B4 (λx=>Bx s q l (kid s x)) q (xs.drop (j+1)):=(wGw Z ae).trans (by rw[B]);rw[Q]at u;refine lh (BV rfl rfl rfl rfl rfl (by kernel_rfl) (by have:=ih xs[j].ref.toNat C T Mk Lk (by omega) L K (ad.trans (E.trans d)) f F (by rw[<-u,<-List.append_assoc]at m;exact(List.prefix_append _ _).trans m);rwa[O]at this)) ?_;rintro _ Mf _ ⟨S,R',rfl,D⟩;rcases D with⟨rfl,D⟩|⟨rfl,D⟩
    ·refine gh ?_;refine BD (j+1,Mf,R',T++Bx s q l C) ⟨by show j+1<=xs.length;omega,d.trans S,D,?_⟩ (hs:=λw h=>(h.perm List.perm_append_comm).fewer (by simp));grind
    refine gh ?_;refine AB (L':=R') (by simp) ?_;refine FX rfl rfl ?_;grind
   refine gh ?_;refine BD (j+1,Mk,Lk,T) ⟨by show j+1<=xs.length;omega,d,F,?_⟩;grind[B4,Bx,kid,Zf]
  refine gh ?_;refine lq (Au rfl rfl rfl rfl (CM.cj ⟨_,_,_,f.cl,rfl⟩ _)) ?_;refine gh ?_;have af:=z.up (by omega) xs[j] (getElem_mem g);have O:((xs[j].ref.toNat:Nat):Int)=xs[j].ref:=Int.toNat_of_nonneg (by omega);obtain⟨C,L,U,K⟩:=BJ V (getElem_mem g);have B:kid s xs[j]=C:=by grind[kid]
  have Q:B4 (λx=>Bx s q l (kid s x)) q (xs.drop j)=Bx s q l C++B4 (λx=>Bx s q l (kid s x)) q (xs.drop (j+1)):=(WX g (by omega)).trans (by rw[B]);rw[Q]at u;refine lh (BV rfl rfl rfl rfl rfl (by kernel_rfl) (by have:=ih xs[j].ref.toNat C T Mk Lk (by omega) L K (ad.trans (E.trans d)) f F (by rw[<-u,<-List.append_assoc]at m;exact(List.prefix_append _ _).trans m);rwa[O]at this)) ?_;rintro _ Mf _ ⟨S,R',rfl,D⟩;rcases D with⟨rfl,D⟩|⟨rfl,D⟩
  ·refine gh ?_;refine BD (j+1,Mf,R',T++Bx s q l C) ⟨by show j+1<=xs.length;omega,d.trans S,D,?_⟩ (hs:=λw h=>(h.perm List.perm_append_comm).fewer (by simp));grind
  refine gh ?_;refine AB (L':=R') (by simp) ?_;refine FX rfl rfl ?_;grind
 refine gh ?_;refine AB (L':=Lk) (by simp) ?_;refine FX rfl rfl ?_;grind[B4]
theorem Tv(s:Sto)(g:Av s)(q:Ky)(c B z w u:Nat)(e:List It)(J o:List It->Mem->Lc->Prop)(n:Mem)(b:∀a M2 F L2,MLe M2 F->J a M2 L2->J a F L2)(E:∀a y M2 L2 vs,MLe n M2->J a M2 L2->a++[y]<+:e->KEn y M2 vs->Em prog c vs.toArray M2 L2 λv G H=>(v=.bool true/\J (a++[y]) G H)\/(v=.bool false/\o (a++[y]) G H)):∀C,wXw prog s q c B z w u e J o n C
 |0=>λk xs a M L D h f j i m d=>wHm s g q c B z w u e J o n b E k xs a M L D h f j i m d
 |l+1=>λk xs a M L D h f j i m d=>wHk s g q c B z w u e J o n b E l ((l+1:Nat):Int) (by omega) (Tv s g q c B z w u e J o n b E l) k xs a M L D h f j i m d
theorem Y0(s:Sto)(n:Av s)(q:Ky)(k b:Nat)(xs:List It)(j:k<256)(F:Ak s k=some ((b:Int),xs))(E:A3 s b xs)(Z B Y:Nat)(v1:Value)(M:Mem)(O C D lv:Value)(K:M Z=some (cE [O,C,D,lv] 28))(N:ST M (.agg [O,C,D,lv].toArray) s)(I:M B=some (cE (AA q) 92))(H:M Y=some (cE [.int .i64 (k:Int)] 3))(d:Nat)(J V:List It->Mem->Lc->Prop)(m:Mem)(U:Lc)(z:MLe M m)(e:∀a M2 S L2,MLe M2 S->J a M2 L2->J a S L2)(hJ:∀a y M2 L2 vs,MLe m M2->J a M2 L2->a++[y]<+:Bx s q b xs->KEn y M2 vs->Em prog d vs.toArray M2 L2 λv w L'=>(v=.bool true/\J (a++[y]) w L')\/(v=.bool false/\V (a++[y]) w L'))(h0:J [] m U):
  SpecL prog 316 #[.func (.yield d) #[] #[],pB Z,pB B,pB Y] m U λ_ w L'=>J (Bx s q b xs) w L'\/∃a,a<+:Bx s q b xs/\V a w L':=by
 refine sB func316 ntmps316 ?_;intro W;refine gh ?_;refine lh (Bt (cs:=[.func (.yield d) #[] #[]]) rfl rfl rfl rfl) ?_;rintro _ _ _ ⟨R,rfl,rfl,rfl⟩;refine gh ?_;obtain⟨⟨_,aa,_,_⟩,⟨G,_⟩,_⟩:=id n;refine lq (A1 (cs:=[O,C,D,lv]) rfl rfl rfl rfl rfl (λi v hv=>CM.cj ⟨_,_,_,z _ _ K,by simpa using hv⟩ _)) ?_;refine gc (LJ s _ m (N.mono z) (by omega) (by omega)) ?_;rintro _ T h o;have g:=o T (MLe.refl _) h;obtain⟨pb,_,_,_,_,rfl,_⟩:=id g.ex;simp only[nil_append];refine lh (AX rfl rfl) ?_;rintro _ _ _ ⟨Q,rfl,rfl,rfl⟩;refine DE rfl (Ao rfl rfl rfl rfl rfl rfl rfl rfl) ?_;rintro _ _ _ ⟨rfl,rfl⟩;refine Ai (jT (Ah (Af ?_)));refine lh (AX rfl rfl) ?_;rintro _ _ _ ⟨P,rfl,rfl,rfl⟩;refine Ai (jT (Ah (Af ?_)));refine jp rfl ?_;refine DE rfl (Ao rfl rfl rfl rfl rfl rfl rfl rfl) ?_;rintro _ _ _ ⟨rfl,rfl⟩;refine Ai (jT (Af ?_));refine KX R (by simp +contextual) ?_;intro S u e4;refine KX Q (by simp +contextual) ?_;intro M4 l e5;refine KX P (by simp +contextual) ?_;intro M5 f X;have c:=h.trans (u.trans (l.trans f));have L:CF M5 s q d Q B R P:=⟨⟨pb,f _ _ e5,g.mono (u.trans (l.trans f))⟩,c _ _ (z _ _ I),f _ _ (l _ _ e4),X⟩;refine lq (Au rfl rfl rfl rfl (CM.cj ⟨_,_,_,X,rfl⟩ _)) ?_;refine lq (Au rfl rfl rfl rfl (CM.cj ⟨_,_,_,c _ _ (z _ _ H),rfl⟩ _)) ?_;refine lh (hC (Tv s n q d Q B R P (Bx s q b xs) J V m e hJ b k xs [] M5 U j F E c L (e _ _ _ _ c h0) (by rw[nil_append];exact List.prefix_rfl))) ?_;rintro _ Mf _ ⟨ab,R',rfl,hy⟩;refine gh ?_;refine YU ?_;refine AB (L':=R') (by simp) ?_;refine Pi (rs:=[]) rfl .nil ?_;grind
def place(xs:List It)(k:Ky):Nat:=(xs.filter λx=>Ap x.key k).length
def FQ(xs:List It)(k:Ky):Bool:=decide ((xs[place xs k]?).map (·.key)=some k)
variable{j:Nat}{k:Ky}{xs:List It}
theorem He(h:j<xs.length):place (xs.take (j+1)) k=place (xs.take j) k+(if Ap xs[j].key k then 1 else 0):=by
 unfold place;rw[List.take_succ_eq_append_getElem h,List.filter_append,List.length_append];grind
theorem H4(xs:List It)(k:Ky):place xs k<=xs.length:=List.length_filter_le _ _
theorem FD(lv:Int)(xs:List It)(q:Ky)(a:Option Addr)(c:Nat)(ps:List (It×Value))(M:Mem)(J:xs.length<=c)(hs:SM M a (ps.flatMap Ae))(j:ps.map (·.1)=xs)(D:∀p∈ps,BS M p.2 p.1.val)(I:xs.length<=100):
  SpecL prog 308 #[.agg #[.int .i64 lv,.slice a xs.length c],.agg (AA q).toArray] M [] λv _ _=>v=.tuple #[.int .i64 (place xs q),.bool (FQ xs q)]:=by
 refine sB func308 ntmps308 ?_;intro W;refine Ke λF E=>?_;refine CC (α:=Nat) (λk=>[(2,pB F),(3,pB E),(4,.int .i64 (place (xs.take k) q)),(9,.slice a xs.length c),(10,.int .i64 xs.length),(11,.int .i64 k)]) (λ_=>M) (λ_=>[(E,cE [.int .u8 q.kind,.int .u32 q.id,.int .u32 q.off] 92),(F,cE [.int .i64 lv,.slice a xs.length c] 81)]) (λk=>k<=xs.length) (λk=>xs.length-k) 0 (Nat.zero_le _) ?_;rintro k hk;try dsimp only at hk⊢
 have g:=H4 (xs.take k) q;rw[List.length_take]at g;refine gj (λu=>?_) λu=>?_
 ·refine gh ?_;have d:k<xs.length:=by omega
  obtain⟨H,G,z,l⟩:=hs.open (by intro e;have:=congrArg length e;rw[Aj Ae 5 Ag,length_nil]at this;have y:=congrArg length j;rw[length_map]at y;omega);subst z;obtain⟨C,B,h,o,m⟩:=Aw l j D d;refine gh ?_;refine lq (A1 (cs:=E1 xs[k] C B) rfl rfl rfl rfl rfl (λi v b=>(h i v b).cj _)) ?_;refine gA λK=>?_;refine BP rfl rfl (CZ rfl rfl rfl rfl rfl (by kernel_rfl) (Ck xs[k].key q M)) (λf=>?_) (λf=>?_)
  ·refine gh ?_;refine BD (k+1) (by omega) (hk:=(Keep.cons (t:=2) rfl (Keep.cons (t:=3) rfl (Keep.ceq (t:=4) rfl (by first|(rw[He d,if_pos f];rfl)|(rw[He d,if_neg (by simp[f])];rfl)) (Keep.cons (t:=9) rfl (Keep.cons (t:=10) rfl (Keep.cons (t:=11) rfl Keep.nil)))))))
  refine gh ?_;refine BD (k+1) (by omega) (hk:=(Keep.cons (t:=2) rfl (Keep.cons (t:=3) rfl (Keep.ceq (t:=4) rfl (by first|(rw[He d,if_pos f];rfl)|(rw[He d,if_neg (by simp[f])];rfl)) (Keep.cons (t:=9) rfl (Keep.cons (t:=10) rfl (Keep.cons (t:=11) rfl Keep.nil)))))))
 refine gh ?_;refine QQ [0,1,2,3,4,5,6,7,8,9,10,11,12,13,14,15,16,17] ?_;refine gg ?_;obtain rfl:k=xs.length:=by omega
 rw[List.take_length];rw[List.take_length]at g;refine gj (λw=>?_) λw=>?_
 ·refine gh ?_;have s:place xs q<xs.length:=by omega
  obtain⟨H,G,z,l⟩:=hs.open (by intro e;have:=congrArg length e;rw[Aj Ae 5 Ag,length_nil]at this;have y:=congrArg length j;rw[length_map]at y;omega);subst z;obtain⟨C,B,h,o,m⟩:=Aw l j D s;refine gh ?_;refine dq rfl (A1 (cs:=AA xs[place xs q].key) rfl rfl rfl rfl rfl (λi v b=>(h i v (by match i,b with|0,b=>simpa [AA]using b|1,b=>simpa [AA]using b|2,b=>simpa [AA]using b|n+3,b=>simp[AA]at b)).cj _)) ?_;refine gh ?_;refine dq rfl (wYu (ns:=[xs[place xs q].key.kind,xs[place xs q].key.id,xs[place xs q].key.off]) (ms:=[q.kind,q.id,q.off]) rfl rfl rfl rfl rfl rfl ⟨rfl,rfl⟩) ?_;refine gr ?_;grind[FQ,Ed]
 refine gr ?_;grind[FQ]
end Go.Proofs.YtjheijhahehnmaaGreatDoor
