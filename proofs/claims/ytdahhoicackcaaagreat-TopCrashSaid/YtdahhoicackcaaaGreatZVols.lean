/- Walks: the volumes of a pool. -/
import Derived.Test.YtdahhoicackcaaaGreatZHn
import Derived.Test.YtdahhoicackcaaaGreatZHv
namespace Go.Proofs.YtdahhoicackcaaaGreat
open Go.Proofs.Tryz
open List (length length_nil length_map getElem_mem mem_cons_of_mem cons_append nil_append map_set)
set_option linter.unusedSimpArgs false
set_option linter.unusedVariables false
set_option linter.unusedSectionVars false
open Go.RowKit
set_option maxRecDepth 8000
set_option maxHeartbeats 40000000
abbrev DS:TypeId:=145
abbrev wKu:TypeId:=219
abbrev TNd:TypeId:=135
abbrev PH(lv:Int)(sl:Value)(p:Sp):List Value:=[.int .i64 lv,sl,.int .u8 p.first.kind,.int .u32 p.first.id,.int .u32 p.first.off,.int .u8 p.last.kind,.int .u32 p.last.id,.int .u32 p.last.off,.bool p.is]
abbrev spnZ:List Value:=[.int .i64 0,.slice none 0 0,.int .u8 0,.int .u32 0,.int .u32 0,.int .u8 0,.int .u32 0,.int .u32 0,.bool false]
def J5(o:Option Sp):Sp:=o.getD ⟨⟨0,0,0⟩,⟨0,0,0⟩,true⟩
def BR(s:Sto)(lv:Int)(xs:List It):Sp:=if xs=[]then J5 none else A2 (AL s lv.toNat) none xs
def lrn(s:Sto)(k level:Int):Option (Int×List It):=if k<8\/256<=k then none else match Ai s k.toNat with
 |none=>none
 |some (lv,xs)=>if 0<=level/\(lv≠level\/xs=[])then none else some (lv,xs)
variable{k level:Int}{s:Sto}
theorem WQ(h:k<8\/256<=k):lrn s k level=none:=by grind[lrn]
theorem Td(h:Ai s k.toNat=none):lrn s k level=none:=by grind[lrn]
variable{lv:Int}{xs:List It}
theorem Kk(h:Ai s k.toNat=some (lv,xs))(a:0<=level/\(lv≠level\/xs=[])):lrn s k level=none:=by
 grind[lrn]
theorem Fe(hk:8<=k/\k<256)(h:Ai s k.toNat=some (lv,xs))(a:¬(0<=level/\(lv≠level\/xs=[]))):lrn s k level=some (lv,xs):=by
 grind[lrn]
theorem Q7(h:lrn s k level=some (lv,xs)):8<=k/\k<256/\Ai s k.toNat=some (lv,xs)/\(0<=level->lv=level/\xs≠[]):=by
 grind[lrn]
theorem wHq{l:Nat}{x:It}(c:8<=x.ref/\x.ref<256):AL s (l+1) x=match lrn s x.ref (l:Int)with|none=>Co|some (lv,ys)=>BR s lv ys:=by
 cases b:Ai s x.ref.toNat with
 |none=>rw[Td b];simp only[AL,b]
 |some q=>
  obtain⟨lv,ys⟩:=q
  by_cases a:lv=(l:Int)/\ys≠[]
  ·rw [Fe c b (λh=>h.2.elim (λh=>h a.1) (λh=>a.2 h))]
   simp only[AL,b]
   rw[if_pos a];unfold BR;rw[if_neg a.2,a.1];rfl
  rw[Kk b ⟨by omega,by
   by_cases h:lv=(l:Int)
   ·exact .inr (Classical.byContradiction λd=>a ⟨h,d⟩)
   exact .inl h⟩]
  simp only[AL,b];rw[if_neg a]
variable{n:Nat}{o:Option Sp}
theorem Gx{k:Nat}(a:lv.toNat=n)(hk:k<xs.length)(b:A2 (AL s n) none xs=A2 (AL s n) o (xs.drop k))(h:As (AL s n xs[k]) o xs[k]=false):BR s lv xs=Co:=by
 grind[BR,Dm]
theorem Z4{k:Nat}(c:lv.toNat=n)(hk:k=xs.length)(b:o=none↔k=0)(d:A2 (AL s n) none xs=A2 (AL s n) o (xs.drop k)):BR s lv xs=J5 o:=by
 unfold BR
 by_cases a:xs=[]
 ·rw [if_pos a,b.2 (by rw[hk,a];rfl)]
 rw[if_neg a,c,VF hk d]
 cases o with
 |none=>exact absurd (List.eq_nil_of_length_eq_zero (by rw[<-hk];exact b.1 rfl)) a
 |some p=>rfl
structure MapI(M:Mem)(s:Sto)(l:List (Int×Value)):Prop where
 ent:∀k v,CS k l=some v->8<=k/\k<256/\∃lv xs sl,Ai s k.toNat=some (lv,xs)/\NS M sl xs/\v=.agg (PH lv sl (BR s lv xs)).toArray
 kid:∀k lv xs,(CS k l).isSome=true->Ai s k.toNat=some (lv,xs)->(BR s lv xs).is=true->0<lv->∀x∈xs,(CS x.ref l).isSome=true
variable{M M':Mem}{l:List (Int×Value)}
theorem MapI.mono(h:MapI M s l)(b:MLe M M'):MapI M' s l:=
 ⟨λk v a=>by obtain⟨g,f,lv,xs,sl,e,d,c⟩:=h.ent k v a;exact⟨g,f,lv,xs,sl,e,d.mono b,c⟩,h.kid⟩
theorem MapI.nil:MapI M s []:=⟨λk v h=>(by cases h),λk lv xs h=>(by cases h)⟩
def Ext(l l':List (Int×Value)):Prop:=∀k,(CS k l).isSome=true->(CS k l').isSome=true
theorem Ext.refl(l:List (Int×Value)):Ext l l:=λ_ h=>h
variable{l':List (Int×Value)}
theorem Ext.trans{a:List (Int×Value)}(h:Ext l l')(c:Ext l' a):Ext l a:=λk b=>c k (h k b)
theorem MS{v:Value}:Ext l (FS k v l):=λx a=>by
 rw[Gh]
 split
 ·rfl
 exact a
theorem MapI.put{sl:Value}(h:MapI M s l)(hk:8<=k/\k<256)(g:Ai s k.toNat=some (lv,xs))(hs:NS M sl xs)(n:(BR s lv xs).is=true->0<lv->∀x∈xs,(CS x.ref l).isSome=true):
  MapI M s (FS k (.agg (PH lv sl (BR s lv xs)).toArray) l):=by
 refine⟨λj v c=>?_,λj b a e d m i x f=>?_⟩
 ·rw [Gh]at c
  split at c
  ·grind
  exact h.ent j v c
 refine MS _ ?_
 rw[Gh]at e
 split at e
 ·grind
 exact h.kid j b a e d m i x f
structure CN(M:Mem)(s:Sto)(nv pb:Value):Prop where
 now:BS M nv s.now
 bn:BN M pb s
theorem CN.mono{nv a:Value}(h:CN M s nv a)(b:MLe M M'):CN M' s nv a:=⟨h.now.mono b,h.bn.mono b⟩
abbrev C2(bv wv nv lw pb:Value)(m:Nat)(rest:List Value):List Value:=bv::wv::nv::lw::pb::.map (some m)::rest
def LrP(s:Sto)(k level:Int)(u:Value)(M':Mem)(l':List (Int×Value)):Prop:=match lrn s k level with
 |none=>u=.agg spnZ.toArray
 |some (lv,xs)=>∃sl,NS M' sl xs/\u=.agg (PH lv sl (BR s lv xs)).toArray/\(CS k l').isSome=true
variable{u:Value}
theorem LrP.form(h:LrP s k level u M' l'):∃lv a n c p,u=.agg (PH lv (.slice a n c) p).toArray/\
  ((lrn s k level=none/\p=Co)\/∃xs,lrn s k level=some (lv,xs)/\n=xs.length/\NS M' (.slice a n c) xs/\p=BR s lv xs/\(CS k l').isSome=true):=by
 unfold LrP at h
 split at h
 ·grind [Co]
 rename_i lv xs e
 obtain⟨sl,b,rfl,f⟩:=h
 obtain⟨a,c,d,rfl,_⟩:=id b
 grind
def KH(s:Sto)(cb m:Nat)(bv wv nv lw pb:Value)(rest:List Value)(lv:Int):Prop:=∀(xs:List It)(sl:Value)(M:Mem)(l:List (Int×Value)),CN M s nv pb->MapI M s l->NS M sl xs->NdOk lv xs->
 SpecL prog 186 #[pB cb,.agg #[.int .i64 lv,sl]] M [(cb,cE (C2 bv wv nv lw pb m rest) DS),(m,A4 l)]
  λu M' L'=>∃l',L'=[(cb,cE (C2 bv wv nv lw pb m rest) DS),(m,A4 l')]/\MapI M' s l'/\Ext l l'/\u=.agg (PH lv sl (BR s lv xs)).toArray/\((BR s lv xs).is=true->0<lv->∀x∈xs,(CS x.ref l').isSome=true)
def KI(s:Sto)(cb m:Nat)(bv wv nv lw pb:Value)(rest:List Value)(level:Int):Prop:=∀(k:Int)(M:Mem)(l:List (Int×Value)),CN M s nv pb->MapI M s l->
 SpecL prog 138 #[pB cb,.int .i64 k,.int .i64 level] M [(cb,cE (C2 bv wv nv lw pb m rest) DS),(m,A4 l)]
  λu M' L'=>∃l',L'=[(cb,cE (C2 bv wv nv lw pb m rest) DS),(m,A4 l')]/\MapI M' s l'/\Ext l l'/\LrP s k level u M' l'
theorem X5(s:Sto)(aa:Aq s)(J m:Nat)(P N nv O K:Value)(r:List Value)(xs:List It)(a:Option Addr)(c:Nat)(ps:List (It×Value))(M:Mem)(l:List (Int×Value))(Z:CN M s nv K)(af:MapI M s l)(hc:xs.length<=c)(hs:SM M a (ps.flatMap Ac))(hp:ps.map (·.1)=xs)(E:∀p∈ps,BS M p.2 p.1.val)(V:NdOk 0 xs):
  SpecL prog 186 #[pB J,.agg #[.int .i64 0,.slice a xs.length c]] M [(J,cE (C2 P N nv O K m r) DS),(m,A4 l)] λu M' L'=>∃l',L'=[(J,cE (C2 P N nv O K m r) DS),(m,A4 l')]/\MapI M' s l'/\Ext l l'/\u=.agg (PH 0 (.slice a xs.length c) (BR s 0 xs)).toArray/\((BR s 0 xs).is=true->0<(0:Int)->∀x∈xs,(CS x.ref l').isSome=true):=by
 have au:=V.lev
 have ak:=V.len
 obtain⟨na,S,rfl,aq,ad⟩:=id Z.now
 have ae:s.now.length=256:=aa.2.1.1
 obtain⟨T,R,e0,ac⟩:=ad.open (by intro e;have:=congrArg length e;rw[Af,length_nil]at this;omega)
 subst e0
 refine sB func186 ntmps186 ?_;intro W
 refine Rl λb3 b4 b5=>?_
 refine Cz (α:=Nat×Mem×Option Sp×List (Int×Value)) (λx=>[(0,pB J),(3,pB b3),(4,pB b4),(5,pB b5),(12,.slice a xs.length c),(13,.int .i64 xs.length),(14,.int .i64 x.1)]) (λx=>x.2.1) (λx=>[(b5,cE (PH 0 (.slice a xs.length c) (J5 x.2.2.1)) wKu),(b4,.cells spnZ.toArray wKu (0,0)),(b3,cE [.int .i64 0,.slice a xs.length c] TNd),(J,cE (C2 P N (.slice (some ⟨T,R,none⟩) s.now.length S) O K m r) DS),(m,A4 x.2.2.2)]) (λx=>x.1<=xs.length/\MLe M x.2.1/\(x.2.2.1=none↔x.1=0)/\A2 (AL s 0) none xs=A2 (AL s 0) x.2.2.1 (xs.drop x.1)/\MapI x.2.1 s x.2.2.2/\Ext l x.2.2.2/\(0<(0:Int)->∀y∈xs.take x.1,(CS y.ref x.2.2.2).isSome=true)/\(J5 x.2.2.1).is=true) (λx=>xs.length-x.1) (0,M,none,l) ⟨Nat.zero_le _,MLe.refl _,by simp,rfl,af,Ext.refl _,λ_ y hy=>by simp at hy,rfl⟩ ?_
 rintro⟨k,Mk,o,lk⟩ ⟨hk,F,f,I,g,d,U,L⟩
 try dsimp only at hk F f I g d U L⊢
 have al:=Z.mono F
 have ab:=hs.mono F
 have ah:=λp hp=>(E p hp).mono F
 refine gj (λai=>?_) λai=>?_
 ·refine gh ?_
  have C:k<xs.length:=by omega
  obtain⟨sb,so,e0,hx⟩:=ab.open (by intro e;have:=congrArg length e;rw[Aj Ac 5 Ad,length_nil]at this;have h2:=congrArg length hp;rw[length_map]at h2;omega)
  subst e0
  obtain⟨va,vc,ag,ap,ao⟩:=Au hx hp ah C
  have am:=V.ref xs[k] (getElem_mem C)
  refine gh ?_
  refine lq (Bb (cs:=Fk xs[k] va vc) rfl rfl rfl rfl rfl (λi v hv=>(ag i v hv).cj _)) ?_
  refine ga λb7=>?_
  refine JG [0,1,2,3,4,5,6,7,8,9,10,11,12,13,14,15,16,17,18,19,120,121] ?_
  refine gj (λY=>?_) λY=>?_
  ·refine gh ?_
   refine DA rfl rfl rfl (AM rfl rfl) ?_;rintro _ _ _ ⟨b8,rfl,rfl,rfl⟩
   refine Cp (MLe.refl _) (λ_ h=>mem_cons_of_mem _ h) (by first|exact MLe.refl _|assumption) (by simp) ?_
   refine gt ?_
   obtain⟨p,b⟩:∃p:Sp,p=AL s 0 xs[k]:=⟨_,rfl⟩
   rw[show ([.int .i64 0,.slice none 0 0,.int .u8 xs[k].key.kind,.int .u32 xs[k].key.id,.int .u32 xs[k].key.off,.int .u8 xs[k].key.kind,.int .u32 xs[k].key.id,.int .u32 xs[k].key.off,.bool true]:List Value)=PH 0 (.slice none 0 0) p by rw[b];simp[AL,Y]]
   refine Br rfl rfl (AE rfl rfl rfl rfl (CJ.loc rfl)) (λB=>?_) (λB=>?_)
   ·refine gg ?_
    refine Br rfl rfl (UZ (ns:=[p.first.kind,p.first.id,p.first.off]) (ms:=[xs[k].key.kind,xs[k].key.id,xs[k].key.off]) rfl rfl rfl rfl rfl rfl ⟨rfl,rfl⟩) (λz=>?_) (λz=>?_)
    ·refine gh ?_
     refine zd ([(J,cE (C2 P N (.slice (some ⟨T,R,none⟩) s.now.length S) O K m r) DS),(m,A4 lk)]) rfl ?_
     have E:BR s 0 xs=Co:=Gx (n:=0) rfl C I (by first|(rw[<-b];simp[As,B];done)|(rw[<-b];simp[As,show ¬p.first=xs[k].key from λe=>of_decide_eq_true z (by rw[e])];done)|(obtain⟨q,rfl⟩:=Option.ne_none_iff_exists'.1 (λe=>by have:=f.1 e;omega:o≠none);rw[<-b];simp[As,show Ap q.last p.first=false from D]))
     exact⟨lk,rfl,g,d,by rw[E];rfl,λh=>by rw[E]at h;cases h⟩
    refine gj (λX=>?_) λX=>?_
    ·refine gg ?_
     refine Br rfl rfl (CG rfl rfl rfl rfl rfl (by kernel_rfl) (Cd (J5 o).last p.first _)) (λD=>?_) (λD=>?_)
     ·refine gj (λH=>?_) λH=>?_
      ·exfalso;omega
      refine gh ?_
      have G:p.first=xs[k].key:=by have:=DZ p.first xs[k].key;rw[decide_eq_true (Classical.not_not.1 (of_decide_eq_false z))]at this;exact of_decide_eq_true this.symm
      obtain⟨q,rfl⟩:∃q,o=some q:=by
        cases o with
        |none=>have:=f.1 rfl;omega
        |some q=>exact⟨q,rfl⟩
      have t:0<(0:Int)->∀x∈xs.take (k+1),(CS x.ref lk).isSome=true:=λQ=>absurd Q (by decide)
      refine Bw (k+1,Mk,some (A7 p (some q)),lk) ⟨by show k+1<=xs.length;omega,F,by simp,?_,g,d,t,rfl⟩ (hs:=?_)
      ·show A2 _ _ _=A2 _ (some (A7 p _)) _
       rw[b];exact GV C I (by rw[<-b];simp[As,B,<-G,show Ap q.last p.first=true from D])
      intro w h
      rw[show (J5 (some q)).is=true from L]at h
      refine(h.fewer ?_:St _ _ _ w)
      exact .cons _ (.cons _ (.refl _))
     refine gh ?_
     refine zd ([(J,cE (C2 P N (.slice (some ⟨T,R,none⟩) s.now.length S) O K m r) DS),(m,A4 lk)]) rfl ?_
     have E:BR s 0 xs=Co:=Gx (n:=0) rfl C I (by first|(rw[<-b];simp[As,B];done)|(rw[<-b];simp[As,show ¬p.first=xs[k].key from λe=>of_decide_eq_true z (by rw[e])];done)|(obtain⟨q,rfl⟩:=Option.ne_none_iff_exists'.1 (λe=>by have:=f.1 e;omega:o≠none);rw[<-b];simp[As,show Ap q.last p.first=false from D]))
     exact⟨lk,rfl,g,d,by rw[E];rfl,λh=>by rw[E]at h;cases h⟩
    refine gj (λH=>?_) λH=>?_
    ·refine gh ?_
     have G:p.first=xs[k].key:=by have:=DZ p.first xs[k].key;rw[decide_eq_true (Classical.not_not.1 (of_decide_eq_false z))]at this;exact of_decide_eq_true this.symm
     obtain rfl:o=none:=f.2 (by omega)
     have t:0<(0:Int)->∀x∈xs.take (k+1),(CS x.ref lk).isSome=true:=λQ=>absurd Q (by decide)
     refine Bw (k+1,Mk,some (A7 p none),lk) ⟨by show k+1<=xs.length;omega,F,by simp,?_,g,d,t,rfl⟩ (hs:=?_)
     ·show A2 _ _ _=A2 _ (some (A7 p _)) _
      rw[b];exact GV C I (by rw[<-b];simp[As,B,G])
     intro w h
     refine(h.fewer ?_:St _ _ _ w)
     exact .cons _ (.cons _ (.refl _))
    exfalso;omega
   refine gh ?_
   refine zd ([(J,cE (C2 P N (.slice (some ⟨T,R,none⟩) s.now.length S) O K m r) DS),(m,A4 lk)]) rfl ?_
   have E:BR s 0 xs=Co:=Gx (n:=0) rfl C I (by first|(rw[<-b];simp[As,B];done)|(rw[<-b];simp[As,show ¬p.first=xs[k].key from λe=>of_decide_eq_true z (by rw[e])];done)|(obtain⟨q,rfl⟩:=Option.ne_none_iff_exists'.1 (λe=>by have:=f.1 e;omega:o≠none);rw[<-b];simp[As,show Ap q.last p.first=false from D]))
   exact⟨lk,rfl,g,d,by rw[E];rfl,λh=>by rw[E]at h;cases h⟩
  refine gh ?_
  have aj:0<=xs[k].ref/\xs[k].ref<256:=by omega
  refine gh ?_
  refine dq rfl (AE rfl rfl rfl rfl (((ac _ _ (by rw[Nat.mul_one];exact Cc (j:=xs[k].ref.toNat) (by omega))).mono F).cj _)) ?_
  refine gh ?_
  refine DA rfl rfl rfl (AM rfl rfl) ?_;rintro _ _ _ ⟨b8,rfl,rfl,rfl⟩
  refine Cp (MLe.refl _) (λ_ h=>mem_cons_of_mem _ h) (by first|exact MLe.refl _|assumption) (by simp) ?_
  refine gt ?_
  obtain⟨p,b⟩:∃p:Sp,p=AL s 0 xs[k]:=⟨_,rfl⟩
  rw[show ([.int .i64 0,.slice none 0 0,.int .u8 xs[k].key.kind,.int .u32 xs[k].key.id,.int .u32 xs[k].key.off,.int .u8 xs[k].key.kind,.int .u32 xs[k].key.id,.int .u32 xs[k].key.off,.bool (decide (0<((s.now.getD xs[k].ref.toNat 0).toNat:Int)))]:List Value)=PH 0 (.slice none 0 0) p by rw[b];simp[AL,Y]]
  refine Br rfl rfl (AE rfl rfl rfl rfl (CJ.loc rfl)) (λB=>?_) (λB=>?_)
  ·refine gg ?_
   refine Br rfl rfl (UZ (ns:=[p.first.kind,p.first.id,p.first.off]) (ms:=[xs[k].key.kind,xs[k].key.id,xs[k].key.off]) rfl rfl rfl rfl rfl rfl ⟨rfl,rfl⟩) (λz=>?_) (λz=>?_)
   ·refine gh ?_
    refine zd ([(J,cE (C2 P N (.slice (some ⟨T,R,none⟩) s.now.length S) O K m r) DS),(m,A4 lk)]) rfl ?_
    have E:BR s 0 xs=Co:=Gx (n:=0) rfl C I (by first|(rw[<-b];simp[As,B];done)|(rw[<-b];simp[As,show ¬p.first=xs[k].key from λe=>of_decide_eq_true z (by rw[e])];done)|(obtain⟨q,rfl⟩:=Option.ne_none_iff_exists'.1 (λe=>by have:=f.1 e;omega:o≠none);rw[<-b];simp[As,show Ap q.last p.first=false from D]))
    exact⟨lk,rfl,g,d,by rw[E];rfl,λh=>by rw[E]at h;cases h⟩
   refine gj (λX=>?_) λX=>?_
   ·refine gg ?_
    refine Br rfl rfl (CG rfl rfl rfl rfl rfl (by kernel_rfl) (Cd (J5 o).last p.first _)) (λD=>?_) (λD=>?_)
    ·refine gj (λH=>?_) λH=>?_
     ·exfalso;omega
     refine gh ?_
     have G:p.first=xs[k].key:=by have:=DZ p.first xs[k].key;rw[decide_eq_true (Classical.not_not.1 (of_decide_eq_false z))]at this;exact of_decide_eq_true this.symm
     obtain⟨q,rfl⟩:∃q,o=some q:=by
       cases o with
       |none=>have:=f.1 rfl;omega
       |some q=>exact⟨q,rfl⟩
     have t:0<(0:Int)->∀x∈xs.take (k+1),(CS x.ref lk).isSome=true:=λQ=>absurd Q (by decide)
     refine Bw (k+1,Mk,some (A7 p (some q)),lk) ⟨by show k+1<=xs.length;omega,F,by simp,?_,g,d,t,rfl⟩ (hs:=?_)
     ·show A2 _ _ _=A2 _ (some (A7 p _)) _
      rw[b];exact GV C I (by rw[<-b];simp[As,B,<-G,show Ap q.last p.first=true from D])
     intro w h
     rw[show (J5 (some q)).is=true from L]at h
     refine(h.fewer ?_:St _ _ _ w)
     exact .cons _ (.cons _ (.refl _))
    refine gh ?_
    refine zd ([(J,cE (C2 P N (.slice (some ⟨T,R,none⟩) s.now.length S) O K m r) DS),(m,A4 lk)]) rfl ?_
    have E:BR s 0 xs=Co:=Gx (n:=0) rfl C I (by first|(rw[<-b];simp[As,B];done)|(rw[<-b];simp[As,show ¬p.first=xs[k].key from λe=>of_decide_eq_true z (by rw[e])];done)|(obtain⟨q,rfl⟩:=Option.ne_none_iff_exists'.1 (λe=>by have:=f.1 e;omega:o≠none);rw[<-b];simp[As,show Ap q.last p.first=false from D]))
    exact⟨lk,rfl,g,d,by rw[E];rfl,λh=>by rw[E]at h;cases h⟩
   refine gj (λH=>?_) λH=>?_
   ·refine gh ?_
    have G:p.first=xs[k].key:=by have:=DZ p.first xs[k].key;rw[decide_eq_true (Classical.not_not.1 (of_decide_eq_false z))]at this;exact of_decide_eq_true this.symm
    obtain rfl:o=none:=f.2 (by omega)
    have t:0<(0:Int)->∀x∈xs.take (k+1),(CS x.ref lk).isSome=true:=λQ=>absurd Q (by decide)
    refine Bw (k+1,Mk,some (A7 p none),lk) ⟨by show k+1<=xs.length;omega,F,by simp,?_,g,d,t,rfl⟩ (hs:=?_)
    ·show A2 _ _ _=A2 _ (some (A7 p _)) _
     rw[b];exact GV C I (by rw[<-b];simp[As,B,G])
    intro w h
    refine(h.fewer ?_:St _ _ _ w)
    exact .cons _ (.cons _ (.refl _))
   exfalso;omega
  refine gh ?_
  refine zd ([(J,cE (C2 P N (.slice (some ⟨T,R,none⟩) s.now.length S) O K m r) DS),(m,A4 lk)]) rfl ?_
  have E:BR s 0 xs=Co:=Gx (n:=0) rfl C I (by first|(rw[<-b];simp[As,B];done)|(rw[<-b];simp[As,show ¬p.first=xs[k].key from λe=>of_decide_eq_true z (by rw[e])];done)|(obtain⟨q,rfl⟩:=Option.ne_none_iff_exists'.1 (λe=>by have:=f.1 e;omega:o≠none);rw[<-b];simp[As,show Ap q.last p.first=false from D]))
  exact⟨lk,rfl,g,d,by rw[E];rfl,λh=>by rw[E]at h;cases h⟩
 refine gh ?_
 refine zd ([(J,cE (C2 P N (.slice (some ⟨T,R,none⟩) s.now.length S) O K m r) DS),(m,A4 lk)]) rfl ?_
 have E:BR s 0 xs=J5 o:=Z4 (n:=0) rfl (by omega) f I
 obtain rfl:k=xs.length:=by omega
 exact⟨lk,rfl,g,d,by rw[E];rfl,λ_ Q x hx=>U Q x (by rw[List.take_length];exact hx)⟩
theorem X4(s:Sto)(ae:Aq s)(O m:Nat)(U Q nv R P:Value)(g:List Value)(l:Nat)(hl:KI s O m U Q nv R P g (l:Int))(xs:List It)(a:Option Addr)(c:Nat)(ps:List (It×Value))(M:Mem)(l0:List (Int×Value))(ab:CN M s nv P)(aj:MapI M s l0)(hc:xs.length<=c)(hs:SM M a (ps.flatMap Ac))(hp:ps.map (·.1)=xs)(H:∀p∈ps,BS M p.2 p.1.val)(I:NdOk ((l+1:Nat):Int) xs)  :
  SpecL prog 186 #[pB O,.agg #[.int .i64 ((l+1:Nat):Int),.slice a xs.length c]] M [(O,cE (C2 U Q nv R P m g) DS),(m,A4 l0)] λu M' L'=>∃l',L'=[(O,cE (C2 U Q nv R P m g) DS),(m,A4 l')]/\MapI M' s l'/\Ext l0 l'/\u=.agg (PH ((l+1:Nat):Int) (.slice a xs.length c) (BR s ((l+1:Nat):Int) xs)).toArray/\((BR s ((l+1:Nat):Int) xs).is=true->0<((l+1:Nat):Int)->∀x∈xs,(CS x.ref l').isSome=true):=by
 have a0:=I.lev
 have au:=I.len
 obtain⟨na,nc,rfl,az,ah⟩:=id ab.now
 have ai:s.now.length=256:=ae.2.1.1
 obtain⟨nb,no,e0,ag⟩:=ah.open (by intro e;have:=congrArg length e;rw[Af,length_nil]at this;omega)
 subst e0
 refine sB func186 ntmps186 ?_;intro W
 refine Rl λb3 b4 b5=>?_
 refine Cz (α:=Nat×Mem×Option Sp×List (Int×Value)) (λx=>[(0,pB O),(3,pB b3),(4,pB b4),(5,pB b5),(12,.slice a xs.length c),(13,.int .i64 xs.length),(14,.int .i64 x.1)]) (λx=>x.2.1) (λx=>[(b5,cE (PH ((l+1:Nat):Int) (.slice a xs.length c) (J5 x.2.2.1)) wKu),(b4,.cells spnZ.toArray wKu (0,0)),(b3,cE [.int .i64 ((l+1:Nat):Int),.slice a xs.length c] TNd),(O,cE (C2 U Q (.slice (some ⟨nb,no,none⟩) s.now.length nc) R P m g) DS),(m,A4 x.2.2.2)]) (λx=>x.1<=xs.length/\MLe M x.2.1/\(x.2.2.1=none↔x.1=0)/\A2 (AL s (l+1)) none xs=A2 (AL s (l+1)) x.2.2.1 (xs.drop x.1)/\MapI x.2.1 s x.2.2.2/\Ext l0 x.2.2.2/\(0<((l+1:Nat):Int)->∀y∈xs.take x.1,(CS y.ref x.2.2.2).isSome=true)/\(J5 x.2.2.1).is=true) (λx=>xs.length-x.1) (0,M,none,l0) ⟨Nat.zero_le _,MLe.refl _,by simp,rfl,aj,Ext.refl _,λ_ y hy=>by simp at hy,rfl⟩ ?_
 rintro⟨k,Mk,o,lk⟩ ⟨hk,D,r,Y,J,b,E,S⟩
 try dsimp only at hk D r Y J b E S⊢
 have T:=ab.mono D
 have af:=hs.mono D
 have am:=λp hp=>(H p hp).mono D
 refine gj (λap=>?_) λap=>?_
 ·refine gh ?_
  have t:k<xs.length:=by omega
  obtain⟨sb,so,e0,V⟩:=af.open (by intro e;have:=congrArg length e;rw[Aj Ac 5 Ad,length_nil]at this;have G:=congrArg length hp;rw[length_map]at G;omega)
  subst e0
  obtain⟨va,vc,al,ax,aw⟩:=Au V hp am t
  have av:=I.ref xs[k] (getElem_mem t)
  refine gh ?_
  refine lq (Bb (cs:=Fk xs[k] va vc) rfl rfl rfl rfl rfl (λi v hv=>(al i v hv).cj _)) ?_
  refine ga λb7=>?_
  refine JG [0,1,2,3,4,5,6,7,8,9,10,11,12,13,14,15,16,17,18,19,120,121] ?_
  refine gj (λad=>?_) λad=>?_
  ·exfalso;exact I.up (by omega) xs[k] (getElem_mem t) ad
  refine gh ?_
  have aq:0<=xs[k].ref/\xs[k].ref<256:=by omega
  refine gh ?_
  refine dq rfl (AE rfl rfl rfl rfl (((ag _ _ (by rw[Nat.mul_one];exact Cc (j:=xs[k].ref.toNat) (by omega))).mono D).cj _)) ?_
  refine gh ?_
  refine DA rfl rfl rfl (AM rfl rfl) ?_;rintro _ _ _ ⟨b8,rfl,rfl,rfl⟩
  refine Cp (MLe.refl _) (λ_ h=>mem_cons_of_mem _ h) (by first|exact MLe.refl _|assumption) (by simp) ?_
  refine gt ?_
  have ay:=I.up (by omega) xs[k] (getElem_mem t)
  have ak:=T
  refine gC (by have:=hl xs[k].ref Mk lk T J;rwa[show ((l:Nat):Int)=((l+1:Nat):Int)-1 by omega]at this) ?_;rintro _ Mn _ ac ⟨N,rfl,B,d,aa⟩
  simp only[cons_append,nil_append]
  rw[show ((l+1:Nat):Int)-1=(l:Int)by omega]at aa
  obtain⟨zl,za,zn,zc,p,rfl,K⟩:=aa.form
  have f:p=AL s (l+1) xs[k]:=by
   rw[wHq (by omega)]
   rcases K with⟨h1,G⟩|⟨ys,h1,_,_,G,_⟩
   ·rw [h1];exact G
   rw[h1];exact G
  refine gg ?_
  refine Br rfl rfl (AE rfl rfl rfl rfl (CJ.loc rfl)) (λz=>?_) (λz=>?_)
  ·refine gg ?_
   refine Br rfl rfl (UZ (ns:=[p.first.kind,p.first.id,p.first.off]) (ms:=[xs[k].key.kind,xs[k].key.id,xs[k].key.off]) rfl rfl rfl rfl rfl rfl ⟨rfl,rfl⟩) (λF=>?_) (λF=>?_)
   ·refine gh ?_
    refine zd ([(O,cE (C2 U Q (.slice (some ⟨nb,no,none⟩) s.now.length nc) R P m g) DS),(m,A4 N)]) rfl ?_
    have H:BR s ((l+1:Nat):Int) xs=Co:=Gx (n:=(l+1)) (by omega) t Y (by first|(rw[<-f];simp[As,z];done)|(rw[<-f];simp[As,show ¬p.first=xs[k].key from λe=>of_decide_eq_true F (by rw[e])];done)|(obtain⟨q,rfl⟩:=Option.ne_none_iff_exists'.1 (λe=>by have:=r.1 e;omega:o≠none);rw[<-f];simp[As,show Ap q.last p.first=false from L]))
    exact⟨N,rfl,B,(b.trans d),by rw[H];rfl,λh=>by rw[H]at h;cases h⟩
   refine gj (λao=>?_) λao=>?_
   ·refine gg ?_
    refine Br rfl rfl (CG rfl rfl rfl rfl rfl (by kernel_rfl) (Cd (J5 o).last p.first _)) (λL=>?_) (λL=>?_)
    ·refine gj (λZ=>?_) λZ=>?_
     ·exfalso;omega
     refine gh ?_
     have X:p.first=xs[k].key:=by have:=DZ p.first xs[k].key;rw[decide_eq_true (Classical.not_not.1 (of_decide_eq_false F))]at this;exact of_decide_eq_true this.symm
     obtain⟨q,rfl⟩:∃q,o=some q:=by
       cases o with
       |none=>have:=r.1 rfl;omega
       |some q=>exact⟨q,rfl⟩
     have C:0<((l+1:Nat):Int)->∀x∈xs.take (k+1),(CS x.ref N).isSome=true:=λh0=>RU t (λx V=>d _ (E h0 x V)) (by
      rcases K with⟨_,G⟩|⟨ys,_,_,_,_,G⟩
      ·rw [G]at z;cases z
      exact G)
     refine Bw (k+1,Mn,some (A7 p (some q)),N) ⟨by show k+1<=xs.length;omega,D.trans ac,by simp,?_,B,(b.trans d),C,rfl⟩ (hs:=?_)
     ·show A2 _ _ _=A2 _ (some (A7 p _)) _
      rw[f];exact GV t Y (by rw[<-f];simp[As,z,<-X,show Ap q.last p.first=true from L])
     intro w h
     rw[show (J5 (some q)).is=true from S]at h
     refine((h.perm (List.perm_append_comm (l₁:=[_,_]) (l₂:=[_,_,_,_,_]))).fewer ?_:St _ _ _ w)
     exact .cons _ (.cons _ (.refl _))
    refine gh ?_
    refine zd ([(O,cE (C2 U Q (.slice (some ⟨nb,no,none⟩) s.now.length nc) R P m g) DS),(m,A4 N)]) rfl ?_
    have H:BR s ((l+1:Nat):Int) xs=Co:=Gx (n:=(l+1)) (by omega) t Y (by first|(rw[<-f];simp[As,z];done)|(rw[<-f];simp[As,show ¬p.first=xs[k].key from λe=>of_decide_eq_true F (by rw[e])];done)|(obtain⟨q,rfl⟩:=Option.ne_none_iff_exists'.1 (λe=>by have:=r.1 e;omega:o≠none);rw[<-f];simp[As,show Ap q.last p.first=false from L]))
    exact⟨N,rfl,B,(b.trans d),by rw[H];rfl,λh=>by rw[H]at h;cases h⟩
   refine gj (λZ=>?_) λZ=>?_
   ·refine gh ?_
    have X:p.first=xs[k].key:=by have:=DZ p.first xs[k].key;rw[decide_eq_true (Classical.not_not.1 (of_decide_eq_false F))]at this;exact of_decide_eq_true this.symm
    obtain rfl:o=none:=r.2 (by omega)
    have C:0<((l+1:Nat):Int)->∀x∈xs.take (k+1),(CS x.ref N).isSome=true:=λh0=>RU t (λx V=>d _ (E h0 x V)) (by
     rcases K with⟨_,G⟩|⟨ys,_,_,_,_,G⟩
     ·rw [G]at z;cases z
     exact G)
    refine Bw (k+1,Mn,some (A7 p none),N) ⟨by show k+1<=xs.length;omega,D.trans ac,by simp,?_,B,(b.trans d),C,rfl⟩ (hs:=?_)
    ·show A2 _ _ _=A2 _ (some (A7 p _)) _
     rw[f];exact GV t Y (by rw[<-f];simp[As,z,X])
    intro w h
    refine((h.perm (List.perm_append_comm (l₁:=[_,_]) (l₂:=[_,_,_,_,_]))).fewer ?_:St _ _ _ w)
    exact .cons _ (.cons _ (.refl _))
   exfalso;omega
  refine gh ?_
  refine zd ([(O,cE (C2 U Q (.slice (some ⟨nb,no,none⟩) s.now.length nc) R P m g) DS),(m,A4 N)]) rfl ?_
  have H:BR s ((l+1:Nat):Int) xs=Co:=Gx (n:=(l+1)) (by omega) t Y (by first|(rw[<-f];simp[As,z];done)|(rw[<-f];simp[As,show ¬p.first=xs[k].key from λe=>of_decide_eq_true F (by rw[e])];done)|(obtain⟨q,rfl⟩:=Option.ne_none_iff_exists'.1 (λe=>by have:=r.1 e;omega:o≠none);rw[<-f];simp[As,show Ap q.last p.first=false from L]))
  exact⟨N,rfl,B,(b.trans d),by rw[H];rfl,λh=>by rw[H]at h;cases h⟩
 refine gh ?_
 refine zd ([(O,cE (C2 U Q (.slice (some ⟨nb,no,none⟩) s.now.length nc) R P m g) DS),(m,A4 lk)]) rfl ?_
 have H:BR s ((l+1:Nat):Int) xs=J5 o:=Z4 (n:=(l+1)) (by omega) (by omega) r Y
 obtain rfl:k=xs.length:=by omega
 exact⟨lk,rfl,J,b,by rw[H];rfl,λ_ h0 x V=>E h0 x (by rw[List.take_length];exact V)⟩
theorem wEq(s:Sto)(d:Aq s)(n m:Nat)(o i nv k j:Value)(b:List Value):KH s n m o i nv k j b 0:=λxs sl M l h g e f=>by
 obtain⟨a,c,r,rfl,y,t,u,z⟩:=e
 exact X5 s d n m o i nv k j b xs a c r M l h g y t u z f
theorem wEp(s:Sto)(g:Aq s)(n m:Nat)(o d nv f e:Value)(b:List Value)(l:Nat)(z:KI s n m o d nv f e b (l:Int)):KH s n m o d nv f e b ((l+1:Nat):Int):=λxs sl M t k j h i=>by
 obtain⟨a,c,r,rfl,B,u,y,C⟩:=h
 exact X4 s g n m o d nv f e b l z xs a c r M t k j B u y C i
theorem Vi(s:Sto)(aa:Aq s)(r m:Nat)(B t nv y j:Value)(b:List Value)(g:Int)(X:∀lv:Int,(0<=g->lv=g)->KH s r m B t nv y j b lv)(k:Int)(M:Mem)(l:List (Int×Value))(P:CN M s nv j)(f:MapI M s l):
  SpecL prog 138 #[pB r,.int .i64 k,.int .i64 g] M [(r,cE (C2 B t nv y j m b) DS),(m,A4 l)] λu M' L'=>∃l',L'=[(r,cE (C2 B t nv y j m b) DS),(m,A4 l')]/\MapI M' s l'/\Ext l l'/\LrP s k g u M' l':=by
 refine sB func138 ntmps138 ?_;intro W
 refine gA λb6=>?_
 refine gj (λae=>?_) λae=>?_
 ·refine gh ?_
  refine zd ([(r,cE (C2 B t nv y j m b) DS),(m,A4 l)]) rfl ?_
  exact⟨l,rfl,f,Ext.refl _,by unfold LrP;rw[WQ (by omega)];rfl⟩
 refine gj (λad=>?_) λad=>?_
 ·refine gh ?_
  refine zd ([(r,cE (C2 B t nv y j m b) DS),(m,A4 l)]) rfl ?_
  exact⟨l,rfl,f,Ext.refl _,by unfold LrP;rw[WQ (by omega)];rfl⟩
 refine gh ?_
 refine lq (Ye (z:=.agg spnZ.toArray) rfl rfl rfl rfl (by kernel_rfl)) ?_
 iterate 2 refine jp rfl ?_
 refine Zi rfl (λO=>?_) (λO=>?_)
 ·obtain ⟨v,hv⟩:=Option.isSome_iff_exists.1 O
  obtain⟨Y,K,lv,xs,sl,d,R,rfl⟩:=f.ent k v hv
  obtain⟨a,c,ps,rfl,_⟩:=id R
  rw[hv]
  refine gj (λo=>?_) λo=>?_
  ·refine gj (λG=>?_) λG=>?_
   ·refine gh ?_
    refine zd ([(r,cE (C2 B t nv y j m b) DS),(m,A4 l)]) rfl ?_
    exact⟨l,rfl,f,Ext.refl _,by unfold LrP;rw[Kk d ⟨o,.inl G⟩];rfl⟩
   refine gj (λN=>?_) λN=>?_
   ·refine gh ?_
    refine zd ([(r,cE (C2 B t nv y j m b) DS),(m,A4 l)]) rfl ?_
    exact⟨l,rfl,f,Ext.refl _,by unfold LrP;rw[Kk d ⟨o,.inr (List.eq_nil_of_length_eq_zero (by omega))⟩];rfl⟩
   refine gh ?_
   refine zd ([(r,cE (C2 B t nv y j m b) DS),(m,A4 l)]) rfl ?_
   exact⟨l,rfl,f,Ext.refl _,by unfold LrP;rw[Fe ⟨Y,K⟩ d (λh=>h.2.elim (λe=>G e) (λe=>N (by rw[e];rfl)))];exact⟨_,R,rfl,O⟩⟩
  refine gh ?_
  refine zd ([(r,cE (C2 B t nv y j m b) DS),(m,A4 l)]) rfl ?_
  exact⟨l,rfl,f,Ext.refl _,by unfold LrP;rw[Fe ⟨Y,K⟩ d (λh=>o h.1)];exact⟨_,R,rfl,O⟩⟩
 have hv:CS k l=none:=Option.not_isSome_iff_eq_none.1 (by rw[O];decide)
 rw[hv]
 refine gh ?_
 obtain⟨I,rfl⟩:∃n:Nat,k=(n:Int):=⟨k.toNat,by omega⟩
 have af:=P.bn
 refine gc (Ep s I j M aa (by omega) P.bn) ?_;rintro _ M1 F ab
 obtain⟨H,V,yn,U,e,rfl,E⟩:=BnPost.form ab
 refine gA λb8=>?_
 refine gj (λac=>?_) λac=>?_
 ·refine gh ?_
  refine zd ([(r,cE (C2 B t nv y j m b) DS),(m,A4 l)]) rfl ?_
  obtain⟨_,d⟩|⟨he,_⟩:=E
  ·exact ⟨l,rfl,f.mono F,Ext.refl _,by unfold LrP;rw[Td (show Ai s ((I:Int)).toNat=none from d)];rfl⟩
  omega
 refine gj (λQ=>?_) λQ=>?_
 ·refine gj (λZ=>?_) λZ=>?_
  ·refine gh ?_
   refine zd ([(r,cE (C2 B t nv y j m b) DS),(m,A4 l)]) rfl ?_
   obtain⟨he,_⟩|⟨_,ys,d,_,_⟩:=E
   ·omega
   exact⟨l,rfl,f.mono F,Ext.refl _,by unfold LrP;rw[Kk (show Ai s ((I:Int)).toNat=_ from d) ⟨Q,.inl Z⟩];rfl⟩
  refine gh ?_
  obtain⟨_,d⟩|⟨rfl,ys,d,rfl,C⟩:=E
  ·omega
  have S:=Ar d
  refine gC (X H (by intro h;omega) ys _ M1 l (P.mono F) (f.mono F) C S) ?_;rintro _ M2 _ L ⟨l2,rfl,J,i,rfl,T⟩
  simp only[cons_append,nil_append]
  have D:=J.put (k:=(I:Int)) ⟨by omega,by omega⟩ d (C.mono L) T
  refine gh ?_
  refine LL [0,1,2,3,4,5,106] [(b6,cE (PH H (.slice V ys.length U) (BR s H ys)) wKu),(r,cE (C2 B t nv y j m b) DS)] ?_
  refine gh ?_
  refine Df rfl rfl (Tx rfl (.inl rfl) rfl rfl rfl) ?_;rintro _ _ _ ⟨rfl,rfl⟩
  refine⟨_,_,MLe.refl _,MLe.refl _,λ_ h=>h,by simp,?_⟩
  refine gj (λo=>?_) λo=>?_
  ·refine gj (λG=>?_) λG=>?_
   ·omega
   refine gj (λN=>?_) λN=>?_
   ·refine gh ?_
    refine zd ([(r,cE (C2 B t nv y j m b) DS),(m,A4 (FS (I:Int) (.agg (PH H (.slice V ys.length U) (BR s H ys)).toArray) l2))]) rfl ?_
    exact⟨_,rfl,D,(i.trans MS),by unfold LrP;rw[Kk (show Ai s ((I:Int)).toNat=_ from d) ⟨Q,.inr (List.eq_nil_of_length_eq_zero (by omega))⟩];rfl⟩
   refine gh ?_
   refine zd ([(r,cE (C2 B t nv y j m b) DS),(m,A4 (FS (I:Int) (.agg (PH H (.slice V ys.length U) (BR s H ys)).toArray) l2))]) rfl ?_
   exact⟨_,rfl,D,(i.trans MS),by unfold LrP;rw[Fe ⟨by omega,by omega⟩ (show Ai s ((I:Int)).toNat=_ from d) (λh=>h.2.elim (λe=>G e) (λe=>N (by rw[e];rfl)))];exact⟨_,C.mono L,rfl,by rw[Gh,if_pos rfl];rfl⟩⟩
  omega
 refine gh ?_
 obtain⟨_,d⟩|⟨rfl,ys,d,rfl,C⟩:=E
 ·omega
 have S:=Ar d
 refine gC (X H (by intro h;omega) ys _ M1 l (P.mono F) (f.mono F) C S) ?_;rintro _ M2 _ L ⟨l2,rfl,J,i,rfl,T⟩
 simp only[cons_append,nil_append]
 have D:=J.put (k:=(I:Int)) ⟨by omega,by omega⟩ d (C.mono L) T
 refine gh ?_
 refine LL [0,1,2,3,4,5,106] [(b6,cE (PH H (.slice V ys.length U) (BR s H ys)) wKu),(r,cE (C2 B t nv y j m b) DS)] ?_
 refine gh ?_
 refine Df rfl rfl (Tx rfl (.inl rfl) rfl rfl rfl) ?_;rintro _ _ _ ⟨rfl,rfl⟩
 refine⟨_,_,MLe.refl _,MLe.refl _,λ_ h=>h,by simp,?_⟩
 refine gj (λo=>?_) λo=>?_
 ·omega
 refine gh ?_
 refine zd ([(r,cE (C2 B t nv y j m b) DS),(m,A4 (FS (I:Int) (.agg (PH H (.slice V ys.length U) (BR s H ys)).toArray) l2))]) rfl ?_
 exact⟨_,rfl,D,(i.trans MS),by unfold LrP;rw[Fe ⟨by omega,by omega⟩ (show Ai s ((I:Int)).toNat=_ from d) (λh=>Q h.1)];exact⟨_,C.mono L,rfl,by rw[Gh,if_pos rfl];rfl⟩⟩
theorem QE(s:Sto)(f:Aq s)(n m:Nat)(o c nv e d:Value)(b:List Value)(a:Int)(g:∀lv:Int,(0<=a->lv=a)->0<=lv->KH s n m o c nv e d b lv):KI s n m o c nv e d b a:=λk M l j i=>
 Vi s f n m o c nv e d b a (λlv h xs sl M l y u t r=>g lv h r.lev.1 xs sl M l y u t r) k M l j i
theorem TZ(s:Sto)(b:Aq s)(f m:Nat)(g c nv e d:Value)(a:List Value):∀l:Nat,KH s f m g c nv e d a (l:Int)
 |0=>wEq s b f m g c nv e d a
 |l+1=>wEp s b f m g c nv e d a l (QE s b f m g c nv e d a (l:Int) λlv h _=>by rw[h (by omega)];exact TZ s b f m g c nv e d a l)
theorem NY(s:Sto)(c:Aq s)(g m:Nat)(i d nv f e:Value)(a:List Value)(b:Int):KI s g m i d nv f e a b:=
 QE s c g m i d nv f e a b λlv _ h=>by
  obtain⟨n,rfl⟩:∃n:Nat,lv=n:=⟨lv.toNat,by omega⟩
  exact TZ s c g m i d nv f e a n
set_option maxRecDepth 8000
set_option maxHeartbeats 40000000
instance(priority:=low) Pick.both{R S L L1 L2:Lc}[h:Pick R L L1][h2:Pick S L1 L2]:Pick (R++S) L L2:=⟨h.perm.trans ((List.Perm.append_left R h2.perm).trans (by rw[List.append_assoc]))⟩
abbrev TV:TypeId:=82
abbrev Cm(bv wv nv lw pb:Value)(m:Nat)(refs nodes:List Int)(vs:Value):List Value:=C2 bv wv nv lw pb m (Al refs++(Al nodes++[vs]))
theorem Ay(xs:List Int):(Al xs).length=xs.length:=by simp[Al]
section
variable{bv wv nv lw pb vs:Value}{m:Nat}{refs nodes:List Int}
theorem GS(b:refs.length=256)(a:nodes.length=256):(Cm bv wv nv lw pb m refs nodes vs).length=519:=by simp_all [Ay]
theorem MF{a b c d e f:Value}{r:List Value}{i j:Nat}(h:j=6+i):(a::b::c::d::e::f::r)[j]? =r[i]? :=by grind
theorem KF(c:refs.length=256){i j:Nat}(b:i<256)(a:j=6+i):(Cm bv wv nv lw pb m refs nodes vs)[j]? =some (.int .i64 (refs.getD i 0)):=by
 rw[MF a,List.getElem?_append_left (by rw[Ay];omega)];simp[Al,List.getD,c,b]
theorem RL(d:refs.length=256)(c:nodes.length=256){i j:Nat}(b:i<256)(a:j=262+i):(Cm bv wv nv lw pb m refs nodes vs)[j]? =some (.int .i64 (nodes.getD i 0)):=by
 grind[MF,Ay,Al]
theorem FQ(b:refs.length=256)(a:nodes.length=256):(Cm bv wv nv lw pb m refs nodes vs)[518]? =some vs:=by
 grind[MF,Ay]
theorem take_set{xs:List Value}{i:Nat}{v:Value}(h:i<xs.length):xs.take i++[v]++xs.drop (i+1)=xs.set i v:=by
 rw[List.set_eq_take_append_cons_drop,if_pos h];simp
theorem QU{a b c d e f v:Value}{r:List Value}{i j:Nat}(h:j=6+i):(a::b::c::d::e::f::r).set j v=a::b::c::d::e::f::r.set i v:=by subst h;rw[show 6+i=i+6 by omega];rfl
theorem TY(c:refs.length=256)(b:nodes.length=256){i j:Nat}{v:Int}(d:i<256)(a:j=6+i):(Cm bv wv nv lw pb m refs nodes vs).take j++[.int .i64 v]++(Cm bv wv nv lw pb m refs nodes vs).drop (j+1)=Cm bv wv nv lw pb m (refs.set i v) nodes vs:=by
 rw[take_set (by rw[GS c b];omega),QU a,List.set_append_left _ _ (by rw[Ay];omega)];simp[Al,map_set]
theorem wEo(b:refs.length=256)(a:nodes.length=256){i j:Nat}{v:Int}(d:i<256)(c:j=262+i):(Cm bv wv nv lw pb m refs nodes vs).take j++[.int .i64 v]++(Cm bv wv nv lw pb m refs nodes vs).drop (j+1)=Cm bv wv nv lw pb m refs (nodes.set i v) vs:=by
 rw[take_set (by rw[GS b a];omega),QU (show j=6+(256+i)by omega),List.set_append_right _ _ (by rw[Ay];omega),Ay,show 256+i-refs.length=i by omega,List.set_append_left _ _ (by rw[Ay];omega)];simp[Al,map_set]
theorem wEn(b:refs.length=256)(a:nodes.length=256){v:Value}:(Cm bv wv nv lw pb m refs nodes vs).take 518++[v]++(Cm bv wv nv lw pb m refs nodes vs).drop (518+1)=Cm bv wv nv lw pb m refs nodes v:=by
 grind[take_set,GS,QU,Ay]
end
section
variable{P:Program}{ops:Array Oper}{N:Fs}{F:Fr}{E:Ent}{M:Mem}{L:Lc}{o:Oper}
theorem wJr{t e:TypeId}{x y:Operand}{b off a:Nat}{u:Value}{l d:List Value}{L':Lc}{z:List Value}(m:gd ops F o=some true)(j:o.op=.store t x y)(i:ev F x=some (.pointer (some ⟨b,off,none⟩)))(h:ev F y=some u)
  [k:Lay P t 1 a z] (n:u.cells=#[u]) (r:u.oneCell'=true) [at_:At b (.cells l.toArray e (0,0)) L] (f:off<l.length) (g:l.take off++[u]++l.drop (off+1)=d)
  [hp:PutAt b (.cells l.toArray e (0,0)) (.cells d.toArray e (0,0)) L L']:HF P ops N F E M L o (λ_ M' c=>M=M'/\c=L'):=by
 subst g
 grind[JJ]
end
def wFn(x:It)(next:Int)(n:Nat):Prop:=Dj x/\x.key.id≠0/\x.key.id<next/\n≠16
instance(x:It)(next:Int)(n:Nat):Decidable (wFn x next n):=by unfold wFn;exact inferInstance
def AY(f:It->List Vo->Option (List Vo)):List It->List Vo->Option (List Vo)
 |[],acc=>some acc
 |x::xs,acc=>match f x acc with
  |some acc'=>AY f xs acc'
  |none=>none
def KM(next:Int)(x:It)(acc:List Vo):Option (List Vo):=if wFn x next acc.length then some (acc++[CA x])else none
def Ct(s:Sto)(next:Int):Nat->List It->List Vo->Option (List Vo)
 |0=>AY (KM next)
 |l+1=>AY (λx acc=>Ct s next l (kid s x) acc)
variable{acc:List Vo}{f:It->List Vo->Option (List Vo)}{k:Nat}{xs:List It}
theorem PW{a:List Vo}(hk:k<xs.length)(h:f xs[k] acc=some a):AY f (xs.drop k) acc=AY f (xs.drop (k+1)) a:=by
 rw[List.drop_eq_getElem_cons hk,AY,h]
theorem E5(hk:k<xs.length)(h:f xs[k] acc=none):AY f (xs.drop k) acc=none:=by
 rw[List.drop_eq_getElem_cons hk,AY,h]
theorem Na(hk:k=xs.length):AY f (xs.drop k) acc=some acc:=by
 grind[AY]
abbrev FW(bv wv nv lw:Value)(gen root next:Int)(dv:Value):List Value:=[bv,wv,nv,lw,.int .u32 gen,.int .i64 root,.int .u32 next,dv]
def Good(s:Sto)(l:List (Int×Value))(k:Int):Prop:=8<=k/\k<256/\(CS k l).isSome=true/\∃lv xs,Ai s k.toNat=some (lv,xs)/\(BR s lv xs).is=true
variable{M:Mem}{l:List (Int×Value)}{s:Sto}
theorem Good.get{k:Int}(h:Good s l k)(g:MapI M s l):∃lv xs a c p,Ai s k.toNat=some (lv,xs)/\(BR s lv xs).is=true/\NS M (.slice a xs.length c) xs/\CS k l=some (.agg (PH lv (.slice a xs.length c) p).toArray):=by
 obtain⟨t,r,m,lv,xs,j,o⟩:=h
 obtain⟨v,f⟩:=Option.isSome_iff_exists.1 m
 obtain⟨_,_,e,d,sl,b,i,rfl⟩:=g.ent k v f
 rw[j]at b;cases b
 obtain⟨a,c,n,rfl,_⟩:=id i
 grind
variable{lv:Int}
theorem UT(a:NdOk lv xs)(h:(BR s lv xs).is=true)(e:0<lv){x:It}(b:x∈xs):(8<=x.ref/\x.ref<256)/\∃ys,Ai s x.ref.toNat=some (lv-1,ys)/\ys≠[]/\(BR s (lv-1) ys).is=true:=by
 have c:xs≠[]:=List.ne_nil_of_mem b
 unfold BR at h
 rw[if_neg c]at h
 obtain⟨n,rfl⟩:∃n:Nat,lv=((n+1:Nat):Int):=⟨(lv-1).toNat,by omega⟩
 rw[Int.toNat_natCast]at h
 have d:=(Gg h x b).1
 obtain⟨ys,k,j,i⟩:=Q2 d
 have g:=a.ref x b
 have f:=a.up e x b
 grind[BR]
theorem Good.kid{k:Int}(h:Good s l k)(j:MapI M s l)(a:Ai s k.toNat=some (lv,xs))(f:0<lv){x:It}(b:x∈xs):Good s l x.ref:=by
 obtain⟨t,r,o,i,g,e,d⟩:=h
 rw[a]at e;cases e
 obtain⟨c,ys,n,_,m⟩:=UT (Ar a) d f b
 exact⟨c.1,c.2,j.kid k lv xs o a d f x b,_,ys,n,m⟩
def VolsP(s:Sto)(cb m:Nat)(bv wv nv lw pb:Value)(refs nodes:List Int)(l:List (Int×Value))(r:Option (List Vo))(u:Value)(L':Lc):Prop:=match r with
 |none=>u=.int .i64 8/\L'=[]
 |some acc=>u=.int .i64 0/\∃vs Rv,L'=Rv++[(cb,cE (Cm bv wv nv lw pb m refs nodes vs) DS),(m,A4 l)]/\Own vs Rv TV 4 acc.length (acc.flatMap CU)
def Xu(s:Sto)(cb m:Nat)(bv wv nv lw pb:Value)(refs nodes:List Int)(l:List (Int×Value))(pv:List Value)(next:Int)(lv:Nat):Prop:=∀(xs:List It)(sl:Value)(acc:List Vo)(vs:Value)(Rv:Lc)(M:Mem),MapI M s l->NS M sl xs->NdOk (lv:Int) xs->(0<lv->∀x∈xs,Good s l x.ref/\∃ys,Ai s x.ref.toNat=some ((lv:Int)-1,ys))->Own vs Rv TV 4 acc.length (acc.flatMap CU)->acc.length<=16->
 SpecL prog 139 #[pB cb,.agg pv.toArray,.agg #[.int .i64 lv,sl]] M (Rv++[(cb,cE (Cm bv wv nv lw pb m refs nodes vs) DS),(m,A4 l)])
  λu M' L'=>VolsP s cb m bv wv nv lw pb refs nodes l (Ct s next lv xs acc) u L'
variable{L':Lc}{cb:Nat}{r:Option (List Vo)}{u:Value}
theorem VolsP.form{m:Nat}{d a nv c b:Value}{refs nodes:List Int}(h:VolsP s cb m d a nv c b refs nodes l r u L'):∃e,u=.int .i64 e/\((e=8/\r=none/\L'=[])\/(e=0/\∃acc vs f,r=some acc/\L'=f++[(cb,cE (Cm d a nv c b m refs nodes vs) DS),(m,A4 l)]/\Own vs f TV 4 acc.length (acc.flatMap CU))):=by
 unfold VolsP at h
 grind
variable{ys:List It}
theorem wBr{x:It}(h:Ai s x.ref.toNat=some (lv,ys)):kid s x=ys:=by grind[kid]
theorem KL(d:∀x acc a,f x acc=some a->acc.length<=16->a.length<=16):∀(xs:List It)(acc a:List Vo),AY f xs acc=some a->acc.length<=16->a.length<=16
 |[],acc,a,h,c=>by cases h;exact c
 |x::xs,acc,a,h,c=>by
  unfold AY at h
  split at h
  ·rename_i b e;exact KL d xs b a h (d x acc b e c)
  cases h
variable{next:Int}
theorem JY:∀(l:Nat)(xs:List It)(acc a:List Vo),Ct s next l xs acc=some a->acc.length<=16->a.length<=16
 |0=>KL λx acc a h b=>by
  unfold KM at h
  split at h
  ·rename_i c;cases h;have:=c.2.2.2;rw[List.length_append,List.length_cons,length_nil];omega
  cases h
 |l+1=>KL λx acc a h b=>JY l _ acc a h b
theorem XA(s:Sto)(F m:Nat)(X H nv O N:Value)(refs nodes:List Int)(n:refs.length=256)(o:nodes.length=256)(l:List (Int×Value))(L I J K:Value)(V y next:Int)(dv:Value)(xs:List It)(a:Option Addr)(c:Nat)(ps:List (It×Value))(b:List Vo)(z:Value)(G:Lc)(M:Mem)(aq:MapI M s l)(hc:xs.length<=c)(hs:SM M a (ps.flatMap Ac))(hp:ps.map (·.1)=xs)(hb:∀p∈ps,BS M p.2 p.1.val)(f:NdOk ((0:Nat):Int) xs)(C:Own z G TV 4 b.length (b.flatMap CU))(D:b.length<=16):
  SpecL prog 139 #[pB F,.agg (FW L I J K V y next dv).toArray,.agg #[.int .i64 ((0:Nat):Int),.slice a xs.length c]] M (G++[(F,cE (Cm X H nv O N m refs nodes z) DS),(m,A4 l)]) λu M' L'=>VolsP s F m X H nv O N refs nodes l (Ct s next 0 xs b) u L':=by
 have au:=f.lev
 have am:=f.len
 refine sB func139 ntmps139 ?_;intro W
 refine EV λb4 b5=>?_
 refine Cz (α:=Nat×Mem×List Vo×Value×Lc) (λx=>[(0,pB F),(4,pB b4),(5,pB b5),(13,.slice a xs.length c),(14,.int .i64 xs.length),(15,.int .i64 x.1)]) (λx=>x.2.1) (λx=>([(b5,cE [.int .i64 ((0:Nat):Int),.slice a xs.length c] TNd),(b4,cE (FW L I J K V y next dv) 36)]++(x.2.2.2.2++[(F,cE (Cm X H nv O N m refs nodes x.2.2.2.1) DS),(m,A4 l)]))) (λx=>x.1<=xs.length/\MLe M x.2.1/\AY (KM next) xs b=AY (KM next) (xs.drop x.1) x.2.2.1/\Own x.2.2.2.1 x.2.2.2.2 TV 4 x.2.2.1.length (x.2.2.1.flatMap CU)/\x.2.2.1.length<=16) (λx=>xs.length-x.1) (0,M,b,z,G) ⟨Nat.zero_le _,MLe.refl _,rfl,C,D⟩ ?_
 rintro⟨k,Mk,acc,vs,Rv⟩ ⟨hk,r,hI,j,T⟩
 try dsimp only at hk r hI j T⊢
 simp only[cons_append,nil_append]
 have ah:=hs.mono r
 have aj:=λp hp=>(hb p hp).mono r
 refine gj (λal=>?_) λal=>?_
 ·refine gh ?_
  have Q:k<xs.length:=by omega
  obtain⟨sb,so,e0,hx⟩:=ah.open (by intro e;have:=congrArg length e;rw[Aj Ac 5 Ad,length_nil]at this;have h2:=congrArg length hp;rw[length_map]at h2;omega)
  subst e0
  obtain⟨va,vc,ai,ag,ae⟩:=Au hx hp aj Q
  refine gh ?_
  refine lq (Bb (cs:=Fk xs[k] va vc) rfl rfl rfl rfl rfl (λi v P=>(ai i v P).cj _)) ?_
  refine gA λb8=>?_
  refine gt ?_
  have af:xs[k].val.length<=1000000:=by
   have h1:=(BX f.ok xs[k] (getElem_mem Q)).1
   grind[BQ]
  refine gc (Sf xs[k] va vc Mk ag ae af) ?_;rintro _ Mn ak ⟨v,rfl,g⟩
  iterate 2 refine jp rfl ?_
  refine Zi rfl (λd=>?_) (λd=>?_)
  ·refine gA λY=>?_
   refine gj (λt=>?_) λt=>?_
   ·refine gr ?_
    have f:¬wFn xs[k] next acc.length:=by intro S;rw[g (of_decide_eq_true d)]at t;exact S.2.1 t
    simp_all [VolsP,Ct,AY,KM,E5]
   refine gj (λE=>?_) λE=>?_
   ·refine gr ?_
    have f:¬wFn xs[k] next acc.length:=by intro S;rw[g (of_decide_eq_true d)]at E;have h1:(CA xs[k]).id=xs[k].key.id:=rfl;have:=S.2.2.1;omega
    simp_all [VolsP,Ct,AY,KM,E5]
   refine gh ?_
   obtain⟨ad,ab,rfl⟩:=j.form
   refine lq (AE rfl rfl rfl rfl (CJ.loc (FQ n o))) ?_
   refine gj (λU=>?_) λU=>?_
   ·refine gr ?_
    have f:¬wFn xs[k] next acc.length:=by intro S;exact S.2.2.2 (by omega)
    simp_all [VolsP,Ct,AY,KM,E5]
   refine gh ?_
   refine Hr [10] [10] [0,1,2,3,4,5,106,107,8,9,110] Mn ([(Y,cE (CU v) TV),(F,cE (Cm X H nv O N m refs nodes (.slice ad acc.length ab)) DS)]) ([]) ?_
   refine gh ?_
   refine dq rfl (AE rfl rfl rfl rfl (CJ.loc (FQ n o))) ?_
   refine gh ?_
   refine DA rfl rfl rfl (Aa (cs:=[_,_,_,_]) rfl rfl rfl (by rfl) (by rfl) (by rfl)) ?_;rintro _ _ _ ⟨av,rfl,rfl,rfl⟩
   refine Cp (MLe.refl _) (λ_ h=>mem_cons_of_mem _ h) (by first|exact MLe.refl _|assumption) (by simp) ?_
   refine dh rfl (Ba (R:=Rv) (m:=1) rfl rfl rfl rfl j rfl (λi v P=>CJ.loc (by simpa using P)) rfl (by rfl) (by simp[Value.oneCell']) (by omega) (by omega)) ?_;rintro ao _ _ ⟨rfl,Z,rfl,B,_⟩
   refine⟨MLe.refl _,by simp,?_⟩
   obtain⟨ac,aa,rfl⟩:=B.form
   refine gh ?_
   refine Ed rfl rfl (wJr rfl rfl rfl rfl rfl rfl (by rw[GS n o];decide) (wEn n o)) ?_;rintro _ _ _ ⟨rfl,rfl⟩
   refine⟨MLe.refl _,by simp,?_⟩
   refine gh ?_
   have ap:wFn xs[k] next acc.length:=⟨of_decide_eq_true d,λe=>t (by rw[g (of_decide_eq_true d)];exact e),by have:=g (of_decide_eq_true d);rw[this]at E;show xs[k].key.id<next;have:(CA xs[k]).id=xs[k].key.id:=rfl;omega,λe=>U (by omega)⟩
   have P:=g (of_decide_eq_true d)
   subst P
   refine Bw (k+1,Mn,acc++[CA xs[k]],.slice ac (acc.length+1) aa,Z) ⟨by show k+1<=xs.length;omega,r.trans ak,?_,?_,?_⟩ (hs:=λw h=>(h.perm (List.perm_append_comm_assoc Z [_,_,_,_,_] [_,_])).fewer (.cons _ (.cons _ (.cons _ (.refl _)))))
   ·grind [AY,CA,PW,KM]
   ·grind
   grind
  refine ga λY=>?_
  refine gr ?_
  simp_all [wFn,VolsP,Ct,AY,KM,E5]
 refine gh ?_
 refine AK (L':=Rv++[(F,cE (Cm X H nv O N m refs nodes vs) DS),(m,A4 l)]) (λw h=>h.fewer (.cons _ (.cons _ (.refl _)))) ?_
 refine Gd rfl rfl ?_
 unfold VolsP
 rw[show Ct s next 0 xs b=some acc by rw[show Ct s next 0 xs b=AY _ (xs.drop k) acc from hI];exact Na (by omega)]
 grind
theorem Xz(s:Sto)(E m:Nat)(R O nv Q P:Value)(refs nodes:List Int)(ap:refs.length=256)(aq:nodes.length=256)(l:List (Int×Value))(y o r t:Value)(B f next:Int)(dv:Value)(lv:Nat)(ih:Xu s E m R O nv Q P refs nodes l (FW y o r t B f next dv) next lv)(xs:List It)(a:Option Addr)(c:Nat)(ps:List (It×Value))(b:List Vo)(F:Value)(N:Lc)(M:Mem)(J:MapI M s l)(hc:xs.length<=c)(hs:SM M a (ps.flatMap Ac))(hp:ps.map (·.1)=xs)(hb:∀p∈ps,BS M p.2 p.1.val)(U:NdOk ((lv+1:Nat):Int) xs)(I:Own F N TV 4 b.length (b.flatMap CU))(L:b.length<=16)(V:∀x∈xs,Good s l x.ref/\∃ys,Ai s x.ref.toNat=some ((lv:Int),ys)):
  SpecL prog 139 #[pB E,.agg (FW y o r t B f next dv).toArray,.agg #[.int .i64 ((lv+1:Nat):Int),.slice a xs.length c]] M (N++[(E,cE (Cm R O nv Q P m refs nodes F) DS),(m,A4 l)]) λu M' L'=>VolsP s E m R O nv Q P refs nodes l (Ct s next (lv+1) xs b) u L':=by
 have au:=U.lev
 have al:=U.len
 refine sB func139 ntmps139 ?_;intro W
 refine EV λb4 b5=>?_
 refine Cz (α:=Nat×Mem×List Vo×Value×Lc) (λx=>[(0,pB E),(4,pB b4),(5,pB b5),(13,.slice a xs.length c),(14,.int .i64 xs.length),(15,.int .i64 x.1)]) (λx=>x.2.1) (λx=>([(b5,cE [.int .i64 ((lv+1:Nat):Int),.slice a xs.length c] TNd),(b4,cE (FW y o r t B f next dv) 36)]++(x.2.2.2.2++[(E,cE (Cm R O nv Q P m refs nodes x.2.2.2.1) DS),(m,A4 l)]))) (λx=>x.1<=xs.length/\MLe M x.2.1/\AY (λx acc=>Ct s next lv (kid s x) acc) xs b=AY (λx acc=>Ct s next lv (kid s x) acc) (xs.drop x.1) x.2.2.1/\Own x.2.2.2.1 x.2.2.2.2 TV 4 x.2.2.1.length (x.2.2.1.flatMap CU)/\x.2.2.1.length<=16) (λx=>xs.length-x.1) (0,M,b,F,N) ⟨Nat.zero_le _,MLe.refl _,rfl,I,L⟩ ?_
 rintro⟨k,Mk,acc,vs,Rv⟩ ⟨hk,d,hI,D,j⟩
 try dsimp only at hk d hI D j⊢
 simp only[cons_append,nil_append]
 have af:=hs.mono d
 have ah:=λp hp=>(hb p hp).mono d
 refine gj (λaj=>?_) λaj=>?_
 ·refine gh ?_
  have X:k<xs.length:=by omega
  obtain⟨sb,so,e0,hx⟩:=af.open (by intro e;have:=congrArg length e;rw[Aj Ac 5 Ad,length_nil]at this;have h2:=congrArg length hp;rw[length_map]at h2;omega)
  subst e0
  obtain⟨va,vc,ag,ao,am⟩:=Au hx hp ah X
  refine gh ?_
  refine lq (Bb (cs:=Fk xs[k] va vc) rfl rfl rfl rfl rfl (λi v hv=>(ag i v hv).cj _)) ?_
  refine gA λb8=>?_
  refine gt ?_
  refine Hr [10] [10,11] [0,1,2,3,4,5,6,7,8,9,110,11] Mk ([(b8,cE (Fk xs[k] va vc) IT),(b4,cE (FW y o r t B f next dv) 36),(E,cE (Cm R O nv Q P m refs nodes vs) DS),(m,A4 l)]) ([]) ?_
  refine gh ?_
  obtain⟨g,n,K⟩:=V xs[k] (getElem_mem X)
  obtain⟨zl,zs,za,zc,zp,S,ad,ac,ab⟩:=g.get (J.mono d)
  rw[K]at S;cases S
  refine dq rfl (Bc (SI (z:=.agg spnZ.toArray) rfl rfl rfl rfl (by kernel_rfl)) (v':=.agg (PH (lv:Int) (.slice za n.length zc) zp).toArray) (by rw[ab];rfl)) ?_
  refine dq rfl (Bc (WE rfl rfl rfl rfl) (v':=.agg #[.int .i64 (lv:Int),.slice za n.length zc]) rfl) ?_
  have C:=Ar K
  have G:0<lv->∀x∈n,Good s l x.ref/\∃ys,Ai s x.ref.toNat=some ((lv:Int)-1,ys):=λh0 x hx=>⟨g.kid (J.mono d) K (by omega) hx,by obtain⟨_,ys,h1,_⟩:=UT C ad (by omega) hx;exact⟨ys,h1⟩⟩
  refine jd_eh rfl rfl rfl (Bu rfl rfl rfl rfl rfl (by kernel_rfl) (ih n _ acc vs Rv Mk (J.mono d) ac C G D j)) ?_;rintro _ Mn _ ⟨Y,Rn,rfl,ae⟩
  refine⟨Y,by simp,?_⟩
  obtain⟨e,rfl,T⟩:=ae.form
  refine gj (λai=>?_) λai=>?_
  ·refine gr ?_
   simp_all [VolsP,Ct,AY,kid,E5,wBr]
  refine gh ?_
  obtain⟨he,_⟩|⟨_,Z,aa,ak,hr,rfl,H⟩:=T
  ·omega
  refine Bw (k+1,Mn,Z,aa,ak) ⟨by show k+1<=xs.length;omega,d.trans Y,?_,H,JY lv _ _ _ hr j⟩ (hs:=λw h=>(h.perm List.perm_append_comm).fewer (.cons _ (.refl _)))
  grind[AY,PW,wBr]
 refine gh ?_
 refine AK (L':=Rv++[(E,cE (Cm R O nv Q P m refs nodes vs) DS),(m,A4 l)]) (λw h=>h.fewer (.cons _ (.cons _ (.refl _)))) ?_
 refine Gd rfl rfl ?_
 unfold VolsP
 rw[show Ct s next (lv+1) xs b=some acc by rw[show Ct s next (lv+1) xs b=AY _ (xs.drop k) acc from hI];exact Na (by omega)]
 grind
theorem PV(s:Sto)(D m:Nat)(E y nv B z:Value)(refs nodes:List Int)(n:refs.length=256)(r:nodes.length=256)(l:List (Int×Value))(i f g h:Value)(j b next:Int)(C:Value):∀lv:Nat,Xu s D m E y nv B z refs nodes l (FW i f g h j b next C) next lv
 |0=>λxs sl acc vs K M t k o _ d e=>by
  obtain⟨a,c,F,rfl,I,G,H,J⟩:=k
  exact XA s D m E y nv B z refs nodes n r l i f g h j b next C xs a c F acc vs K M t I G H J o d e
 |lv+1=>λxs sl acc vs K M t k o u d e=>by
  obtain⟨a,c,F,rfl,I,G,H,J⟩:=k
  exact Xz s D m E y nv B z refs nodes n r l i f g h j b next C lv (PV s D m E y nv B z refs nodes n r l i f g h j b next C lv) xs a c F acc vs K M t I G H J o d e
   (λx L=>by obtain⟨O,ys,N⟩:=u (by omega) x L;exact⟨O,ys,by rw[N];congr 2;omega⟩)
end Go.Proofs.YtdahhoicackcaaaGreat
