/- Walks: superblocks written. -/
import Derived.Test.YtdahhoicackcaaaGreatZHn
import Derived.Test.YtdahhoicackcaaaGreatZVols
import Derived.Test.YtdahhoicackcaaaGreatZHv
namespace Go.Proofs.YtdahhoicackcaaaGreat
open Go.Proofs.Tryz
open List (getD length_cons cons_append nil_append length length_nil getElem_mem take_length replicate)
set_option linter.unusedSimpArgs false
set_option linter.unusedVariables false
set_option linter.unusedSectionVars false
open Go.RowKit
set_option maxRecDepth 8000
set_option maxHeartbeats 40000000
def inc(r:List Int)(k:Nat):List Int:=r.set k (IntKind.i64.wrap (r.getD k 0+1))
def Ce(lv:Int)(acc:List Int×List Int)(x:It):List Int×List Int:=if x.ref=0 then acc else (inc acc.1 x.ref.toNat,if 0<lv then acc.2++[x.ref]else acc.2)
def BJ(s:Sto):Nat->List Int->List Int->List Int->List Int×List Int
 |0,_,refs,nodes=>(refs,nodes)
 |f+1,st,refs,nodes=>match st.getLast? with
  |none=>(refs,nodes)
  |some k=>if 1<(inc nodes k.toNat).getD k.toNat 0 then BJ s f st.dropLast refs (inc nodes k.toNat)else match Ai s k.toNat with
   |none=>BJ s f st.dropLast refs (inc nodes k.toNat)
   |some (lv,xs)=>BJ s f (xs.foldl (Ce lv) (refs,st.dropLast)).2 (xs.foldl (Ce lv) (refs,st.dropLast)).1 (inc nodes k.toNat)
def F0:Nat:=1600
def DQ(s:Sto)(k:Int):Bool:=match lrn s k (-1)with
 |none=>false
 |some (lv,xs)=>(BR s lv xs).is
theorem Dg(r:List Int)(k:Nat):(inc r k).length=r.length:=by simp[inc]
variable{f:Nat}{s:Sto}
theorem PY{refs nodes:List Int}:BJ s f [] refs nodes=(refs,nodes):=by cases f<;>rfl
variable{k:Int}
theorem LB{st refs nodes:List Int}(h:1<(inc nodes k.toNat).getD k.toNat 0):BJ s (f+1) (st++[k]) refs nodes=BJ s f st refs (inc nodes k.toNat):=by
 grind[BJ]
variable{lv:Int}{xs:List It}
theorem Nh{st refs nodes:List Int}(h:¬1<(inc nodes k.toNat).getD k.toNat 0)(a:Ai s k.toNat=some (lv,xs)):BJ s (f+1) (st++[k]) refs nodes=BJ s f (xs.foldl (Ce lv) (refs,st)).2 (xs.foldl (Ce lv) (refs,st)).1 (inc nodes k.toNat):=by
 grind[BJ]
def Ui(nodes:List Int):Nat:=nodes.countP (λx=>decide (x=0))
theorem JW:∀{nodes:List Int}{k:Nat}{v:Int},k<nodes.length->Ui (nodes.set k v)+(if nodes.getD k 0=0 then 1 else 0)=Ui nodes+(if v=0 then 1 else 0)
 |[],_,_,h=>by cases h
 |x::xs,0,v,_=>by simp[Ui,List.countP_cons];omega
 |x::xs,k+1,v,h=>by
  have:=JW (nodes:=xs) (k:=k) (v:=v) (by simpa using h)
  simp only[Ui,List.set_cons_succ,List.countP_cons,List.getD_cons_succ]at this⊢
  omega
def Few(f:Nat)(nodes:List Int):Prop:=nodes.length=256/\∀k,0<=nodes.getD k 0/\nodes.getD k 0+f<=4000000000000000000
theorem Few.inc{nodes:List Int}(h:Few (f+1) nodes){k:Nat}(hk:k<256):Few f (inc nodes k)/\(Go.Proofs.YtdahhoicackcaaaGreat.inc nodes k).getD k 0=nodes.getD k 0+1:=by
 have e:=(h.2 k).1
 have d:=(h.2 k).2
 have a:IntKind.i64.wrap (nodes.getD k 0+1)=nodes.getD k 0+1:=IntWalk.i64_in _ (by omega)
 have c:(Go.Proofs.YtdahhoicackcaaaGreat.inc nodes k).getD k 0=nodes.getD k 0+1:=by unfold Go.Proofs.YtdahhoicackcaaaGreat.inc;rw[a];simp[getD,h.1,hk]
 refine⟨⟨by rw[Dg];exact h.1,λj=>?_⟩,c⟩
 by_cases b:j=k
 ·grind
 have:(Go.Proofs.YtdahhoicackcaaaGreat.inc nodes k).getD j 0=nodes.getD j 0:=by unfold Go.Proofs.YtdahhoicackcaaaGreat.inc;simp[getD,List.getElem?_set_ne (Ne.symm b)]
 rw[this];have:=h.2 j;omega
theorem Few.less{g:Nat}{nodes:List Int}(h:Few f nodes)(a:g<=f):Few g nodes:=⟨h.1,λk=>by have:=h.2 k;omega⟩
variable{a:List Int×List Int}{j:Nat}
theorem Lh(h:j<xs.length):(xs.take (j+1)).foldl (Ce lv) a=Ce lv ((xs.take j).foldl (Ce lv) a) xs[j]:=by
 rw[List.take_succ_eq_append_getElem h,List.foldl_append];rfl
theorem ZI(a:List Int×List Int)(x:It):(Ce lv a x).1.length=a.1.length/\(Ce lv a x).2.length<=a.2.length+1:=by
 grind[Ce,Dg]
theorem Pq:∀(xs:List It)(a:List Int×List Int),(xs.foldl (Ce lv) a).1.length=a.1.length/\(xs.foldl (Ce lv) a).2.length<=a.2.length+xs.length
 |[],a=>⟨rfl,Nat.le_refl _⟩
 |x::xs,a=>by
  obtain⟨c,e⟩:=Pq xs (Ce lv a x)
  obtain⟨b,d⟩:=ZI (lv:=lv) a x
  rw[List.foldl_cons,c,b,length_cons]
  exact⟨rfl,by omega⟩
theorem HJ{s:Sto}:∀(f:Nat)(st refs nodes:List Int),(BJ s f st refs nodes).1.length=refs.length/\(BJ s f st refs nodes).2.length=nodes.length
 |0,st,refs,nodes=>⟨rfl,rfl⟩
 |f+1,st,refs,nodes=>by
  rw[BJ]
  split
  ·exact ⟨rfl,rfl⟩
  split
  ·have:=HJ (s:=s) f st.dropLast refs (inc nodes ?_)
   rw[Dg]at this;exact this
  split
  ·have:=HJ (s:=s) f st.dropLast refs (inc nodes ?_)
   rw[Dg]at this;exact this
  rename_i k _ _ _ lv xs _
  have:=HJ (s:=s) f (xs.foldl (Ce lv) (refs,st.dropLast)).2 (xs.foldl (Ce lv) (refs,st.dropLast)).1 (inc nodes k.toNat)
  rw[Dg,(Pq xs _).1]at this;exact this
theorem HK:∀(f:Nat){g:Nat}(st refs nodes:List Int),(∀k∈st,8<=k/\k<256)->Few (g+f) nodes->Few g (BJ s f st refs nodes).2
 |0,g,st,refs,nodes,_,h=>h
 |f+1,g,st,refs,nodes,d,h=>by
  have c:∀k∈st.dropLast,8<=k/\k<256:=λk l=>d k (List.dropLast_subset _ l)
  rw[BJ]
  split
  ·exact h.less (by omega)
  rename_i k l
  have r:=d k (List.mem_of_getLast? l)
  have m:=(Few.inc (f:=g+f) h (k:=k.toNat) (by omega)).1
  split
  ·exact HK f _ _ _ c m
  split
  ·exact HK f _ _ _ c m
  rename_i lv xs j
  refine HK f _ _ _ ?_ m
  have i:=Ar j
  have:∀(ys:List It)(a:List Int×List Int),(∀y∈ys,y∈xs)->(∀k∈a.2,8<=k/\k<256)->∀k∈(ys.foldl (Ce lv) a).2,8<=k/\k<256:=by
   intro ys
   induction ys with
   |nil=>intro a _ e;exact e
   |cons y ys o=>
    intro a n e
    refine o _ (λz b=>n z (List.mem_cons_of_mem _ b)) ?_
    unfold Ce
    split
    ·exact e
    rename_i t
    split
    ·intro z b
     rcases List.mem_append.1 b with b|b
     ·exact e z b
     rw[List.mem_singleton.1 b];have:=i.ref y (n y (by simp));omega
    exact e
  exact this xs _ (λ_ h=>h) c
variable{R:Lc}{e:TypeId}{m:Nat}
theorem Own.cut{v:Value}{a:Option Addr}{n c:Nat}{xs ys:List Value}(h:Own v R e 1 n xs)(l:v=.slice a n c)(o:m<=n)(b:ys=xs.take m):Own (.slice a m c) R e 1 m ys:=by
 subst b
 refine⟨by have:=h.1;rw[List.length_take];omega,?_⟩
 rcases h.2 with⟨i,f,d⟩|⟨g,k,j,i,f,d,t,s,r⟩
 ·grind
 grind
theorem WB(h:lrn s k (-1)=none):DQ s k=false:=by grind[DQ]
theorem MH(h:lrn s k (-1)=some (lv,xs)):DQ s k=(BR s lv xs).is:=by grind[DQ]
def TreeP(s:Sto)(cb m:Nat)(bv wv nv lw pb vs:Value)(refs nodes:List Int)(l:List (Int×Value))(k:Int)(u:Value)(M':Mem)(L':Lc):Prop:=
 if DQ s k=true then u=.int .i64 0/\∃l',L'=[(cb,cE (Cm bv wv nv lw pb m (BJ s F0 [k] (inc refs k.toNat) nodes).1 (BJ s F0 [k] (inc refs k.toNat) nodes).2 vs) DS),(m,A4 l')]/\MapI M' s l'/\Ext l l'
 else u=.int .i64 8/\L'=[]
theorem XI(s:Sto)(a1:Aq s)(I m:Nat)(bv S nv U P vs:Value)(d b:List Int)(r:d.length=256)(O:Few F0 b)(H:Int)(M:Mem)(l:List (Int×Value))(aA:CN M s nv P)(a4:MapI M s l):
  SpecL prog 140 #[pB I,.int .i64 H] M [(I,cE (Cm bv S nv U P m d b vs) DS),(m,A4 l)] λu M' L'=>TreeP s I m bv S nv U P vs d b l H u M' L':=by
 have V:=O.1
 refine sB func140 ntmps140 ?_;intro W
 refine gC (NY s a1 I m bv S nv U P (Al d++(Al b++[vs])) (-1) H M l aA a4) ?_;rintro _ M1 _ aU ⟨l2,rfl,ab,a9,a5⟩
 obtain⟨xl,xa,xn,xc,p,rfl,ac⟩:=a5.form
 simp only[cons_append,nil_append]
 refine Br rfl rfl (wAa rfl rfl rfl rfl rfl) (λG=>?_) (λG=>?_)
 ·refine gh ?_
  have a2:DQ s H=true:=by
   rcases ac with⟨_,h2⟩|⟨ys,h1,_,_,h2,_⟩
   ·rw [h2]at G;cases G
   grind[MH]
  have ai:Good s l2 H:=by
   rcases ac with⟨_,h2⟩|⟨ys,h1,_,_,h2,h3⟩
   ·rw [h2]at G;cases G
   obtain⟨h4,h5,h6,_⟩:=Q7 h1;exact⟨h4,h5,h3,xl,ys,h6,by rw[<-h2];exact G⟩
  have aF:=ai.1
  have au:=ai.2.1
  refine Hr [10] [10] [0,1,2,3,4,5,6,7,8,9,110] M1 ([(I,cE (Cm bv S nv U P m d b vs) DS)]) ([]) ?_
  refine gh ?_
  refine dq rfl (GU rfl rfl rfl rfl (by omega)) ?_
  refine dq rfl (AE rfl rfl rfl rfl (CJ.loc (KF r (i:=H.toNat) (by omega) (by omega)))) ?_
  refine dq rfl (qP rfl rfl) ?_
  refine gh ?_
  refine dq rfl (GU rfl rfl rfl rfl (by omega)) ?_
  refine Ed rfl rfl (wJr rfl rfl rfl rfl rfl rfl (by rw[GS r V];omega) (TY r V (i:=H.toNat) (by omega) (by omega))) ?_;rintro _ _ _ ⟨rfl,rfl⟩
  refine⟨MLe.refl _,by simp,?_⟩
  refine gh ?_
  refine lh (Aa (cs:=[_]) rfl rfl rfl (by rfl) (by rfl) (by rfl)) ?_;rintro _ _ _ ⟨ak,rfl,rfl,rfl⟩
  refine gh ?_
  have aT:F0=1600:=rfl
  refine Cz (α:=Nat×List Int×List Int×List Int×Value×Lc) (λx=>[(0,pB I),(5,x.2.2.2.2.1)]) (λ_=>M1) (λx=>(x.2.2.2.2.2++[(I,cE (Cm bv S nv U P m x.2.1 x.2.2.1 vs) DS),(m,A4 l2)])) (λx=>BJ s F0 [H] (inc d H.toNat) b=BJ s x.1 x.2.2.2.1 x.2.1 x.2.2.1/\x.2.2.2.1.length+6*Ui x.2.2.1<=x.1/\x.1<=F0/\x.2.1.length=256/\Few x.1 x.2.2.1/\(∀y∈x.2.2.2.1,Good s l2 y)/\Own x.2.2.2.2.1 x.2.2.2.2.2 3 1 x.2.2.2.1.length (Al x.2.2.2.1)) (λx=>x.1) (F0,inc d H.toNat,b,[H],.slice (some ⟨ak,0,none⟩) 1 1,[(ak,cE [Value.int .i64 H] 3)]) ⟨rfl,by have:Ui b<=b.length:=List.countP_le_length;rw[V]at this;show 1+6*Ui b<=F0;omega,Nat.le_refl _,by rw[Dg];exact r,O,λy Q=>by rw[List.mem_singleton.1 Q];exact ai,⟨rfl,.inr ⟨ak,1,_,rfl,rfl,Nat.le_refl _,by decide,rfl,rfl⟩⟩⟩ ?_
  rintro⟨f,refs,nodes,st,v,R⟩ ⟨hI,a3,a8,r,o,Y,C⟩
  try dsimp only at hI a3 a8 r o Y C⊢
  have V:=o.1
  obtain⟨aH,T,rfl⟩:=C.form
  refine gj (λaj=>?_) λaj=>?_
  ·refine Am (jT (GI rfl (D0 (jT (Ge (Ao (Ah ?_)))))))
   iterate 2 refine jp rfl ?_
   refine lq (KZ rfl rfl rfl) ?_
   obtain⟨st0,k,rfl⟩:∃st0 k,st=st0++[k]:=⟨st.dropLast,st.getLast (λe=>by rw[e]at aj;exact absurd aj (by decide)),(List.dropLast_concat_getLast _).symm⟩
   have K:(st0++[k]).length=st0.length+1:=by simp
   obtain⟨sg,aE,J,e0,e1,aP,_⟩:=C.open (by omega)
   cases e0;cases e1
   have X:=Y k (by simp)
   have aQ:=X.1
   have a6:=X.2.1
   obtain⟨f,rfl⟩:∃f0,f=f0+1:=⟨f-1,by omega⟩
   obtain⟨N,aS⟩:=o.inc (k:=k.toNat) (by omega)
   have ah:=o.1
   refine lq (Bc (qA rfl rfl rfl rfl rfl (by simp only[K];omega)) (v':=.int .i64 (st0.length:Int)) (by rw[K];congr 1;omega)) ?_
   refine lq (Ca rfl rfl rfl rfl (by rw[K];omega)) ?_
   refine lq (AE rfl rfl rfl rfl (by rw[Nat.zero_add,Nat.mul_one];exact C.cj (by simp) (u:=.int .i64 k) (by simp[Al]))) ?_
   refine jp rfl ?_
   refine Am (jT (Ao (Ah ?_)))
   iterate 2 refine jp rfl ?_
   refine lq (KZ rfl rfl rfl) ?_
   refine lq (Bc (qA rfl rfl rfl rfl rfl (by simp only[K];omega)) (v':=.int .i64 (st0.length:Int)) (by rw[K];congr 1;omega)) ?_
   refine lq (Bc (C6 rfl rfl rfl (.no _) (.of (v:=st0.length) rfl (by omega) (by omega)) (.no _) (by omega) (by simp)) (v':=.slice (some ⟨sg,0,none⟩) st0.length T) (by rw[AZ];rfl)) ?_
   refine gh ?_
   refine Hr [10] [10] [0,1,2,3,4,5,6,7,8,9,110] M1 ([(I,cE (Cm bv S nv U P m refs nodes vs) DS)]) ([]) ?_
   refine gh ?_
   refine dq rfl (GU rfl rfl rfl rfl (by omega)) ?_
   refine dq rfl (AE rfl rfl rfl rfl (CJ.loc (RL r ah (i:=k.toNat) (by omega) (by omega)))) ?_
   refine dq rfl (qP rfl rfl) ?_
   refine gh ?_
   refine dq rfl (GU rfl rfl rfl rfl (by omega)) ?_
   refine Ed rfl rfl (wJr rfl rfl rfl rfl rfl rfl (by rw[GS r ah];omega) (wEo r ah (i:=k.toNat) (by omega) (by omega))) ?_;rintro _ _ _ ⟨rfl,rfl⟩
   refine⟨MLe.refl _,by simp,?_⟩
   rw[show nodes.set k.toNat (IntKind.i64.wrap (nodes.getD k.toNat 0+1))=inc nodes k.toNat from rfl]
   have ag:(inc nodes k.toNat).length=256:=by grind[Dg]
   have L:Own (.slice (some ⟨sg,0,none⟩) st0.length T) [(sg,.cells J 3 (0,0))] 3 1 st0.length (Al st0):=C.cut rfl (by omega) (by simp[Al])
   refine gh ?_
   refine lq (GU rfl rfl rfl rfl (by omega)) ?_
   refine lq (AE rfl rfl rfl rfl (CJ.loc (RL r ag (i:=k.toNat) (by omega) (by omega)))) ?_
   refine gj (λaD=>?_) λaD=>?_
   ·refine gh ?_
    have hz:=JW (nodes:=nodes) (k:=k.toNat) (v:=IntKind.i64.wrap (nodes.getD k.toNat 0+1)) (by omega)
    refine Bw (f,refs,inc nodes k.toNat,st0,.slice (some ⟨sg,0,none⟩) st0.length T,[(sg,.cells J 3 (0,0))]) ⟨?_,?_,by show f<=F0;omega,r,N,λy Q=>Y y (List.mem_append_left _ Q),L⟩
    ·show _=BJ s f st0 refs (inc nodes k.toNat)
     grind[LB]
    have aq:=(o.2 k.toNat).1
    have hw:IntKind.i64.wrap (nodes.getD k.toNat 0+1)=nodes.getD k.toNat 0+1:=IntWalk.i64_in _ (by have:=(o.2 k.toNat).2;omega)
    rw[hw,if_neg (by omega),if_neg (by omega)]at hz
    show st0.length+6*Ui (nodes.set k.toNat _)<=f
    grind
   refine gh ?_
   obtain⟨lv,zs,za,zc,zp,am,aK,a0,az⟩:=X.get ab
   have ap:=Ar am
   have aI:=ap.len
   refine lq (Bc (SI (z:=.agg spnZ.toArray) rfl rfl rfl rfl (by kernel_rfl)) (v':=.agg (PH lv (.slice za zs.length zc) zp).toArray) (by rw[az];rfl)) ?_
   refine lq (Bc (WE rfl rfl rfl rfl) (v':=.agg #[.int .i64 lv,.slice za zs.length zc]) rfl) ?_
   refine ga λb7=>?_
   refine Cz (α:=Nat×List Int×List Int×Value×Lc) (λx=>[(0,pB I),(5,x.2.2.2.1),(7,pB b7),(66,.slice za zs.length zc),(67,.int .i64 zs.length),(68,.int .i64 x.1)]) (λ_=>M1) (λx=>((b7,cE [.int .i64 lv,.slice za zs.length zc] TNd)::(x.2.2.2.2++[(I,cE (Cm bv S nv U P m x.2.1 (inc nodes k.toNat) vs) DS),(m,A4 l2)]))) (λx=>x.1<=zs.length/\(x.2.1,x.2.2.1)=(zs.take x.1).foldl (Ce lv) (refs,st0)/\x.2.1.length=256/\(∀y∈x.2.2.1,Good s l2 y)/\x.2.2.1.length<=st0.length+x.1/\Own x.2.2.2.1 x.2.2.2.2 3 1 x.2.2.1.length (Al x.2.2.1)) (λx=>zs.length-x.1) (0,refs,st0,.slice (some ⟨sg,0,none⟩) st0.length T,[(sg,.cells J 3 (0,0))]) ⟨Nat.zero_le _,rfl,r,λy Q=>Y y (List.mem_append_left _ Q),Nat.le_refl _,L⟩ ?_
   rintro⟨j,c,t,v2,R⟩ ⟨hj,n,E,D,ao,B⟩
   try dsimp only at hj n E D ao B⊢
   obtain⟨ae,ad,rfl⟩:=B.form
   refine gj (λaC=>?_) λaC=>?_
   ·refine gh ?_
    have F:j<zs.length:=by omega
    obtain⟨qa,qc,ps,e0,aJ,ax,al,ay⟩:=id a0
    cases e0
    obtain⟨sb,so,e0,hx⟩:=ax.open (by intro e;have:=congrArg length e;rw[Aj Ac 5 Ad,length_nil]at this;have h2:=congrArg length al;rw[List.length_map]at h2;omega)
    subst e0
    obtain⟨va,vc,aB,aN,aM⟩:=Au hx al ay F
    have aL:=ap.ref zs[j] (getElem_mem F)
    refine gh ?_
    refine lq (Bb (cs:=Fk zs[j] va vc) rfl rfl rfl rfl rfl (λi v hv=>(aB i v hv).cj _)) ?_
    refine gA λb9=>?_
    refine gj (λaa=>?_) λaa=>?_
    ·refine gh ?_
     have g:=Lh (lv:=lv) (a:=(refs,st0)) F
     rw[<-n]at g
     unfold Ce at g
     rw[if_pos aa]at g
     refine Bw (j+1,c,t,.slice ae t.length ad,R) ⟨by show j+1<=zs.length;omega,g.symm,?_,?_,?_,?_⟩
     ·exact E
     ·exact D
     ·grind
     omega
    refine gh ?_
    refine Hr [11] [11] [0,1,2,3,4,5,6,7,8,9,10,111] M1 ([(b9,cE (Fk zs[j] va vc) IT),(I,cE (Cm bv S nv U P m c (inc nodes k.toNat) vs) DS)]) ([]) ?_
    refine gh ?_
    refine dq rfl (GU rfl rfl rfl rfl (by omega)) ?_
    refine dq rfl (AE rfl rfl rfl rfl (CJ.loc (KF E (i:=zs[j].ref.toNat) (by omega) (by omega)))) ?_
    refine dq rfl (qP rfl rfl) ?_
    refine gh ?_
    refine dq rfl (GU rfl rfl rfl rfl (by omega)) ?_
    refine Ed rfl rfl (wJr rfl rfl rfl rfl rfl rfl (by rw[GS E ag];omega) (TY E ag (i:=zs[j].ref.toNat) (by omega) (by omega))) ?_;rintro _ _ _ ⟨rfl,rfl⟩
    refine⟨MLe.refl _,by simp,?_⟩
    rw[show c.set zs[j].ref.toNat (IntKind.i64.wrap (c.getD zs[j].ref.toNat 0+1))=inc c zs[j].ref.toNat from rfl]
    refine gj (λZ=>?_) λZ=>?_
    ·refine gh ?_
     refine lh (Aa (cs:=[_]) rfl rfl rfl (by rfl) (by rfl) (by rfl)) ?_;rintro _ _ _ ⟨aV,rfl,rfl,rfl⟩
     refine lh (Ba (R:=R) (m:=1) rfl rfl rfl rfl B rfl (λi v hv=>CJ.loc (by simpa using hv)) rfl (by rfl) (by simp[Value.oneCell']) (by omega) (by omega)) ?_;rintro v3 _ _ ⟨rfl,R3,rfl,af,_⟩
     obtain⟨aw,av,rfl⟩:=af.form
     refine gh ?_
     have g:=Lh (lv:=lv) (a:=(refs,st0)) F
     rw[<-n]at g
     unfold Ce at g
     rw[if_neg aa,if_pos Z]at g
     refine Bw (j+1,inc c zs[j].ref.toNat,t++[zs[j].ref],.slice aw (t.length+1) av,R3) ⟨by show j+1<=zs.length;omega,g.symm,?_,?_,?_,?_⟩ (hs:=λw h=>(h.perm (List.perm_append_comm_assoc R3 [_,_,_] [_,_])).fewer (.cons _ (.cons _ (.refl _))))
     ·grind [inc,Dg]
     ·show ∀y∈t++[zs[j].ref],Good s l2 y
      intro y Q;rcases List.mem_append.1 Q with Q|Q
      ·grind
      rw[List.mem_singleton.1 Q];exact X.kid ab am Z (getElem_mem F)
     ·grind
     grind[Own,Al]
    refine gh ?_
    have g:=Lh (lv:=lv) (a:=(refs,st0)) F
    rw[<-n]at g
    unfold Ce at g
    rw[if_neg aa,if_neg Z]at g
    refine Bw (j+1,inc c zs[j].ref.toNat,t,.slice ae t.length ad,R) ⟨by show j+1<=zs.length;omega,g.symm,?_,?_,?_,?_⟩
    ·grind [inc,Dg]
    ·exact D
    ·grind
    omega
   refine gh ?_
   obtain rfl:j=zs.length:=by omega
   rw[take_length]at n
   have hz:=JW (nodes:=nodes) (k:=k.toNat) (v:=IntKind.i64.wrap (nodes.getD k.toNat 0+1)) (by omega)
   have a7:=(Pq (lv:=lv) zs (refs,st0)).2
   rw[<-n]at a7
   refine Bw (f,c,inc nodes k.toNat,t,.slice ae t.length ad,R) ⟨?_,?_,by show f<=F0;omega,E,N,D,B⟩
   ·grind [BJ,inc,Nh]
   have aq:=(o.2 k.toNat).1
   have hw:IntKind.i64.wrap (nodes.getD k.toNat 0+1)=nodes.getD k.toNat 0+1:=IntWalk.i64_in _ (by have:=(o.2 k.toNat).2;omega)
   rw[hw,if_pos (by omega),if_neg (by omega)]at hz
   show t.length+6*Ui (nodes.set k.toNat _)<=f
   grind
  refine gh ?_
  obtain rfl:st=[]:=List.eq_nil_of_length_eq_zero (by omega)
  rw[PY]at hI
  refine AK (L':=[(I,cE (Cm bv S nv U P m refs nodes vs) DS),(m,A4 l2)]) (λw h=>h.fewer (List.sublist_append_right _ _)) ?_
  refine Gd rfl rfl ?_
  grind[TreeP]
 refine gr ?_
 grind[TreeP,WB,MH]
set_option maxRecDepth 8000
set_option maxHeartbeats 40000000
abbrev QJ:TypeId:=36
def zI:List Int:=replicate 256 0
def B3(s:Sto):List Int->List Int->List Int->Option (List Int×List Int)
 |[],refs,nodes=>some (refs,nodes)
 |r::rs,refs,nodes=>if DQ s r=true then B3 s rs (BJ s F0 [r] (inc refs r.toNat) nodes).1 (BJ s F0 [r] (inc refs r.toNat) nodes).2 else none
def enough(s:Sto)(refs:List Int):Prop:=∀i,i<256->refs.getD i 0<=((s.now.getD i 0).toNat:Int)
instance(s:Sto)(refs:List Int):Decidable (enough s refs):=by unfold enough;exact inferInstance
def DW(root:Int)(dead:List Int)(vs:List Vo):List Int:=(root::dead)++vs.map (·.root)
def cens(s:Sto)(root next:Int)(dead:List Int):Option (List Vo×List Int×List Int):=
 if Aq s/\dead.length<=40/\DQ s root=true then match lrn s root (-1)with
  |none=>none
  |some (lv,xs)=>match Ct s next lv.toNat xs []with
   |none=>none
   |some vs=>match B3 s (DW root dead vs) zI zI with
    |none=>none
    |some (refs,nodes)=>if enough s refs then some (vs,refs,nodes)else none
 else none
variable{next root:Int}{s:Sto}
theorem RK{dead:List Int}(h:¬(Aq s/\dead.length<=40/\DQ s root=true)):cens s root next dead=none:=by grind[cens]
variable{lv:Int}{xs:List It}
theorem Za{dead:List Int}(h:Aq s/\dead.length<=40/\DQ s root=true)(b:lrn s root (-1)=some (lv,xs))(a:Ct s next lv.toNat xs []=none):cens s root next dead=none:=by
 grind[cens]
variable{vs:List Vo}
theorem Wa{dead:List Int}(h:Aq s/\dead.length<=40/\DQ s root=true)(c:lrn s root (-1)=some (lv,xs))(b:Ct s next lv.toNat xs []=some vs)(a:B3 s (DW root dead vs) zI zI=none):cens s root next dead=none:=by
 grind[cens]
variable{r:List Int}
theorem Pw{dead:List Int}{n:List Int}(h:Aq s/\dead.length<=40/\DQ s root=true)(c:lrn s root (-1)=some (lv,xs))(b:Ct s next lv.toNat xs []=some vs)(a:B3 s (DW root dead vs) zI zI=some (r,n)):cens s root next dead=if enough s r then some (vs,r,n)else none:=by
 grind[cens]
variable{i:Nat}
theorem XH{rs refs nodes:List Int}(a:i<rs.length)(h:DQ s rs[i]=true):B3 s (rs.drop i) refs nodes=B3 s (rs.drop (i+1)) (BJ s F0 [rs[i]] (inc refs rs[i].toNat) nodes).1 (BJ s F0 [rs[i]] (inc refs rs[i].toNat) nodes).2:=by
 rw[List.drop_eq_getElem_cons a,B3,if_pos h]
theorem Un{rs refs nodes:List Int}(a:i<rs.length)(h:DQ s rs[i]=false):B3 s (rs.drop i) refs nodes=none:=by
 rw[List.drop_eq_getElem_cons a,B3,if_neg (by rw[h];decide)]
variable{k:Int}
theorem Kc(h:DQ s k=true):8<=k/\k<256/\∃lv xs,lrn s k (-1)=some (lv,xs)/\Ai s k.toNat=some (lv,xs)/\(BR s lv xs).is=true:=by
 unfold DQ at h
 split at h
 ·cases h
 rename_i lv xs a
 obtain⟨d,c,b,_⟩:=Q7 a
 grind
variable{L':Lc}{M':Mem}{cb m:Nat}{l:List (Int×Value)}{u:Value}
theorem TreeP.form{f a nv c b vs:Value}{refs nodes:List Int}(h:TreeP s cb m f a nv c b vs refs nodes l k u M' L'):∃e,u=.int .i64 e/\((e=8/\DQ s k=false/\L'=[])\/(e=0/\DQ s k=true/\∃d,L'=[(cb,cE (Cm f a nv c b m (BJ s F0 [k] (inc refs k.toNat) nodes).1 (BJ s F0 [k] (inc refs k.toNat) nodes).2 vs) DS),(m,A4 d)]/\MapI M' s d)):=by
 grind[TreeP]
theorem Ji:zI.length=256:=List.length_replicate
theorem Zm(f:Nat)(a:f<=1000000):Few f zI:=⟨Ji,λk=>by
 have:zI.getD k 0=0:=by unfold zI;rw[getD,List.getElem?_replicate];split<;>rfl
 rw[this];omega⟩
section
variable{P:Program}{ops:Array Oper}{N:Fs}{F:Fr}{E:Ent}{M:Mem}{L:Lc}{o:Oper}
theorem Z7{x j:Operand}{t e:TypeId}{n g f:Nat}{z cs:List Value}{k:IntKind}{i:Int}{d:TypeDesc}{v:Value}(C:gd ops F o=some true)(s:o.op=.index t x j)(l:ev F x=some (.agg cs.toArray))(B:ev F j=some (.int k i))[r:Und P t (.array n e)][D:Und P e d][y:Lay P e g f z](E:G3 d=false)
  (h:0<=i/\i<n) (m:cs[i.toNat*g]? =some v):QF P ops N F M L o v:=
 BG C λI a w H=>by
  obtain⟨G,u,c,b,_⟩:=y.info
  simp[execOp,s,a.ev l,a.ev B,Instr.index,asIntOf,run_underlying r.h,h,sizeOf,typeInfo,c,b,part,CX D.h,E,m]
end
theorem T0{c a nv b:Value}{p:Option Addr}:GW ([(0,4),(4,1),(5,1),(6,256),(262,256),(518,1)][·]?) ([.slice none 0 0,.slice none 0 0,.slice none 0 0,.slice none 0 0,.pointer none,.map none]++(replicate 512 (.int .i64 0)++([.slice none 0 0]))) [(0,.agg #[c,a,nv,b]),(1,.pointer p),(2,.map (some m))]=some (Cm c a nv b (.pointer p) m zI zI (.slice none 0 0)):=by
 have h:(replicate 512 (Value.int .i64 0)++[Value.slice none 0 0])=Al zI++(Al zI++[.slice none 0 0]):=by
  simp_all [zI,Al]
 rw[h]
 have d:(Al zI++(Al zI++[Value.slice none 0 0])).length=513:=by grind
 show _=some (c::a::nv::b::.pointer p::.map (some m)::(Al zI++(Al zI++[Value.slice none 0 0])))
 generalize Al zI++(Al zI++[Value.slice none 0 0])=r at d
 simp[GW,Value.cells,d]
 rfl
def NI(M:Mem)(v:Value)(xs:List Int):Prop:=∃a c,v=.slice a xs.length c/\xs.length<=c/\SM M a (Al xs)
variable{M:Mem}
theorem NI.mono{v:Value}{xs:List Int}(h:NI M v xs)(b:MLe M M'):NI M' v xs:=by
 obtain⟨a,c,f,e,d⟩:=h;exact⟨a,c,f,e,d.mono b⟩
theorem DB(xs:List Int):∀v∈Al xs,v.oneCell'=true:=by
 intro v a
 obtain⟨x,_,rfl⟩:=List.mem_map.1 a
 rfl
variable{R:Lc}{e:TypeId}
theorem Own.cast{v:Value}{a n n':Nat}{xs xs':List Value}(h:Own v R e a n xs)(c:n=n')(b:xs=xs'):Own v R e a n' xs':=by grind
def TakeP(s:Sto)(root next:Int)(dead:List Int)(u:Value)(M':Mem):Prop:=match cens s root next dead with
 |none=>u=.tuple #[.pointer none,.int .i64 8]
 |some (vs,refs,nodes)=>∃cb bv wv nv lw pb m a c,u=.tuple #[pB cb,.int .i64 0]/\M' cb=some (cE (Cm bv wv nv lw pb m refs nodes (.slice a vs.length c)) DS)/\vs.length<=c/\SM M' a (vs.flatMap CU)/\refs.length=256/\nodes.length=256
theorem XK(s:Sto)(k d nv g:Value)(r a next:Int)(da:Option Addr)(dc:Nat)(dead:List Int)(M:Mem)(h1:LS M k s.blocks)(h2:WS M d s.waits)(h3:BS M nv s.now)(h4:BS M g s.last)(bo:dead.length<=dc)(aK:SM M da (Al dead))(bm:dead.length<=1000000):
  SpecL prog 76 #[.agg (FW k d nv g r a next (.slice da dead.length dc)).toArray] M [] λu M' L'=>TakeP s a next dead u M'/\L'=[]:=by
 have ag:ST M (.agg #[k,d,nv,g]) s:=⟨_,_,_,_,rfl,h1,h2,h3,h4⟩
 refine sB func76 ntmps76 ?_;intro W
 refine ga λX=>?_
 refine gQ (CD s _ M ag) ?_
 refine gj (λaj=>?_) λaj=>?_
 ·refine gr ?_
  refine⟨?_,rfl⟩
  unfold TakeP
  rw[RK (λh=>absurd (if_pos h.1) aj)]
  try rfl
 refine gj (λaV=>?_) λaV=>?_
 ·refine gr ?_
  grind[TakeP,RK]
 refine gh ?_
 have H:Aq s:=Classical.byContradiction λh=>aj (by unfold Dp;rw[if_neg h];decide)
 have ba:s.now.length=256:=H.2.1.1
 have bf:s.waits.length<=4096:=H.1.2.1
 refine Cg ([(X,cE (FW k d nv g r a next (.slice da dead.length dc)) QJ)]) (by kernel_rfl) (by simp) ?_
 refine gk [0,1,2,3] ?_
 refine Ch (α:=Mem×Nat×Nat) (λy=>MLe M y.1/\BN y.1 (.pointer (some ⟨y.2.1,0,none⟩)) s) (λy=>[(1,pB X),(29,.agg (Cm k d nv g (.pointer (some ⟨y.2.1,0,none⟩)) y.2.2 zI zI (.slice none 0 0)).toArray)]) (λy=>y.1) (λy=>[(y.2.2,A4 []),(X,cE (FW k d nv g r a next (.slice da dead.length dc)) QJ)]) 2 #[true,true,true,true,true,true,true,false,false] ?_ (λaY=>?_)
 ·rintro ⟨M1,G,l⟩ ⟨P,O⟩
  try dsimp only at P O⊢
  refine aO 7 ?_
  refine sh rfl (Bf (cs:=Cm k d nv g (pB G) l zI zI (.slice none 0 0)) rfl rfl rfl rfl) ?_;rintro _ _ _ ⟨cb,rfl,rfl,rfl⟩
  refine aG (P) ?_
  refine gk [8] ?_
  refine D3 (by kernel_rfl) ?_
  refine gC (NY s H cb l k d nv g (pB G) (Al zI++(Al zI++[.slice none 0 0])) (-1) a M1 [] ⟨h3.mono P,O⟩ MapI.nil) ?_;rintro _ M2 _ ai ⟨l2,rfl,J,aJ,aF⟩
  obtain⟨xl,xa,xn,xc,p,rfl,au⟩:=aF.form
  simp only[cons_append,nil_append]
  refine gA λb4=>?_
  refine Br rfl rfl (AE rfl rfl rfl rfl (CJ.loc rfl)) (λQ=>?_) (λQ=>?_)
  ·refine gh ?_
   obtain⟨_,aC⟩|⟨ys,K,rfl,a3,ao,aH⟩:=au
   ·rw [aC]at Q;cases Q
   obtain⟨aA,ad,ae,_⟩:=Q7 K
   have aa:=Ar ae
   have ac:DQ s a=true:=by grind[MH]
   have Z:Aq s/\dead.length<=40/\DQ s a=true:=⟨H,by omega,ac⟩
   have aI:Good s l2 a:=⟨aA,ad,aH,xl,ys,ae,by rw[<-ao];exact Q⟩
   have aZ:=aa.lev
   obtain⟨B,rfl⟩:∃n:Nat,xl=(n:Int):=⟨xl.toNat,by omega⟩
   have af:0<B->∀x∈ys,Good s l2 x.ref/\∃zs,Ai s x.ref.toNat=some ((B:Int)-1,zs):=λh0 x hx=>⟨aI.kid J ae (by omega) hx,by obtain⟨_,zs,h1,_⟩:=UT aa (by rw[<-ao];exact Q) (by omega) hx;exact⟨zs,h1⟩⟩
   refine gC (PV s cb l k d nv g (pB G) zI zI Ji Ji l2 k d nv g r a next (.slice da dead.length dc) B ys _ [] (.slice none 0 0) [] M2 J a3 aa af (Own.nil _ _) (by simp)) ?_;rintro _ M3 bq V a4
   obtain⟨e,rfl,al⟩:=a4.form
   refine gj (λaU=>?_) λaU=>?_
   ·refine gr ?_
    grind[TakeP,Za]
   refine gh ?_
   obtain⟨he,_⟩|⟨_,b,bb,Rv,ab,rfl,ap⟩:=al
   ·omega
   simp only[List.append_assoc,cons_append,nil_append]
   refine EM ap (by simp) ?_
   intro Mv D C T ev a5 ak;subst ev
   have ay:=JY _ _ _ _ ab (by simp)
   refine gh ?_
   refine lh (Aa (cs:=[_]) rfl rfl rfl (by rfl) (by rfl) (by rfl)) ?_;rintro _ _ _ ⟨ax,rfl,rfl,rfl⟩
   refine gh ?_
   refine lh (Dx (R:=[(ax,cE [Value.int .i64 a] 3)]) (xs:=[.int .i64 a]) (news:=Al dead) (n:=1) rfl rfl rfl rfl ⟨rfl,.inr ⟨ax,1,_,rfl,rfl,Nat.le_refl _,by decide,rfl,rfl⟩⟩ (by rw[Ay,Nat.mul_one]) (aK.mono (P.trans (ai.trans (V.trans T)))) (by rfl) (DB _) (by omega) (by omega)) ?_;rintro be _ _ ⟨rfl,aX,rfl,c⟩
   obtain⟨a2,a0,rfl⟩:=c.form
   refine jp rfl ?_
   refine Am (jT (Ao (Ao (Ah ?_))))
   refine jp rfl ?_
   refine lq (BZ rfl rfl rfl) ?_
   refine lq (Ak rfl rfl rfl rfl rfl) ?_
   refine lq (AE rfl rfl rfl rfl (CJ.loc (FQ Ji Ji))) ?_
   refine gh ?_
   refine Cz (α:=Nat×Lc×Value) (λx=>[(1,pB X),(2,pB cb),(5,x.2.2),(55,(.slice D b.length C)),(56,.int .i64 b.length),(57,.int .i64 x.1)]) (λ_=>Mv) (λx=>(x.2.1++[(cb,cE (Cm k d nv g (pB G) l zI zI (.slice D b.length C)) DS),(l,A4 l2),(b4,cE (PH (B:Int) (.slice xa ys.length xc) p) wKu),(X,cE (FW k d nv g r a next (.slice da dead.length dc)) QJ)])) (λx=>x.1<=b.length/\Own x.2.2 x.2.1 3 1 ((a::dead)++(b.take x.1).map (·.root)).length (Al ((a::dead)++(b.take x.1).map (·.root)))) (λx=>b.length-x.1) (0,aX,.slice a2 (1+dead.length) a0) ⟨Nat.zero_le _,c.cast (by simp;omega) (by simp[Al])⟩ ?_
   rintro⟨i,R,rv⟩ ⟨hi,c⟩
   try dsimp only at hi c⊢
   refine gj (λaT=>?_) λaT=>?_
   ·refine gh ?_
    have E:i<b.length:=by omega
    obtain⟨sb,so,e0,hx⟩:=ak.open (by intro e;have:=congrArg length e;rw[Aj CU 4 (λ_=>rfl),length_nil]at this;omega)
    subst e0
    refine gh ?_
    refine lq (Bb (cs:=CU b[i]) rfl rfl rfl rfl rfl (λj v hv=>(Cs CU 4 (λ_=>rfl) hx (show b[i]? =some b[i]by simp[E]) j v hv).cj _)) ?_
    refine ga λb7=>?_
    refine lh (Aa (cs:=[_]) rfl rfl rfl (by rfl) (by rfl) (by rfl)) ?_;rintro _ _ _ ⟨bp,rfl,rfl,rfl⟩
    refine lh (Ba (R:=R) (m:=1) rfl rfl rfl rfl c rfl (λi v hv=>CJ.loc (by simpa using hv)) rfl (by rfl) (by simp[Value.oneCell']) (by simp only[List.length_append,length_cons,List.length_map,List.length_take];omega) (by omega)) ?_;rintro bc _ _ ⟨rfl,R2,rfl,S,_⟩
    obtain⟨a1,az,rfl⟩:=S.form
    refine gh ?_
    refine Bw (i+1,R2,.slice a1 _ az) ⟨by show i+1<=b.length;omega,?_⟩ (hs:=λw h=>(h.perm (List.perm_append_comm_assoc R2 [_,_] [_,_,_,_])).fewer (.cons _ (.cons _ (.refl _))))
    show Own _ _ _ _ ((a::dead)++(b.take (i+1)).map (·.root)).length (Al ((a::dead)++(b.take (i+1)).map (·.root)))
    rw[List.take_succ_eq_append_getElem E,List.map_append,<-List.append_assoc]
    grind[Al]
   refine gh ?_
   obtain rfl:i=b.length:=by omega
   rw[take_length]at c
   obtain⟨f,z⟩:∃f,f=DW a dead b:=⟨_,rfl⟩
   have a9:f.length=1+dead.length+b.length:=by grind[DW]
   replace c:=c.cast (n':=f.length) (xs':=Al f) (by rw[z];rfl) (by rw[z];rfl)
   refine EM c (by simp) ?_
   intro Mr ra rc U er bh a8;subst er
   have aw:=P.trans (ai.trans (V.trans (T.trans U)))
   have av:=ai.trans (V.trans (T.trans U))
   refine gh ?_
   refine Cz (α:=Nat×Mem×List Int×List Int×List (Int×Value)) (λx=>[(1,pB X),(2,pB cb),(67,.slice ra f.length rc),(68,.int .i64 f.length),(69,.int .i64 x.1)]) (λx=>x.2.1) (λx=>[(cb,cE (Cm k d nv g (pB G) l x.2.2.1 x.2.2.2.1 (.slice D b.length C)) DS),(l,A4 x.2.2.2.2),(b4,cE (PH (B:Int) (.slice xa ys.length xc) p) wKu),(X,cE (FW k d nv g r a next (.slice da dead.length dc)) QJ)]) (λx=>x.1<=f.length/\MLe Mr x.2.1/\B3 s f zI zI=B3 s (f.drop x.1) x.2.2.1 x.2.2.2.1/\x.2.2.1.length=256/\Few (F0*(f.length-x.1)) x.2.2.2.1/\MapI x.2.1 s x.2.2.2.2) (λx=>f.length-x.1) (0,Mr,zI,zI,l2) ⟨Nat.zero_le _,MLe.refl _,rfl,Ji,Zm _ (by have hf:F0=1600:=rfl;rw[hf,a9];simp only[Nat.sub_zero];omega),J.mono (V.trans (T.trans U))⟩ ?_
   rintro⟨i,Mk,refs,nodes,lk⟩ ⟨hi,o,hI,I,L,Y⟩
   try dsimp only at hi o hI I L Y⊢
   refine gj (λaS=>?_) λaS=>?_
   ·refine gh ?_
    have E:i<f.length:=by omega
    obtain⟨qb,qo,e0,aB⟩:=a8.open (by intro e;have:=congrArg length e;rw[Ay,length_nil]at this;omega)
    subst e0
    refine gh ?_
    refine lq (AE rfl rfl rfl rfl (((aB _ (.int .i64 f[i]) (by rw[Nat.mul_one];simp[Al,E])).mono o).cj _)) ?_
    refine gC (XI s H cb l k d nv g (pB G) (.slice D b.length C) refs nodes I (L.less (by have:F0*1<=F0*(f.length-i):=Nat.mul_le_mul_left _ (by omega);omega)) f[i] Mk lk (⟨h3.mono (aw.trans o),O.mono (av.trans o)⟩) Y) ?_;rintro _ Mn Rt aL a6
    obtain⟨e2,rfl,am⟩:=a6.form
    refine gj (λaQ=>?_) λaQ=>?_
    ·refine gr ?_
     grind[TakeP,Wa,Un]
    refine gh ?_
    obtain⟨bl,_⟩|⟨_,a7,l3,rfl,aq⟩:=am
    ·omega
    obtain⟨bk,bj⟩:=HJ (s:=s) F0 [f[i]] (inc refs f[i].toNat) nodes
    have bg:=Kc a7
    refine Bw (i+1,Mn,_,_,l3) ⟨by show i+1<=f.length;omega,o.trans aL,?_,?_,?_,aq⟩
    ·grind [B3,zI,XH]
    ·grind [BJ,F0,Dg]
    grind[Few,F0,HK]
   refine gh ?_
   refine lq (Bb (cs:=Al refs) rfl rfl rfl rfl (by rw[Ay];exact I) (λj v hv=>CJ.loc (by rw[MF (i:=j) (by omega),List.getElem?_append_left (List.getElem?_eq_some_iff.1 hv).1];exact hv))) ?_
   refine gh ?_
   obtain rfl:i=f.length:=by omega
   rw[List.drop_length]at hI
   refine Cz (α:=Nat) (λi=>[(1,pB X),(2,pB cb),(83,.agg (Al refs).toArray),(84,.int .i64 i)]) (λ_=>Mk) (λ_=>[(cb,cE (Cm k d nv g (pB G) l refs nodes (.slice D b.length C)) DS),(l,A4 lk),(b4,cE (PH (B:Int) (.slice xa ys.length xc) p) wKu),(X,cE (FW k d nv g r a next (.slice da dead.length dc)) QJ)]) (λi=>i<=256/\∀j,j<i->refs.getD j 0<=((s.now.getD j 0).toNat:Int)) (λi=>256-i) 0 ⟨Nat.zero_le _,λj h=>absurd h (by omega)⟩ ?_
   rintro i ⟨hi,hJ⟩
   try dsimp only at hi hJ⊢
   have ah:=aw.trans o
   refine gj (λaP=>?_) λaP=>?_
   ·refine gh ?_
    have E:i<256:=by omega
    refine lq (Z7 (v:=.int .i64 (refs.getD i 0)) rfl rfl rfl rfl rfl (by omega) (by rw[Nat.mul_one,Int.toNat_natCast];simp[Al,getD,I,E])) ?_
    refine gh ?_
    obtain⟨na,nc,rfl,bi,aE⟩:=id h3
    obtain⟨nb,no,e0,aD⟩:=aE.open (by intro e;have:=congrArg length e;rw[Af,length_nil]at this;omega)
    subst e0
    refine gh ?_
    refine lq (AE rfl rfl rfl rfl (((aD _ _ (by rw[Nat.mul_one];exact Cc (j:=i) (by omega))).mono ah).cj _)) ?_
    refine lq (B7 rfl rfl rfl (by have:=(s.now.getD i 0).toNat_lt;omega)) ?_
    refine gj (λaN=>?_) λaN=>?_
    ·refine gr ?_
     refine⟨?_,rfl⟩
     unfold TakeP
     rw[Pw Z K (by rw[Int.toNat_natCast];exact ab) (by rw[<-z,hI];rfl),if_neg (λh=>by have:=h i (by omega);omega)]
     try rfl
    refine gh ?_
    refine Bw (i+1) ⟨by omega,λj hj=>?_⟩
    grind
   refine gh ?_
   refine AP cb (by simp) ?_
   intro Mf aM aW
   refine gr ?_
   refine⟨?_,rfl⟩
   unfold TakeP
   rw[Pw Z K (by rw[Int.toNat_natCast];exact ab) (by rw[<-z,hI];rfl),if_pos (show enough s refs from λj hj=>hJ j (by omega))]
   exact⟨cb,k,d,nv,g,_,l,D,C,rfl,aW,a5,ak.mono (U.trans (o.trans aM)),I,L.1⟩
  refine gr ?_
  grind[DQ,WB,MH,TakeP,RK]
 refine AR [4,5] (by kernel_rfl) rfl ⟨?_,?_,trivial⟩
 ·refine sh rfl (hC (Kh s _ M ag (by omega) (by omega))) ?_;rintro v4 M4 _ ⟨F,R4,rfl,N,rfl⟩
  refine aG (F) ?_
  simp only[nil_append]
  obtain⟨G,_,_,_,_,rfl,_⟩:=id (N M4 (MLe.refl _) F).ex
  refine aO 5 ?_
  refine sh rfl (Ql rfl rfl) ?_;rintro _ _ _ ⟨l,rfl,rfl,rfl⟩
  refine aG (F) ?_
  refine GJ (i:=6) rfl (by kernel_rfl) (by kernel_rfl) rfl rfl (Bk (cs:=Cm k d nv g (pB G) l zI zI (.slice none 0 0)) rfl rfl rfl T0) ?_
  refine Cr (listed':=#[true,true,true,true,true,true,true,false,false]) (by kernel_rfl) (Cq (Keep.cons (t:=1) rfl (Keep.cons (t:=29) rfl Keep.nil)) ?_)
  simp_all [MLe.refl]
 refine sh rfl (Ql rfl rfl) ?_;rintro _ _ _ ⟨l,rfl,rfl,rfl⟩
 refine aG (MLe.refl _) ?_
 refine aO 4 ?_
 refine sh rfl (hC (Kh s _ M ag (by omega) (by omega))) ?_;rintro v4 M4 _ ⟨F,R4,rfl,N,rfl⟩
 refine aG (F) ?_
 simp only[nil_append]
 obtain⟨G,_,_,_,_,rfl,_⟩:=id (N M4 (MLe.refl _) F).ex
 refine GJ (i:=6) rfl (by kernel_rfl) (by kernel_rfl) rfl rfl (Bk (cs:=Cm k d nv g (pB G) l zI zI (.slice none 0 0)) rfl rfl rfl T0) ?_
 refine Cr (listed':=#[true,true,true,true,true,true,true,false,false]) (by kernel_rfl) (Cq (Keep.cons (t:=1) rfl (Keep.cons (t:=29) rfl Keep.nil)) ?_)
 simp_all [MLe.refl]
structure Po where
 st:Sto
 gen:Int
 root:Int
 next:Int
 dead:List Int
def PT(M:Mem)(v:Value)(p:Po):Prop:=∃bv wv nv lw dv,v=.agg (FW bv wv nv lw p.gen p.root p.next dv).toArray/\LS M bv p.st.blocks/\WS M wv p.st.waits/\BS M nv p.st.now/\BS M lw p.st.last/\NI M dv p.dead
def Ax(p:Po):Int:=match cens p.st p.root p.next p.dead with
 |none=>8
 |some _=>0
theorem Cu(p:Po)(v:Value)(M:Mem)(h:PT M v p)(c:p.dead.length<=1000000):SpecL prog 76 #[v] M [] λu M' L'=>TakeP p.st p.root p.next p.dead u M'/\L'=[]:=by
 obtain⟨m,a,nv,b,k,rfl,j,i,g,f,da,l,rfl,e,d⟩:=h
 grind[XK,da]
theorem TakeP.form{p:Po}(h:TakeP p.st p.root p.next p.dead u M'):∃a,u=.tuple #[.pointer a,.int .i64 (Ax p)]:=by
 grind[TakeP,Ax]
theorem Fn(p:Po)(v:Value)(M:Mem)(h:PT M v p)(d:p.dead.length<=1000000):
  SpecL prog 48 #[v] M [] λu M' L'=>u=.int .i64 (Ax p)/\L'=[]:=by
 have c:=h
 obtain⟨_,_,_,_,_,rfl,_⟩:=c
 refine sB func48 ntmps48 ?_;intro W
 refine ga λf=>?_
 refine gc (Cu p _ M h d) ?_;rintro _ g e b
 obtain⟨a,rfl⟩:=b.form
 refine gr ?_
 grind
set_option maxRecDepth 8000
set_option maxHeartbeats 40000000
abbrev wPb:TypeId:=94
structure Su where
 gen:Int
 root:Int
 next:Int
 table:Int
 dead:List Int
abbrev Uu(x:Su)(dv:Value):List Value:=[.int .u32 x.gen,.int .i64 x.root,.int .u32 x.next,.int .u32 x.table,dv]
def tk(x:Int):Prop:=8<=x/\x<256
instance(x:Int):Decidable (tk x):=by unfold tk;exact inferInstance
def YB:List Int->Int->Int
 |[],_=> -1
 |x::xs,i=>if tk x then YB xs (i+1)else i
variable{k:Nat}{xs:List Int}
theorem wNb(h:k<xs.length)(a:tk xs[k]):YB (xs.drop k) k=YB (xs.drop (k+1)) ((k+1:Nat):Int):=by
 rw[List.drop_eq_getElem_cons h,YB,if_pos a];rfl
theorem wJn(h:k<xs.length)(a:¬tk xs[k]):YB (xs.drop k) k=k:=by
 rw[List.drop_eq_getElem_cons h,YB,if_neg a]
theorem wCa:∀(xs:List Int)(i:Int),0<=i->(0<=YB xs i↔∃x∈xs,¬tk x)
 |[],i,_=>by simp[YB]
 |x::xs,i,a=>by
  rw[YB]
  split
  ·rename_i h
   rw[wCa xs (i+1) (by omega)]
   simp[h]
  rename_i h;exact⟨λ_=>⟨x,by simp,h⟩,λ_=>a⟩
def Ha(x:Su):Prop:=(∀y∈x.dead,tk y)/\tk x.root/\x.dead.length<=40
instance(x:Su):Decidable (Ha x):=by unfold Ha;exact inferInstance
def Hb(x:Su):Int:=if Ha x then 0 else 8
def KP(x:Su):List By:=[A6 x.gen,Cy x.root,A6 x.next,A6 x.table,[bU x.dead.length]].flatten
def Ey(x:Su):List By:=KP x++x.dead.flatMap Cy
def PG(x:Su):List By:=Hc (Ey x)
theorem Uv(x:Su):(KP x).length=15:=rfl
theorem Si(xs:List Int):(xs.flatMap Cy).length=2*xs.length:=by
 induction xs with
 |nil=>rfl
 |cons x xs a=>rw[List.flatMap_cons,List.length_append,a,length_cons];show 2+_=_;omega
theorem KO(x:Su):(Ey x).length=15+2*x.dead.length:=by grind[Ey,Uv,Si]
theorem Wu{x:Su}(h:Ha x):(PG x).length=128:=F2 (by rw[KO];have:=h.2.2;omega)
theorem PX(h:k<xs.length):(xs.take (k+1)).flatMap Cy=(xs.take k).flatMap Cy++Cy xs[k]:=by
 rw[List.take_succ_eq_append_getElem h,List.flatMap_append];simp
theorem Ni(x:Int)(M:Mem):
  SpecL prog 207 #[.int .i64 x] M [] λu _ _=>u=.bool (decide (tk x)):=by
 refine sB func207 ntmps207 ?_;intro W
 refine gj (λa=>?_) λa=>?_
 ·refine gr ?_
  show Value.bool (decide (x<256))=_
  congr 1;exact decide_eq_decide.2 ⟨λh=>⟨a,h⟩,λh=>h.2⟩
 refine gr ?_
 show Value.bool false=_
 congr 1;exact(decide_eq_false (λh=>a h.1)).symm
theorem U7(x:Int)(M:Mem):
  SpecL prog 206 #[.int .i64 x] M [] λu _ _=>u=.bool (!decide (tk x)):=by
 refine sB func206 ntmps206 ?_;intro W
 refine gq (Ni x M) ?_
 refine gr ?_
 rfl
theorem wBy(xs:List Int)(a:Option Addr)(c:Nat)(M:Mem)(hs:SM M a (Al xs))(n:xs.length<=1000000):
  SpecL prog 224 #[.slice a xs.length c,.func (.func 206) #[] #[]] M [] λu _ _=>u=.int .i64 (YB xs 0):=by
 refine sB func224 ntmps224 ?_;intro W
 refine gh ?_
 refine Cz (α:=Nat) (λk=>[(0,.slice a xs.length c),(1,.func (.func 206) #[] #[]),(7,.int .i64 xs.length),(8,.int .i64 k)]) (λ_=>M) (λ_=>[]) (λk=>k<=xs.length/\YB xs 0=YB (xs.drop k) k) (λk=>xs.length-k) 0 ⟨Nat.zero_le _,rfl⟩ ?_
 rintro k ⟨h,f⟩
 try dsimp only at h f⊢
 refine gj (λi=>?_) λi=>?_
 ·refine gh ?_
  have b:k<xs.length:=by omega
  obtain⟨m,l,j,g⟩:=hs.open (by intro e;have:=congrArg length e;rw[Ay,length_nil]at this;omega)
  subst j
  refine gh ?_
  refine lq (AE (v:=.int .i64 xs[k]) rfl rfl rfl rfl ((g _ _ (by rw[Nat.mul_one];simp[Al,b])).cj _)) ?_
  refine Br rfl rfl (CG rfl rfl rfl rfl rfl (by kernel_rfl) (U7 xs[k] M)) (λd=>?_) (λd=>?_)
  ·refine gr ?_
   grind[wJn]
  refine gh ?_
  refine Bw (k+1) ⟨by omega,by rw[f];exact wNb b (by simpa using d)⟩
 refine gr ?_
 obtain rfl:k=xs.length:=by omega
 rw[f,List.drop_length];rfl
theorem wEd(xs:List Int)(a:Option Addr)(c:Nat)(M:Mem)(hs:SM M a (Al xs))(b:xs.length<=1000000):
  SpecL prog 205 #[.slice a xs.length c,.func (.func 206) #[] #[]] M [] λu _ _=>u=.bool (decide (∃x∈xs,¬tk x)):=by
 refine sB func205 ntmps205 ?_;intro W
 refine gq (wBy xs a c M hs b) ?_
 refine gr ?_
 grind[YB,wCa]
theorem QS(x:Su)(da:Option Addr)(i:Nat)(M:Mem)(j:x.dead.length<=i)(e:SM M da (Al x.dead))(f:x.dead.length<=1000000):
  SpecL prog 166 #[.agg (Uu x (.slice da x.dead.length i)).toArray] M [] λu _ _=>u=.int .i64 (Hb x):=by
 refine sB func166 ntmps166 ?_;intro W
 refine gA λk=>?_
 refine Br rfl rfl (CG rfl rfl rfl rfl rfl (by kernel_rfl) (wEd x.dead da i M e f)) (λd=>?_) (λd=>?_)
 ·refine gr ?_
  first|(unfold Hb;rw[if_pos ⟨λy b=>Classical.byContradiction λc=>(of_decide_eq_false d) ⟨y,b,c⟩,of_decide_eq_true a,by omega⟩];done)|(unfold Hb;rw[if_neg (λh=>by first|(obtain⟨y,b,c⟩:=of_decide_eq_true d;exact c (h.1 y b))|exact(of_decide_eq_false a) h.2.1|(have:=h.2.2;omega))])
 refine gg ?_
 refine Br rfl rfl (CG rfl rfl rfl rfl rfl (by kernel_rfl) (Ni x.root M)) (λa=>?_) (λa=>?_)
 ·refine gj (λg=>?_) λg=>?_
  ·refine gr ?_
   first|(unfold Hb;rw[if_pos ⟨λy b=>Classical.byContradiction λc=>(of_decide_eq_false d) ⟨y,b,c⟩,of_decide_eq_true a,by omega⟩];done)|(unfold Hb;rw[if_neg (λh=>by first|(obtain⟨y,b,c⟩:=of_decide_eq_true d;exact c (h.1 y b))|exact(of_decide_eq_false a) h.2.1|(have:=h.2.2;omega))])
  refine gr ?_
  first|(unfold Hb;rw[if_pos ⟨λy b=>Classical.byContradiction λc=>(of_decide_eq_false d) ⟨y,b,c⟩,of_decide_eq_true a,by omega⟩];done)|(unfold Hb;rw[if_neg (λh=>by first|(obtain⟨y,b,c⟩:=of_decide_eq_true d;exact c (h.1 y b))|exact(of_decide_eq_false a) h.2.1|(have:=h.2.2;omega))])
 refine gr ?_
 first|(unfold Hb;rw[if_pos ⟨λy b=>Classical.byContradiction λc=>(of_decide_eq_false d) ⟨y,b,c⟩,of_decide_eq_true a,by omega⟩];done)|(unfold Hb;rw[if_neg (λh=>by first|(obtain⟨y,b,c⟩:=of_decide_eq_true d;exact c (h.1 y b))|exact(of_decide_eq_false a) h.2.1|(have:=h.2.2;omega))])
variable{M:Mem}{b:Nat}{u1:Value}{x1:List By}
theorem LS.five{e d c a:Value}{j i g f:List By}(h:M b=some (cE [u1,e,d,c,a] 30))(s:BS M u1 x1)(r:BS M e j)(o:BS M d i)(n:BS M c g)(m:BS M a f):LS M (.slice (some ⟨b,0,none⟩) 5 5) [x1,j,i,g,f]:=
 ⟨_,5,[(x1,u1),(j,e),(i,d),(g,c),(f,a)],rfl,Nat.le_refl _,SM.of_block (l:=[u1,e,d,c,a]) h,rfl,λp k=>by
  simp only[List.mem_cons,List.not_mem_nil,or_false]at k
  rcases k with rfl|rfl|rfl|rfl|rfl<;>assumption⟩
theorem LH(x:Su)(da:Option Addr)(N:Nat)(M:Mem)(ai:x.dead.length<=N)(S:SM M da (Al x.dead))(ah:x.dead.length<=1000000):
  SpecL prog 102 #[.agg (Uu x (.slice da x.dead.length N)).toArray] M [] λu M' L'=>(if Ha x then ∃s,u=.tuple #[s,.int .i64 0]/\BS M' s (PG x)else u=.tuple #[.slice none 0 0,.int .i64 8])/\L'=[]:=by
 refine sB func102 ntmps102 ?_;intro W
 refine ga λU=>?_
 refine gQ (QS x da N M ai S ah) ?_
 refine gj (λT=>?_) λT=>?_
 ·refine gr ?_
  grind[Ha,Hb]
 refine gh ?_
 have E:Ha x:=Classical.byContradiction λh=>T (by unfold Hb;rw[if_neg h];decide)
 have ae:=E.2.1
 unfold tk at ae
 refine gc (J0 x.root M (by omega)) ?_;rintro _ M1 al ⟨s2,rfl,O⟩
 refine gh ?_
 refine Cg ([(U,cE (Uu x (.slice da x.dead.length N)) wPb)]) (by kernel_rfl) (by simp) ?_
 refine gk [0,1,3,4,5,7,8,10,11,12] ?_
 refine GJ (i:=13) rfl (by kernel_rfl) (by kernel_rfl) rfl rfl (Bc (CV rfl rfl rfl) (by rw[G7])) ?_
 refine Ch (α:=Mem×Value×Value×Value×Value) (λy=>MLe M1 y.1/\BS y.1 y.2.1 (A6 x.gen)/\BS y.1 y.2.2.1 (A6 x.next)/\BS y.1 y.2.2.2.1 (A6 x.table)/\BS y.1 y.2.2.2.2 [bU x.dead.length]) (λy=>[(1,pB U),(25,y.2.1),(26,s2),(29,y.2.2.1),(32,y.2.2.2.1),(37,y.2.2.2.2)]) (λy=>y.1) (λ_=>[(U,cE (Uu x (.slice da x.dead.length N)) wPb)]) 3 #[true,true,true,true,true,true,true,true,true,true,true,true,true,true,true,false,false,false] ?_ (λt=>?_)
 ·rintro ⟨Mr,v2,Z,X,av⟩ ⟨B,L,K,J,D⟩
  try dsimp only at B L K J D⊢
  obtain⟨a2,k2,rfl,_,_⟩:=id L
  obtain⟨a6,k6,rfl,_,_⟩:=id K
  obtain⟨a9,k9,rfl,_,_⟩:=id J
  obtain⟨a1,ax,rfl,_,_⟩:=id D
  obtain⟨a0,aw,rfl,_,_⟩:=id O
  refine aO 15 ?_
  refine sh rfl (Aa (cs:=[_,_,_,_,_]) rfl rfl rfl (by rfl) (by rfl) (by rfl)) ?_;rintro _ _ _ ⟨ap,rfl,rfl,rfl⟩
  refine aG (B) ?_
  refine AH ap (by simp) (by simp) ?_
  intro au f ao
  have af:=LS.five ao (L.mono f) ((O.mono B).mono f) (K.mono f) (J.mono f) (D.mono f)
  refine aO 16 ?_
  refine sh rfl (hC (DL _ _ au af (by simp) (by simp[A6,Cy]))) ?_;rintro _ V _ ⟨F,aq,rfl,m⟩
  refine aG ((B.trans f).trans F) ?_
  refine gk [17] ?_
  refine D3 (by kernel_rfl) ?_
  refine gh ?_
  have I:=al.trans ((B.trans f).trans F)
  refine Cz (α:=Nat×Mem×Lc×Value) (λy=>[(1,pB U),(7,y.2.2.2),(41,.slice da x.dead.length N),(42,.int .i64 x.dead.length),(43,.int .i64 y.1)]) (λy=>y.2.1) (λy=>y.2.2.1++[(U,cE (Uu x (.slice da x.dead.length N)) wPb)]) (λy=>y.1<=x.dead.length/\MLe V y.2.1/\Own y.2.2.2 y.2.2.1 5 1 (15+2*y.1) (Ab (KP x)++Ab ((x.dead.take y.1).flatMap Cy))) (λy=>x.dead.length-y.1) (0,V,aq,_) ⟨Nat.zero_le _,MLe.refl _,m.cast rfl (List.append_nil _).symm⟩ ?_
  rintro⟨k,Mk,R,s⟩ ⟨hk,H,m⟩
  try dsimp only at hk H m⊢
  refine gj (λam=>?_) λam=>?_
  ·refine gh ?_
   have Q:k<x.dead.length:=by omega
   obtain⟨sb,so,e0,hx⟩:=(S.mono I).open (by intro e;have:=congrArg length e;rw[Ay,length_nil]at this;omega)
   subst e0
   have aa:=E.1 x.dead[k] (getElem_mem Q)
   unfold tk at aa
   refine gh ?_
   refine lq (AE (v:=.int .i64 x.dead[k]) rfl rfl rfl rfl (((hx _ _ (by rw[Nat.mul_one];simp[Al,Q])).mono H).cj _)) ?_
   refine gc (J0 x.dead[k] Mk (by omega)) ?_;rintro _ Mw ak ⟨sw,rfl,wa,wc,rfl,ay,ab⟩
   refine gh ?_
   refine lh (Dx (R:=R) (news:=Ab (Cy x.dead[k])) rfl rfl rfl rfl m (by rw[Af,Nat.mul_one]) ab (by rfl) (DC _) (by show _+2<=_;omega) (by omega)) ?_;rintro s' _ _ ⟨rfl,R',rfl,G⟩
   obtain⟨a2,c2,rfl⟩:=G.form
   refine gh ?_
   refine Bw (k+1,Mw,R',.slice a2 _ c2) ⟨by show k+1<=x.dead.length;omega,H.trans ak,?_⟩
   grind[Own,Ab,Cy,PX]
  refine gh ?_
  obtain rfl:k=x.dead.length:=by omega
  rw[take_length]at m
  have ag:=E.2.2
  have P:=KO x
  refine EM m (by simp) ?_
  intro M8 a8 c8 az e8 aj ad;cases e8
  refine gc (by have h1:=P2 (Ey x) a8 c8 M8 (by rw[P];exact aj) (by unfold Ey;rw[show Ab (KP x++x.dead.flatMap Cy)=Ab (KP x)++Ab (x.dead.flatMap Cy)by simp[Ab]];exact ad) (by omega);rw[P]at h1;exact h1) ?_;rintro _ Y b ⟨s9,rfl,ac⟩
  refine gr ?_
  exact⟨by rw[if_pos E];exact⟨_,rfl,ac⟩,rfl⟩
 refine AR [2,14] (by kernel_rfl) rfl ⟨?_,?_,trivial⟩
 ·refine sh rfl (hC (AJ x.gen _)) ?_;rintro v2 M2 _ ⟨d,R2,rfl,C,rfl⟩
  refine aG (d) ?_
  simp only[nil_append]
  refine AR [6,14] (by kernel_rfl) rfl ⟨?_,?_,trivial⟩
  ·refine sh rfl (hC (AJ x.next _)) ?_;rintro Z M6 _ ⟨c,R6,rfl,z,rfl⟩
   refine aG ((d).trans c) ?_
   simp only[nil_append]
   refine AR [9,14] (by kernel_rfl) rfl ⟨?_,?_,trivial⟩
   ·refine sh rfl (hC (AJ x.table _)) ?_;rintro X Y _ ⟨b,R9,rfl,n,rfl⟩
    refine aG (((d.trans c)).trans b) ?_
    simp only[nil_append]
    refine aO 14 ?_
    refine sh rfl (Aa (cs:=[_]) rfl rfl rfl (by rfl) (by rfl) (by rfl)) ?_;rintro _ _ _ ⟨j,rfl,rfl,rfl⟩
    refine aG ((d.trans (c.trans b))) ?_
    refine AH j (by simp) (by simp) ?_
    intro r a o
    have g:BS r (.slice (some ⟨j,0,none⟩) 1 1) [bU x.dead.length]:=⟨_,1,rfl,Nat.le_refl _,SM.of_block (l:=Ab [bU x.dead.length]) o⟩
    exact aR t (_,_,_,_,_) ⟨(d.trans (c.trans (b.trans a))),C.mono ((c.trans (b.trans a))),z.mono ((b.trans a)),n.mono (a),g.mono (MLe.refl _)⟩
   refine sh rfl (Aa (cs:=[_]) rfl rfl rfl (by rfl) (by rfl) (by rfl)) ?_;rintro _ _ _ ⟨j,rfl,rfl,rfl⟩
   refine aG ((d.trans c)) ?_
   refine AH j (by simp) (by simp) ?_
   intro r a o
   have g:BS r (.slice (some ⟨j,0,none⟩) 1 1) [bU x.dead.length]:=⟨_,1,rfl,Nat.le_refl _,SM.of_block (l:=Ab [bU x.dead.length]) o⟩
   refine aO 9 ?_
   refine sh rfl (hC (AJ x.table _)) ?_;rintro X Y _ ⟨b,R9,rfl,n,rfl⟩
   refine aG (((d.trans (c.trans a))).trans b) ?_
   simp only[nil_append]
   exact aR t (_,_,_,_,_) ⟨(d.trans (c.trans (a.trans b))),C.mono ((c.trans (a.trans b))),z.mono ((a.trans b)),n.mono (MLe.refl _),g.mono (b)⟩
  refine sh rfl (Aa (cs:=[_]) rfl rfl rfl (by rfl) (by rfl) (by rfl)) ?_;rintro _ _ _ ⟨j,rfl,rfl,rfl⟩
  refine aG (d) ?_
  refine AH j (by simp) (by simp) ?_
  intro r a o
  have g:BS r (.slice (some ⟨j,0,none⟩) 1 1) [bU x.dead.length]:=⟨_,1,rfl,Nat.le_refl _,SM.of_block (l:=Ab [bU x.dead.length]) o⟩
  refine aO 6 ?_
  refine sh rfl (hC (AJ x.next _)) ?_;rintro Z M6 _ ⟨c,R6,rfl,z,rfl⟩
  refine aG (((d.trans a)).trans c) ?_
  simp only[nil_append]
  refine aO 9 ?_
  refine sh rfl (hC (AJ x.table _)) ?_;rintro X Y _ ⟨b,R9,rfl,n,rfl⟩
  refine aG (((d.trans (a.trans c))).trans b) ?_
  simp only[nil_append]
  exact aR t (_,_,_,_,_) ⟨(d.trans (a.trans (c.trans b))),C.mono ((a.trans (c.trans b))),z.mono (b),n.mono (MLe.refl _),g.mono ((c.trans b))⟩
 refine sh rfl (Aa (cs:=[_]) rfl rfl rfl (by rfl) (by rfl) (by rfl)) ?_;rintro _ _ _ ⟨j,rfl,rfl,rfl⟩
 refine aG (MLe.refl _) ?_
 refine AH j (by simp) (by simp) ?_
 intro r a o
 have g:BS r (.slice (some ⟨j,0,none⟩) 1 1) [bU x.dead.length]:=⟨_,1,rfl,Nat.le_refl _,SM.of_block (l:=Ab [bU x.dead.length]) o⟩
 refine aO 2 ?_
 refine sh rfl (hC (AJ x.gen _)) ?_;rintro v2 M2 _ ⟨d,R2,rfl,C,rfl⟩
 refine aG ((a).trans d) ?_
 simp only[nil_append]
 refine aO 6 ?_
 refine sh rfl (hC (AJ x.next _)) ?_;rintro Z M6 _ ⟨c,R6,rfl,z,rfl⟩
 refine aG (((a.trans d)).trans c) ?_
 simp only[nil_append]
 refine aO 9 ?_
 refine sh rfl (hC (AJ x.table _)) ?_;rintro X Y _ ⟨b,R9,rfl,n,rfl⟩
 refine aG (((a.trans (d.trans c))).trans b) ?_
 simp only[nil_append]
 exact aR t (_,_,_,_,_) ⟨(a.trans (d.trans (c.trans b))),C.mono ((c.trans b)),z.mono (b),n.mono (MLe.refl _),g.mono ((d.trans (c.trans b)))⟩
theorem PZ(n:Int)(M:Mem)(a:0<=n/\n<4294967296):
  SpecL prog 84 #[.int .u32 n] M [] λu _ _=>u=.int .i64 (n%4):=by
 refine sB func84 ntmps84 ?_;intro W
 refine gh ?_
 refine lq (B7 rfl rfl rfl (by omega)) ?_
 refine lq (qRem rfl rfl rfl rfl (by omega) (by omega)) ?_
 refine gr ?_
 rfl
theorem XX(bs:List (List By))(ws:List Wt)(i a:Value)(M:Mem)(z:LS M i bs)(y:WS M a ws)(e:dkOk bs ws)(x:Su)(da:Option Addr)(j:Nat)(n:x.dead.length<=j)(l:SM M da (Al x.dead))(m:x.dead.length<=1000000)(c:Ha x)(E:0<=x.gen/\x.gen<4294967296)(k:ws.length<4096):
  SpecL prog 54 #[.agg #[i,a],.agg (Uu x (.slice da x.dead.length j)).toArray] M [] λu M' L'=>(∃d,u=.tuple #[d,.int .i64 0]/\DK M' d bs (ws++[(x.gen%4,PG x)]))/\L'=[]:=by
 have f:GY bs ws=0:=if_pos e
 refine sB func54 ntmps54 ?_;intro W
 refine Rl λI H O=>?_
 refine gQ (CK bs ws i a M z y) ?_
 refine jf rfl (decide_eq_false (by first|omega|(rw[f];decide))) ?_
 refine gc (LH x da j M n l m) ?_;rintro _ o h b
 rw[if_pos c]at b
 obtain⟨s,rfl,D⟩:=b
 simp only[nil_append]
 refine gg ?_
 refine jf rfl (decide_eq_false (by first|omega|(rw[f];decide))) ?_
 refine gh ?_
 refine Hr [8] [8,9] [0,1,2,3,4,105,6,7,108,9] o ([(H,cE (Uu x (.slice da x.dead.length j)) wPb),(I,cE [i,a] Sa)]) ([]) ?_
 refine gq (PZ x.gen o E) ?_
 refine dh rfl (hC (Hy bs ws i a o (z.mono h) (y.mono h) e (x.gen%4) (by omega) (PG x) s D (Wu c) k)) ?_;rintro _ P _ ⟨g,_,rfl,⟨⟨d,rfl,F,B,rfl,t,r⟩,rfl⟩⟩
 refine⟨g,by simp,?_⟩
 obtain⟨N,L,G,rfl,_⟩:=id t
 obtain⟨K,J,C,rfl,_⟩:=id r
 iterate 2 refine dp rfl rfl ?_
 refine Ed rfl rfl (Ae rfl rfl rfl rfl rfl rfl rfl rfl) ?_;rintro _ _ _ ⟨rfl,rfl⟩
 refine⟨g,by simp,?_⟩
 refine gr ?_
 exact⟨⟨_,rfl,_,_,rfl,t,r⟩,rfl⟩
end Go.Proofs.YtdahhoicackcaaaGreat
