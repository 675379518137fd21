/- Lemmas. -/
import Derived.Test.YtjheijhahehnmaaGreatDoorXHl
namespace Go.Proofs.YtjheijhahehnmaaGreatDoor
open Go.Proofs.Tryz
open List (length_cons length length_nil getElem_mem drop_length length_take length_drop length_map)
set_option linter.unusedSimpArgs false
set_option linter.unusedVariables false
set_option linter.unusedSectionVars false
set_option maxHeartbeats 40000000
set_option maxRecDepth 8000
open Go.RowKit
abbrev TO:TypeId:=359
def Fn(p:Int×Int):List Value:=[iL p.1,iL p.2]
theorem wCk(p:Int×Int):(Fn p).length=2:=rfl
variable{k:Nat}
theorem KS{xs:List By}{v:By}(h:k<xs.length):Dy (xs.set k v)+(xs.getD k 0).toNat=Dy xs+v.toNat:=by
 induction xs generalizing k with
 |nil=>simp at h
 |cons x xs a=>
  cases k with
  |zero=>simp[Dy];omega
  |succ k=>
   have:=a (k:=k) (by simpa using h)
   simp only[Dy,List.set_cons_succ,List.map_cons,List.sum_cons,List.getD_cons_succ]at this⊢
   omega
variable{s:Sto}
theorem CU(h:Au s)(hk:8<=k):Au (AM s k):=⟨h.1,GG hk h.2.1,h.2.2⟩
theorem E7(h:Au s)(hk:8<=k):Au (AS s k):=⟨h.1,GG hk h.2.1,h.2.2⟩
theorem Fu(h:k<s.now.length)(a:s.now.getD k 0≠0):Dy (AM s k).now+1=Dy s.now:=by
 have d:=KS (v:=s.now.getD k 0-1) h;obtain⟨c,b⟩:=TS a;show Dy (s.now.set k (s.now.getD k 0-1))+1=_;omega
theorem FD(h:k<s.now.length)(b:(s.now.getD k 0).toNat=1):Dy (AS s k).now+1=Dy s.now:=by
 have a:=KS (v:=0) h;have:(0:By).toNat=0:=rfl;show Dy (s.now.set k 0)+1=_;omega
variable{j:Nat}{xs:List It}
theorem DN(h:j<xs.length):CW (xs.drop j) s=if xs[j].ref=0 then CW (xs.drop (j+1)) s else if Cg s xs[j].ref.toNat=0 then CW (xs.drop (j+1)) (AM s xs[j].ref.toNat)else none:=by
 rw[List.drop_eq_getElem_cons h,CW]
theorem Xf(v:Value)(xs:List By)(R:Lc)(M:Mem)(h:Own v R 5 1 xs.length (Aa xs))(i:xs.length<=100000):Sg 198 #[v] M R λu k d=>∃e,d=R++e/\Own u e 5 1 xs.length (Aa xs):=by
 have:=SpecL.lend (R:=R) (L:=[]) (post:=λu k d=>Own u d 5 1 xs.length (Aa xs)) (λb l=>EF v xs (Ef M R) (by
  obtain⟨a,c,rfl,j,f⟩:=h.lent (M:=Ef M R) (λp g=>F5 b g);exact⟨a,c,rfl,j,f⟩) i)
 rw[List.append_nil]at this;refine this.mono ?_;grind
variable{A:List Value}{L R:Lc}{M:Mem}{e:TypeId}{g:Nat}
theorem wRg{m a:Nat}{p:Int×Int}(c:Own (.slice (sA g 0) (m+1) a) R e 2 (m+1) (A++Fn p))(d:∀q∈R,q∈L)(f:A.length=m*2):∀i v,(Fn p)[i]? =some v->CJ M L g (0+(m:Int).toNat*2+i) v:=λi v b=>
 c.cj d (by rw[List.getElem?_append_right (by omega),show 0+(m:Int).toNat*2+i-A.length=i by omega];exact b)
theorem wGr(st:List (Int×Int))(p:Int×Int):(p::st).reverse.flatMap Fn=st.reverse.flatMap Fn++Fn p:=by
 grind
theorem wQc(st:List (Int×Int)):(st.reverse.flatMap Fn).length=st.length*2:=by rw[Af Fn 2 wCk,List.length_reverse]
structure LvS where
 s:Sto
 st:List (Int×Int)
 f:Nat
 D:List Nat
 M:Mem
 L:Lc
 R:Lc
 v:Value
structure LvI(bb:Nat)(M1:Mem)(first:List By)(g0:Option Sto)(x:LvS):Prop where
 ok:Au x.s
 mle:MLe M1 x.M
 bo:BOwn x.M bb x.L x.s
 own:Own x.v x.R TO 2 x.st.length (x.st.reverse.flatMap Fn)
 rng:∀p∈x.st,8<=p.1/\p.1<256
 eq:g0=L5 first x.f x.s x.st
 fuel:Dy x.s.now<=x.f
 big:x.st.length+5*x.f<=400000
variable{f:Nat}{l:Int}
theorem wRv{first:List By}{k:Int}{st:List (Int×Int)}(h:s.now.getD k.toNat 0=0):L5 first f s ((k,l)::st)=none:=by
 cases f with
 |zero=>rfl
 |succ f=>rw[L5,iP h]
theorem Pa{first:List By}{k:Int}{st:List (Int×Int)}(h:¬s.now.getD k.toNat 0=0)(a:s.now.getD k.toNat 0≠1):L5 first (f+1) s ((k,l)::st)=L5 first f (AM s k.toNat) st:=by grind[L5]
theorem wRw{first:List By}{k:Int}{st:List (Int×Int)}(h:¬s.now.getD k.toNat 0=0)(b:s.now.getD k.toNat 0=1)(a:Ag s k.toNat=none):L5 first (f+1) s ((k,l)::st)=none:=by grind[L5]
variable{lv:Int}
theorem Ex{first:List By}{k:Int}{st:List (Int×Int)}(h:¬s.now.getD k.toNat 0=0)(b:s.now.getD k.toNat 0=1)(a:Ag s k.toNat=some (lv,xs)):L5 first (f+1) s ((k,l)::st)=if first.getD k.toNat 0=0\/(0<=l/\lv≠l)then none
  else if 0<lv then L5 first f (AS s k.toNat) (EI lv xs++st)
  else match CW xs (AS s k.toNat)with
   |none=>none
   |some t=>L5 first f t st:=by rw[L5,iN h,iN (by simpa using b),a];rfl
theorem Zb:∀(xs:List By),Dy xs<=255*xs.length
 |[]=>zL
 |x::xs=>by
  have a:=Zb xs;have b:=x.toNat_lt;simp only[Dy,List.map_cons,List.sum_cons,length_cons]at a⊢;omega
theorem Pz{xs:List By}(h:xs.getD k 0≠0):0<Dy xs:=by
 have a:k<xs.length:=Classical.byContradiction λb=>h (by simp[List.getD,show xs.length<=k by omega]);have:=KS (v:=0) a;have c:(xs.getD k 0).toNat≠0:=λe=>h (UInt8.toNat.inj e);grind
variable{Rw:Lc}{a:Option Addr}{bb:Nat}{bv:Value}
theorem BOwn.put{c:Nat}{b d:Value}{e:Lc}{t:Sto}(m:LS M bv s.blocks)(l:BS M d s.last)(k:WOwn M b Rw s.waits)(j:t.blocks=s.blocks)(g:t.waits=s.waits)(i:t.last=s.last)(f:t.now.length=s.now.length)
  (h:Own (.slice a s.now.length c) e 5 1 s.now.length (Aa t.now)):BOwn M bb ((bb,cE [bv,b,.slice a s.now.length c,d] Eg)::(Rw++e)) t:=
 ⟨bv,b,a,c,d,Rw,e,by rw[f],by rw[j];exact m,by rw[i];exact l,by rw[f];exact h,by rw[g];exact k⟩
variable{ps:List (It×Value)}
theorem U5(a:ps.map (·.1)=xs):(bw ps 0).map (λq=>(q.1.1.ref,lv-1))=(EI lv xs).reverse:=by
 have:(bw ps 0).map (λq=>(q.1.1.ref,lv-1))=((bw ps 0).map (·.1)).map (λp=>(p.1.ref,lv-1)):=by simp_all
 rw[this,Jc,<-a];unfold EI;rw[List.map_map,List.map_reverse];rfl
variable{α:Type}
theorem DT(xs:List α):(bw xs 0).length=xs.length:=by
 have:=cA length (Jc xs);grind
def LvPost(s:Sto)(root:Int)(bb:Nat)(u:Value)(M':Mem)(L':Lc):Prop:=(leave s root=none/\u=iL 8)\/∃t,leave s root=some t/\u=iL 0/\Au t/\BOwn M' bb L' t
theorem GY(s0:Sto)(root:Int)(hr:8<=root/\root<256)(hst:Au s0)(bb:Nat)(M:Mem)(Lb:Lc)(hB0:BOwn M bb Lb s0):
  Sg 181 #[.pointer (sA bb 0),iL root] M Lb (LvPost s0 root bb):=by
 obtain⟨bv,wv,na,nc,lw,Rw,Rn,rfl,g2,g3,hnow,g5⟩:=id hB0;have hn256:s0.now.length=256:=hst.2.1.1;refine sB func181 ntmps181 ?_;intro W;refine gC (Xf _ s0.now Rn M hnow (by omega)) ?_;rintro _ M1 _ hM1 ⟨R',rfl,hown⟩;obtain⟨fa,fc,rfl⟩:=hown.form;refine Ty (M':=M1) (L':=R'++((bb,.cells [bv,wv,.slice na s0.now.length nc,lw].toArray Eg (0,0))::(Rw++Rn))) (λw h=>h.perm BA) ?_;refine wSd hown (λ_ h=>h) ?_;intro M2 fa2 fc2 hM2 e2 hfc hfs;cases e2;replace hfs:=hfs.mono (EJ _ _);obtain⟨fb,fo,e0,hfx⟩:=hfs.open (by intro e;have:=cA length e;rw[Ac,length_nil]at this;omega);subst e0;refine gh ?_;refine lh (Ab (cs:=[_,_]) rfl rfl rfl (by rfl) (by rfl) (by rfl)) ?_;rintro _ _ _ ⟨b23,rfl,rfl,rfl⟩;refine ga λb6=>?_;refine wDt (α:=LvS) (λx=>x.D) (λx=>[(0,.pointer (sA bb 0)),(5,.slice (sA fb fo) s0.now.length fc),(6,.pointer (sA b6 0))]) (λx=>x.M) (λx=>XG x.D++((b6,.cells [x.v].toArray 360 (0,0))::(x.R++x.L))) (λx=>LvI bb M2 s0.now (leave s0 root) x) (λx=>x.f)
  ⟨s0,[(root,-1)],Dy s0.now,[],M2,((bb,.cells [bv,wv,.slice na s0.now.length nc,lw].toArray Eg (0,0))::(Rw++Rn)),[(b23,.cells [iL root,iL (-1)].toArray TO (0,0))],.slice (sA b23 0) 1 1⟩ rfl (kC (t:=0) rfl (kC (t:=5) rfl (kC (t:=6) rfl Keep.nil))) ⟨hst,mR,hB0.mono (hM1.trans hM2),⟨rfl,.inr ⟨b23,1,_,rfl,rfl,lR,by unfold maxLen;omega,rfl,rfl⟩⟩,(by simpa using hr),rfl,lR,(by have:=Zb s0.now;show 1+5*Dy s0.now<=400000;omega)⟩ (λw h=>h) ?_
 rintro⟨s,st,f,D,Mk,Lk,Rk,v⟩ hI;try dsimp only
 obtain⟨va0,vc0,hv0⟩:=hI.own.form;try dsimp only at hv0
 subst hv0;obtain⟨bv,wv,na,nc,lw,Rw,Rn,hLx,g2,g3,hnow,g5⟩:=id hI.bo;try dsimp only at hLx g2 g3 hnow g5
 have hn256:s.now.length=256:=hI.ok.2.1.1;obtain⟨ng,ncap,ncur,e0,e1,_⟩:=hnow.open (by show 0<s.now.length;omega);cases e0;subst e1;subst hLx;refine gj (λh26=>?_) λh26=>?_
 ·refine Am (jT (HP rfl (E0 (jT (HR (Ao (Aj ?_)))))));obtain⟨⟨k,l⟩,st,rfl⟩:=List.exists_cons_of_ne_nil (show st≠[]from λe=>by subst e;simp at h26);have hown:=hI.own;try dsimp only at hown
  rw[length_cons]at hown;obtain⟨sg,vc1,scur,e0,e1,hs1,hs2,_⟩:=hown.open (by omega);cases e0;subst e1;rw[length_cons];rw[wGr]at hown;have hkr:=hI.rng (k,l) (by simp);try dsimp only at hkr
  have hbig:=hI.big;try dsimp only at hbig
  rw[length_cons]at hbig;have hsl:=wQc st;have hown2:=hown.pop hsl;have hgn:(Aa s.now)[k.toNat]? =some (iB ((s.now.getD k.toNat 0).toNat:Int)):=B5 (by omega);have hlt:=(s.now.getD k.toNat 0).toNat_lt;have hkn:((k.toNat:Nat):Int)=k:=Int.toNat_of_nonneg (by omega);have hrng:∀p∈st,8<=p.1/\p.1<256:=λp hp=>hI.rng p (List.mem_cons_of_mem _ hp);have hfu:=hI.fuel;try dsimp only at hfu
  refine lq (Aw rfl rfl rfl rfl (CJ.loc rfl)) ?_;refine lq (Aw rfl rfl rfl rfl (CJ.loc rfl)) ?_;refine lq (MG rfl rfl rfl) ?_;refine lq (Bo (qA rfl rfl rfl rfl rfl (by omega)) (v':=iL (st.length:Int)) (cA _ (by omega))) ?_;refine gh ?_;refine lq (A0 (cs:=[iL k,iL l]) rfl rfl rfl rfl rfl (wRg hown (by simp) hsl)) ?_;refine lh (AW rfl rfl) ?_;rintro _ _ _ ⟨b7,rfl,rfl,rfl⟩;refine Dv rfl (Ak rfl rfl rfl rfl rfl rfl rfl rfl) ?_;rintro _ _ _ ⟨rfl,rfl⟩;refine Am (jT (Ao (Aj ?_)));refine lq (Aw rfl rfl rfl rfl (CJ.loc rfl)) ?_;refine lq (Aw rfl rfl rfl rfl (CJ.loc rfl)) ?_;refine lq (MG rfl rfl rfl) ?_;refine lq (Bo (qA rfl rfl rfl rfl rfl (by omega)) (v':=iL (st.length:Int)) (cA _ (by omega))) ?_;refine lq (Bo (CK rfl rfl rfl (.no _) (.of (v:=st.length) rfl (by omega) rfl) (.no _) (by omega) (by simp)) (v':=.slice (sA sg 0) st.length vc0) (by rw[AV];rfl)) ?_;refine gh ?_;refine Qp [0,1,2,3,4,5,6,7,8,9] ?_;refine gh ?_;refine dq rfl (Aw rfl rfl rfl rfl (by rw[mO,Nat.zero_add];exact hnow.cj (by simp) hgn)) ?_;refine gj (λh47=>?_) λh47=>?_
  ·refine gh ?_;refine Ep (λw h=>h.tl) ?_;refine gr ?_;exact .inl ⟨by rw[hI.eq];exact wRv (UInt8.toNat.inj (by simpa using h47)),rfl⟩
  refine gh ?_;refine Qp [0,1,2,3,4,5,6,7,8,9] ?_;refine gh ?_;refine dq rfl (Aw rfl rfl rfl rfl (by rw[mO,Nat.zero_add];exact hnow.cj (by simp) hgn)) ?_;refine gj (λh57=>?_) λh57=>?_
  ·refine gh ?_;have hz:¬s.now.getD k.toNat 0=0:=λe=>h47 (by rw[e];rfl);obtain⟨f,rfl⟩:∃f',f=f'+1:=⟨f-1,by have:=Pz hz;omega⟩;have h1:s.now.getD k.toNat 0≠1:=λe=>by rw[e]at h57;exact aD h57 (by decide)
   refine Ga [11] [11] [0,1,2,3,4,5,6,7,8,9,10,111] _ (_) ([]) ?_;refine gh ?_;refine dq rfl (Aw rfl rfl rfl rfl (by rw[mO,Nat.zero_add];exact hnow.cj (by simp) hgn)) ?_;refine dq rfl (wQx rfl rfl rfl rfl rfl (by rw[IntKind.wrap_u8];omega)) ?_;refine gh ?_;refine G2 rfl rfl (DO rfl rfl rfl rfl rfl rfl hnow rfl (by omega)) ?_;rintro _ _ _ ⟨rfl,Rn',rfl,hnow'⟩;refine⟨mR,by simp,?_⟩;refine gh ?_;refine HS ⟨AM s k.toNat,st,f,D,Mk,((bb,.cells [bv,wv,.slice (sA ng 0) s.now.length nc,lw].toArray Eg (0,0))::(Rw++Rn')),[(sg,.cells scur TO (0,0))],.slice (sA sg 0) st.length vc0⟩ rfl (kC (t:=0) rfl (kC (t:=5) rfl (kC (t:=6) rfl Keep.nil))) ⟨CU hI.ok (by omega),hI.mle,BOwn.put g2 g3 g5 rfl rfl rfl (Qb _ _) ?_,hown2,hrng,?_,?_,?_⟩ (by show f<f+1;omega) ?_
   ·simp_all [Aa,AM,TS]
   ·have:=hI.eq;rw[this];exact Pa hz h1
   ·grind [Fu,Dy,AM]
   ·grind
   exact λw h=>h.dropAt.perm BA
  refine gh ?_;have hz:¬s.now.getD k.toNat 0=0:=λe=>h47 (by rw[e];rfl);obtain⟨f,rfl⟩:∃f',f=f'+1:=⟨f-1,by have:=Pz hz;omega⟩;have h1:s.now.getD k.toNat 0=1:=UInt8.toNat.inj (by have:(1:By).toNat=1:=rfl;omega);refine gC (by have:=Nc s k.toNat bb (by omega) hI.ok Mk _ hI.bo;rwa[hkn]at this) ?_;rintro _ Mn _ hMn ⟨hbn,rfl⟩;refine Ty (M':=Mn) (L':=(b7,.cells [iL k,iL l].toArray 359 (0,0))::(XG D++((b6,.cells [.slice (sA sg 0) st.length vc0].toArray 360 (0,0))::([(sg,.cells scur TO (0,0))]++((bb,.cells [bv,wv,.slice (sA ng 0) s.now.length nc,lw].toArray Eg (0,0))::(Rw++[(ng,.cells ncur 5 (0,0))])))))) (λw h=>h.perm BA) ?_;obtain⟨lv,ya,yn,yc,e,rfl,hbn2⟩:=BnPost.form hbn;refine ga λb8=>?_;refine Ga [8] [8] [0,1,2,3,4,5,6,7,108] _ (_) ([]) ?_;refine gh ?_;refine G2 rfl rfl (DO (u:=iB 0) rfl rfl rfl rfl rfl rfl hnow rfl (by omega)) ?_;rintro _ _ _ ⟨rfl,Rn',rfl,hnow'⟩;refine⟨mR,by simp,?_⟩;refine Ql ?_;refine wSi (jT (Ao (Ao ?_)));refine Cc (M':=Mn) (L':=(b8,.cells [iL lv,.slice ya yn yc].toArray 81 (0,0))::(b7,.cells [iL k,iL l].toArray 359 (0,0))::(XG D++((b6,.cells [.slice (sA sg 0) st.length vc0].toArray 360 (0,0))::([(sg,.cells scur TO (0,0))]++((bb,.cells [bv,wv,.slice (sA ng 0) s.now.length nc,lw].toArray Eg (0,0))::(Rw++Rn')))))) (λw h=>h.perm BA) ?_;have hnow2:=hnow';rw[mO,Nat.zero_add]at hnow2;have hclr:Aa (AS s k.toNat).now=(Aa s.now).set k.toNat (iB 0):=by simp_all [AS,Aa]
  refine gj (λh85=>?_) λh85=>?_
  ·refine gh ?_;refine Ep (λw h=>h.tl.tl) ?_;refine gr ?_;obtain⟨_,hnd⟩|⟨_,_⟩:=hbn2
   ·exact .inl ⟨by rw[hI.eq];exact wRw hz h1 hnd,rfl⟩
   omega
  refine gh ?_;obtain⟨_,_⟩|⟨rfl,xs,hnd,rfl,hns⟩:=hbn2
  ·omega
  obtain⟨ya_,yc_,ps,e_,hyc,hys,hyp,hyb⟩:=id hns;cases e_;have hno:=Ar hnd;have hlv:=hno.lev;have hlen:=hno.len;have hpl:ps.length=xs.length:=by grind
  refine gh ?_;refine lq (Aw rfl rfl rfl rfl (((hfx _ _ (by rw[mO];exact B5 (j:=k.toNat) (by omega))).mono (hI.mle.trans hMn)).cj _)) ?_;refine gj (λh92=>?_) λh92=>?_
  ·refine gh ?_;refine Ep (λw h=>h.tl.tl) ?_;refine gr ?_;exact .inl ⟨by rw[hI.eq];show L5 _ _ _ _=_;rw[Ex hz h1 hnd,iP (.inl (UInt8.toNat.inj (by simpa using h92)))],rfl⟩
  refine gj (λh97=>?_) λh97=>?_
  ·refine gj (λh103=>?_) λh103=>?_
   ·refine gh ?_;refine Ep (λw h=>h.tl.tl) ?_;refine gr ?_;exact .inl ⟨by rw[hI.eq];show L5 _ _ _ _=_;rw[Ex hz h1 hnd,iP (.inr ⟨h97,h103⟩)],rfl⟩
   refine gg ?_;have hng:¬(s0.now.getD k.toNat 0=0\/0<=l/\lv≠l):=by
    rintro (e|⟨_,e⟩)
    ·simp_all
    omega
   refine gj (λh108=>?_) λh108=>?_
   ·refine gC (bwi _ _ _ Mn) ?_;rintro _ Mb _ hMb ⟨b111,rfl,e111,rfl⟩;rw[<-hpl]at e111;simp only[List.nil_append];refine gh ?_;refine Cc (M':=Mb) (L':=((b8,.cells [iL lv,.slice ya xs.length yc].toArray 81 (0,0))::(b6,.cells [.slice (sA sg 0) st.length vc0].toArray 360 (0,0))::[(sg,.cells scur TO (0,0))])++(XG D++((bb,.cells [bv,wv,.slice (sA ng 0) s.now.length nc,lw].toArray Eg (0,0))::(Rw++Rn')))) (λw h=>(St.dropAt (A:=[_]) h).perm BA) ?_;refine D0 (R:=(b8,.cells [iL lv,.slice ya xs.length yc].toArray 81 (0,0))::(b6,.cells [.slice (sA sg 0) st.length vc0].toArray 360 (0,0))::[(sg,.cells scur TO (0,0))]) (xs:=bw ps 0) (enc:=(λp:(It×Value)×Nat=>[iL p.2,.agg (Ad p.1).toArray])) (ps:=[112,113]) rfl (by kernel_rfl) (Wy b111 ya yc ps Mb e111 (hys.mono hMb) (by omega))
     (λpre _ R=>∃v Rs,R=(b8,.cells [iL lv,.slice ya xs.length yc].toArray 81 (0,0))::(b6,.cells [v].toArray 360 (0,0))::Rs/\Own v Rs TO 2 (st.length+pre.length) ((st.reverse++pre.map (λq=>(q.1.1.ref,lv-1))).flatMap Fn))
     (λ_ _ _ _=>False)
     (λ_=>rfl) (by decide) ⟨_,_,rfl,(by simpa using hown2)⟩ ?_ ?_ ?_
    ·intro l2 W2 pre y M2 R2 hM2 hI2 hpre;obtain⟨v2,Rs2,rfl,hown3⟩:=hI2;have hym:y.1∈ps:=Q5 (hpre.subset (by simp));obtain⟨⟨yi,yv⟩,yx⟩:=y;have hyb2:=hyb _ hym;obtain⟨va,vc,hyv,_,_⟩:=hyb2;change yv=Value.slice va yi.val.length vc at hyv;subst hyv;obtain⟨a3,c3,rfl⟩:=hown3.form;refine ga λb11=>?_;refine jK λW'=>?_;refine gh ?_;refine lh (Ab (cs:=[_,_]) rfl rfl rfl (by rfl) (by rfl) (by rfl)) ?_;rintro _ _ _ ⟨b121,rfl,rfl,rfl⟩;refine lh (AY (R:=Rs2) (m:=1) rfl rfl rfl rfl hown3 rfl (λi v hv=>CJ.loc (by simpa using hv)) rfl (by rfl) (by simp[Value.oneCell']) (by have:=hpre.length_le;rw[DT,List.length_append,List.length_singleton]at this;omega) (by omega)) ?_;rintro s' _ _ ⟨rfl,R',rfl,hown',_⟩;obtain⟨a4,c4,rfl⟩:=hown'.form;refine gh ?_;refine AL (M':=M2) (L':=(b8,.cells [iL lv,.slice ya xs.length yc].toArray 81 (0,0))::(b6,.cells [.slice a4 (st.length+pre.length+1) c4].toArray 360 (0,0))::R') (λw h=>h.dropAt.dropAt.perm BA) ?_;refine wFt ?_;grind[Fn]
    ·intro d M3 R3 hM3 hI3;obtain⟨v3,Rs3,rfl,hown3⟩:=hI3;refine gh ?_;refine HS ⟨AS s k.toNat,(EI lv xs++st),f,(d::D),M3,((bb,.cells [bv,wv,.slice (sA ng 0) s.now.length nc,lw].toArray Eg (0,0))::(Rw++Rn')),Rs3,v3⟩ rfl (kC (t:=0) rfl (kC (t:=5) rfl (kC (t:=6) rfl Keep.nil))) ⟨E7 hI.ok (by omega),hI.mle.trans (hMn.trans (hMb.trans hM3)),BOwn.put (g2.mono (hMn.trans (hMb.trans hM3))) (g3.mono (hMn.trans (hMb.trans hM3))) (g5.mono (hMn.trans (hMb.trans hM3))) rfl rfl rfl (by unfold AS;simp) (by rw[hclr];exact hnow2),?_,?_,?_,?_,?_⟩ (by show f<f+1;omega) ?_
     ·show Own v3 Rs3 TO 2 (EI lv xs++st).length ((EI lv xs++st).reverse.flatMap Fn);grind[U5,DT,EI]
     ·intro p hp;rcases mA hp with hp|hp
      ·obtain ⟨y,hy,rfl⟩:=List.mem_map.1 hp;have:=hno.up h108 y hy;have:=hno.ref y hy;show 8<=y.ref/\y.ref<256;omega
      grind
     ·have:=hI.eq;rw[this];show L5 _ _ _ _=_;rw[Ex hz h1 hnd,iN hng,iP h108]
     ·grind [FD,Dy,AS]
     ·grind [EI]
     exact λw h=>(h.perm (L':=(b8,.cells [iL lv,.slice ya xs.length yc].toArray 81 (0,0))::(XG (d::D)++((b6,.cells [v3].toArray 360 (0,0))::(Rs3++((bb,.cells [bv,wv,.slice (sA ng 0) s.now.length nc,lw].toArray Eg (0,0))::(Rw++Rn')))))) BA).tl
    grind
   refine gh ?_;refine Cc (M':=Mn) (L':=XG D++((b6,.cells [.slice (sA sg 0) st.length vc0].toArray 360 (0,0))::([(sg,.cells scur TO (0,0))]++((bb,.cells [bv,wv,.slice (sA ng 0) s.now.length nc,lw].toArray Eg (0,0))::(Rw++Rn'))))) (λw h=>h.tl.tl) ?_;refine Cy (α:=Nat×Sto×Mem×Lc) (λx=>[(0,.pointer (sA bb 0)),(5,.slice (sA fb fo) s0.now.length fc),(6,.pointer (sA b6 0)),(124,.slice ya xs.length yc),(125,iL xs.length),(126,iL x.1)]) (λx=>x.2.2.1) (λx=>XG D++((b6,.cells [.slice (sA sg 0) st.length vc0].toArray 360 (0,0))::([(sg,.cells scur TO (0,0))]++x.2.2.2))) (λx=>x.1<=xs.length/\MLe Mn x.2.2.1/\BOwn x.2.2.1 bb x.2.2.2 x.2.1/\Au x.2.1/\Dy x.2.1.now<=f/\CW xs (AS s k.toNat)=CW (xs.drop x.1) x.2.1) (λx=>xs.length-x.1) (0,AS s k.toNat,Mn,((bb,.cells [bv,wv,.slice (sA ng 0) s.now.length nc,lw].toArray Eg (0,0))::(Rw++Rn'))) ⟨zL,mR,BOwn.put (g2.mono hMn) (g3.mono hMn) (g5.mono hMn) rfl rfl rfl (by unfold AS;simp) (by rw[hclr];exact hnow2),E7 hI.ok (by omega),(by have:=FD (show k.toNat<s.now.length by omega) (show (s.now.getD k.toNat 0).toNat=1 by rw[h1];rfl);show Dy (AS s k.toNat).now<=f;omega),rfl⟩ ?_;rintro⟨j,t,Mj,Lj⟩ ⟨hj,hMj,hB,htok,hsum,hloo⟩;try dsimp only at hj hMj hB htok hsum hloo⊢
   refine gj (λh127=>?_) λh127=>?_
   ·refine gh ?_;have hj1:j<xs.length:=by omega
    obtain⟨sb,so,e0,hx⟩:=(hys.mono hMj).open (by intro e;have:=cA length e;rw[Af Ad 5 Ae,length_nil]at this;omega);cases e0;obtain⟨va,vc,hcl,hvc,hvs⟩:=Av hx hyp (λp hp=>(hyb p hp).mono hMj) hj1;have hxr:=hno.ref xs[j] (getElem_mem hj1);have ht256:t.now.length=256:=htok.2.1.1;refine gh ?_;refine lq (A0 (cs:=EL xs[j] va vc) rfl rfl rfl rfl rfl (λi v hv=>(hcl i v hv).cj _)) ?_;refine gA λb13=>?_;refine gj (λh132=>?_) λh132=>?_
    ·refine gh ?_;refine BB (j+1,t,Mj,Lj) ⟨by show j+1<=xs.length;omega,hMj,hB,htok,hsum,by show _=CW (xs.drop (j+1)) t;rw[hloo,DN hj1,iP h132]⟩ (hs:=λw h=>h.tl)
    refine gh ?_;have hkr2:((xs[j].ref.toNat:Nat):Int)=xs[j].ref:=Int.toNat_of_nonneg (by omega);refine lh (BU rfl rfl rfl rfl rfl (by kernel_rfl) (by have:=Gs t xs[j].ref.toNat bb (by omega) Mj Lj hB;rwa[hkr2]at this)) ?_;rintro _ Mq _ ⟨hMq,R',rfl,⟨rfl,hB2⟩⟩;refine gj (λh138=>?_) λh138=>?_
    ·refine gh ?_;refine Ep (λw h=>(h.fewer (List.sublist_append_right _ _)).tl) ?_;refine gr ?_;exact .inl ⟨by rw[hI.eq];show L5 _ _ _ _=_;rw[Ex hz h1 hnd,iN hng,iN h108,hloo,DN hj1,iN h132,iN h138],rfl⟩
    refine gh ?_;have h138':=nN h138;refine BB (j+1,AM t xs[j].ref.toNat,Mq,R') ⟨by show j+1<=xs.length;omega,hMj.trans hMq,hB2 h138',CU htok (by omega),?_,by show _=CW (xs.drop (j+1)) _;rw[hloo,DN hj1,iN h132,iP h138']⟩ (hs:=λw h=>h.dropAt.perm BA);grind[Cg,Fu,Dy,AM]
   refine gh ?_;have hjx:j=xs.length:=by omega
   subst hjx;rw[drop_length]at hloo;refine HS ⟨t,st,f,D,Mj,Lj,[(sg,.cells scur TO (0,0))],.slice (sA sg 0) st.length vc0⟩ rfl (kC (t:=0) rfl (kC (t:=5) rfl (kC (t:=6) rfl Keep.nil))) ⟨htok,hI.mle.trans (hMn.trans hMj),hB,hown2,hrng,?_,hsum,?_⟩ (by show f<f+1;omega) ?_
   ·have:=hI.eq;rw[this];show L5 _ _ _ _=_;rw[Ex hz h1 hnd,iN hng,iN h108,hloo];rfl
   ·grind
   grind
  refine gg ?_;have hng:¬(s0.now.getD k.toNat 0=0\/0<=l/\lv≠l):=by
   rintro (e|⟨e,_⟩)
   ·simp_all
   omega
  refine gj (λh108=>?_) λh108=>?_
  ·refine gC (bwi _ _ _ Mn) ?_;rintro _ Mb _ hMb ⟨b111,rfl,e111,rfl⟩;rw[<-hpl]at e111;simp only[List.nil_append];refine gh ?_;refine Cc (M':=Mb) (L':=((b8,.cells [iL lv,.slice ya xs.length yc].toArray 81 (0,0))::(b6,.cells [.slice (sA sg 0) st.length vc0].toArray 360 (0,0))::[(sg,.cells scur TO (0,0))])++(XG D++((bb,.cells [bv,wv,.slice (sA ng 0) s.now.length nc,lw].toArray Eg (0,0))::(Rw++Rn')))) (λw h=>(St.dropAt (A:=[_]) h).perm BA) ?_;refine D0 (R:=(b8,.cells [iL lv,.slice ya xs.length yc].toArray 81 (0,0))::(b6,.cells [.slice (sA sg 0) st.length vc0].toArray 360 (0,0))::[(sg,.cells scur TO (0,0))]) (xs:=bw ps 0) (enc:=(λp:(It×Value)×Nat=>[iL p.2,.agg (Ad p.1).toArray])) (ps:=[112,113]) rfl (by kernel_rfl) (Wy b111 ya yc ps Mb e111 (hys.mono hMb) (by omega))
    (λpre _ R=>∃v Rs,R=(b8,.cells [iL lv,.slice ya xs.length yc].toArray 81 (0,0))::(b6,.cells [v].toArray 360 (0,0))::Rs/\Own v Rs TO 2 (st.length+pre.length) ((st.reverse++pre.map (λq=>(q.1.1.ref,lv-1))).flatMap Fn))
    (λ_ _ _ _=>False)
    (λ_=>rfl) (by decide) ⟨_,_,rfl,(by simpa using hown2)⟩ ?_ ?_ ?_
   ·intro l2 W2 pre y M2 R2 hM2 hI2 hpre;obtain⟨v2,Rs2,rfl,hown3⟩:=hI2;have hym:y.1∈ps:=Q5 (hpre.subset (by simp));obtain⟨⟨yi,yv⟩,yx⟩:=y;have hyb2:=hyb _ hym;obtain⟨va,vc,hyv,_,_⟩:=hyb2;change yv=Value.slice va yi.val.length vc at hyv;subst hyv;obtain⟨a3,c3,rfl⟩:=hown3.form;refine ga λb11=>?_;refine jK λW'=>?_;refine gh ?_;refine lh (Ab (cs:=[_,_]) rfl rfl rfl (by rfl) (by rfl) (by rfl)) ?_;rintro _ _ _ ⟨b121,rfl,rfl,rfl⟩;refine lh (AY (R:=Rs2) (m:=1) rfl rfl rfl rfl hown3 rfl (λi v hv=>CJ.loc (by simpa using hv)) rfl (by rfl) (by simp[Value.oneCell']) (by have:=hpre.length_le;rw[DT,List.length_append,List.length_singleton]at this;omega) (by omega)) ?_;rintro s' _ _ ⟨rfl,R',rfl,hown',_⟩;obtain⟨a4,c4,rfl⟩:=hown'.form;refine gh ?_;refine AL (M':=M2) (L':=(b8,.cells [iL lv,.slice ya xs.length yc].toArray 81 (0,0))::(b6,.cells [.slice a4 (st.length+pre.length+1) c4].toArray 360 (0,0))::R') (λw h=>h.dropAt.dropAt.perm BA) ?_;refine wFt ?_;grind[Fn]
   ·intro d M3 R3 hM3 hI3;obtain⟨v3,Rs3,rfl,hown3⟩:=hI3;refine gh ?_;refine HS ⟨AS s k.toNat,(EI lv xs++st),f,(d::D),M3,((bb,.cells [bv,wv,.slice (sA ng 0) s.now.length nc,lw].toArray Eg (0,0))::(Rw++Rn')),Rs3,v3⟩ rfl (kC (t:=0) rfl (kC (t:=5) rfl (kC (t:=6) rfl Keep.nil))) ⟨E7 hI.ok (by omega),hI.mle.trans (hMn.trans (hMb.trans hM3)),BOwn.put (g2.mono (hMn.trans (hMb.trans hM3))) (g3.mono (hMn.trans (hMb.trans hM3))) (g5.mono (hMn.trans (hMb.trans hM3))) rfl rfl rfl (by unfold AS;simp) (by rw[hclr];exact hnow2),?_,?_,?_,?_,?_⟩ (by show f<f+1;omega) ?_
    ·show Own v3 Rs3 TO 2 (EI lv xs++st).length ((EI lv xs++st).reverse.flatMap Fn);grind[U5,DT,EI]
    ·intro p hp;rcases mA hp with hp|hp
     ·obtain ⟨y,hy,rfl⟩:=List.mem_map.1 hp;have:=hno.up h108 y hy;have:=hno.ref y hy;show 8<=y.ref/\y.ref<256;omega
     grind
    ·have:=hI.eq;rw[this];show L5 _ _ _ _=_;rw[Ex hz h1 hnd,iN hng,iP h108]
    ·grind [FD,Dy,AS]
    ·grind [EI]
    exact λw h=>(h.perm (L':=(b8,.cells [iL lv,.slice ya xs.length yc].toArray 81 (0,0))::(XG (d::D)++((b6,.cells [v3].toArray 360 (0,0))::(Rs3++((bb,.cells [bv,wv,.slice (sA ng 0) s.now.length nc,lw].toArray Eg (0,0))::(Rw++Rn')))))) BA).tl
   grind
  refine gh ?_;refine Cc (M':=Mn) (L':=XG D++((b6,.cells [.slice (sA sg 0) st.length vc0].toArray 360 (0,0))::([(sg,.cells scur TO (0,0))]++((bb,.cells [bv,wv,.slice (sA ng 0) s.now.length nc,lw].toArray Eg (0,0))::(Rw++Rn'))))) (λw h=>h.tl.tl) ?_;refine Cy (α:=Nat×Sto×Mem×Lc) (λx=>[(0,.pointer (sA bb 0)),(5,.slice (sA fb fo) s0.now.length fc),(6,.pointer (sA b6 0)),(124,.slice ya xs.length yc),(125,iL xs.length),(126,iL x.1)]) (λx=>x.2.2.1) (λx=>XG D++((b6,.cells [.slice (sA sg 0) st.length vc0].toArray 360 (0,0))::([(sg,.cells scur TO (0,0))]++x.2.2.2))) (λx=>x.1<=xs.length/\MLe Mn x.2.2.1/\BOwn x.2.2.1 bb x.2.2.2 x.2.1/\Au x.2.1/\Dy x.2.1.now<=f/\CW xs (AS s k.toNat)=CW (xs.drop x.1) x.2.1) (λx=>xs.length-x.1) (0,AS s k.toNat,Mn,((bb,.cells [bv,wv,.slice (sA ng 0) s.now.length nc,lw].toArray Eg (0,0))::(Rw++Rn'))) ⟨zL,mR,BOwn.put (g2.mono hMn) (g3.mono hMn) (g5.mono hMn) rfl rfl rfl (by unfold AS;simp) (by rw[hclr];exact hnow2),E7 hI.ok (by omega),(by have:=FD (show k.toNat<s.now.length by omega) (show (s.now.getD k.toNat 0).toNat=1 by rw[h1];rfl);show Dy (AS s k.toNat).now<=f;omega),rfl⟩ ?_;rintro⟨j,t,Mj,Lj⟩ ⟨hj,hMj,hB,htok,hsum,hloo⟩;try dsimp only at hj hMj hB htok hsum hloo⊢
  refine gj (λh127=>?_) λh127=>?_
  ·refine gh ?_;have hj1:j<xs.length:=by omega
   obtain⟨sb,so,e0,hx⟩:=(hys.mono hMj).open (by intro e;have:=cA length e;rw[Af Ad 5 Ae,length_nil]at this;omega);cases e0;obtain⟨va,vc,hcl,hvc,hvs⟩:=Av hx hyp (λp hp=>(hyb p hp).mono hMj) hj1;have hxr:=hno.ref xs[j] (getElem_mem hj1);have ht256:t.now.length=256:=htok.2.1.1;refine gh ?_;refine lq (A0 (cs:=EL xs[j] va vc) rfl rfl rfl rfl rfl (λi v hv=>(hcl i v hv).cj _)) ?_;refine gA λb13=>?_;refine gj (λh132=>?_) λh132=>?_
   ·refine gh ?_;refine BB (j+1,t,Mj,Lj) ⟨by show j+1<=xs.length;omega,hMj,hB,htok,hsum,by show _=CW (xs.drop (j+1)) t;rw[hloo,DN hj1,iP h132]⟩ (hs:=λw h=>h.tl)
   refine gh ?_;have hkr2:((xs[j].ref.toNat:Nat):Int)=xs[j].ref:=Int.toNat_of_nonneg (by omega);refine lh (BU rfl rfl rfl rfl rfl (by kernel_rfl) (by have:=Gs t xs[j].ref.toNat bb (by omega) Mj Lj hB;rwa[hkr2]at this)) ?_;rintro _ Mq _ ⟨hMq,R',rfl,⟨rfl,hB2⟩⟩;refine gj (λh138=>?_) λh138=>?_
   ·refine gh ?_;refine Ep (λw h=>(h.fewer (List.sublist_append_right _ _)).tl) ?_;refine gr ?_;exact .inl ⟨by rw[hI.eq];show L5 _ _ _ _=_;rw[Ex hz h1 hnd,iN hng,iN h108,hloo,DN hj1,iN h132,iN h138],rfl⟩
   refine gh ?_;have h138':=nN h138;refine BB (j+1,AM t xs[j].ref.toNat,Mq,R') ⟨by show j+1<=xs.length;omega,hMj.trans hMq,hB2 h138',CU htok (by omega),?_,by show _=CW (xs.drop (j+1)) _;rw[hloo,DN hj1,iN h132,iP h138']⟩ (hs:=λw h=>h.dropAt.perm BA);grind[Cg,Fu,Dy,AM]
  refine gh ?_;have hjx:j=xs.length:=by omega
  subst hjx;rw[drop_length]at hloo;refine HS ⟨t,st,f,D,Mj,Lj,[(sg,.cells scur TO (0,0))],.slice (sA sg 0) st.length vc0⟩ rfl (kC (t:=0) rfl (kC (t:=5) rfl (kC (t:=6) rfl Keep.nil))) ⟨htok,hI.mle.trans (hMn.trans hMj),hB,hown2,hrng,?_,hsum,?_⟩ (by show f<f+1;omega) ?_
  ·have:=hI.eq;rw[this];show L5 _ _ _ _=_;rw[Ex hz h1 hnd,iN hng,iN h108,hloo];rfl
  ·grind
  grind
 refine gh ?_;refine Ep (λw h=>h) ?_;refine AL (M':=Mk) (L':=(bb,.cells [bv,wv,.slice (sA ng 0) s.now.length nc,lw].toArray Eg (0,0))::(Rw++[(ng,.cells ncur 5 (0,0))])) (λw h=>h.tl.fewer (List.sublist_append_right _ _)) ?_;refine GK rfl rfl ?_;obtain rfl:st=[]:=List.eq_nil_of_length_eq_zero (by omega);exact .inr ⟨s,by rw[hI.eq];cases f<;>rfl,rfl,hI.ok,hI.bo⟩
variable{lv:Int}{s:Sto}{xs:List It}
theorem GW(h:Ku s lv xs=0)(a:s.waits.length<=4096):Cx lv xs=true/\RU s xs=0/\BD (Ai s xs)<256/\s.waits.length<4096:=by
 grind[Ku,Cx,RU,BD,Ai,wRt]
def PS(M:Mem)(v:Value)(ls:List (List It)):Prop:=∃a c,∃ps:List (List It×Value),v=.slice a ls.length c/\ls.length<=c/\SM M a (ps.map (·.2))/\ps.map (·.1)=ls/\∀p∈ps,NS M p.2 p.1
theorem PS.get{M:Mem}{sb so:Nat}{ls:List (List It)}{ps:List (List It×Value)}(hx:∀i u,(ps.map (·.2))[i]? =some u->CM M sb (so+i) u)(hp:ps.map (·.1)=ls)(hb:∀p∈ps,NS M p.2 p.1){k:Nat}(hk:k<ls.length):
  ∃v,CM M sb (so+k*1) v/\NS M v ls[k]:=by
 grind
variable{M:Mem}{a:Option Addr}{c:Nat}
theorem NS.take{n:Nat}(h:NS M (.slice a xs.length c) xs)(k:n<=xs.length):NS M (.slice a n c) (xs.take n):=by
 obtain⟨y,w,ps,e,s,d,o,m⟩:=h;cases e;refine⟨a,c,ps.take n,by rw[length_take,Nat.min_eq_left k],by rw[length_take];omega,?_,by rw[List.map_take,o],λp j=>m p (List.mem_of_mem_take j)⟩;rcases d with d|⟨b,f,rfl,d⟩
 ·left;have:ps=[]:=by
   cases ps with
   |nil=>rfl
   |cons p ps=>simp[Ad]at d
  rw[this];simp
 right;refine⟨b,f,rfl,λi u g=>d i u ?_⟩;have l:=(List.getElem?_eq_some_iff.1 g).1;have e:ps.flatMap Ad=(ps.take n).flatMap Ad++(ps.drop n).flatMap Ad:=by rw[<-List.flatMap_append,List.take_append_drop]
 rw[e,List.getElem?_append_left l];exact g
theorem NS.drop{n:Nat}(h:NS M (.slice a xs.length c) xs)(o:n<xs.length):NS M (.slice (Hk a n c 5) (xs.length-n) (c-n)) (xs.drop n):=by
 obtain⟨z,y,ps,e,w,d,m,l⟩:=h;cases e;have j:ps.length=xs.length:=by grind
 refine⟨_,_,ps.drop n,by rw[length_drop],by rw[length_drop];omega,?_,by rw[List.map_drop,m],λp k=>l p (List.mem_of_mem_drop k)⟩;rcases d with d|⟨b,f,rfl,d⟩
 ·exfalso;have:=cA length d;rw[Af Ad 5 Ae,length_nil]at this;omega
 right;refine⟨b,f+n*5,AG (by omega),λi u g=>?_⟩;have e:ps.flatMap Ad=(ps.take n).flatMap Ad++(ps.drop n).flatMap Ad:=by rw[<-List.flatMap_append,List.take_append_drop]
 have s:((ps.take n).flatMap Ad).length=n*5:=by rw[Af Ad 5 Ae,length_take,Nat.min_eq_left (by omega)]
 have:=d (n*5+i) u (by rw[e,List.getElem?_append_right (by omega),show n*5+i-((ps.take n).flatMap Ad).length=i by omega];exact g);grind
def Nl(x:It):List Value:=Ad (x,sN)
variable{j:Nat}{ps:List (List It)}{up:List It}
theorem Vr(h:j<ps.length):Tu lv (ps.drop j) s up=if Ku s lv ps[j]=0 then Tu lv (ps.drop (j+1)) (Ew s lv ps[j]) (up++[WR s ps[j]])else .error (Ku s lv ps[j]):=by
 rw[List.drop_eq_getElem_cons h,Tu]
theorem MN(h:j<xs.length):JW (xs.drop j) s=if xs[j].ref=0 then JW (xs.drop (j+1)) s else if Cg s xs[j].ref.toNat=0 then JW (xs.drop (j+1)) (AM s xs[j].ref.toNat)else .error (Cg s xs[j].ref.toNat):=by
 rw[List.drop_eq_getElem_cons h,JW]
theorem Gn{l p:List It}(h:p∈Bl l):(∀x∈p,x∈l)/\(l≠[]->p≠[]):=by
 unfold Bl at h;split at h
 ·rename_i b;simp only[List.mem_cons,List.not_mem_nil,or_false]at h;rcases h with rfl|rfl
  ·exact ⟨λx a=>List.mem_of_mem_take a,λ_ e=>by have:=cA length e;rw[length_take,length_nil]at this;omega⟩
  exact⟨λx a=>List.mem_of_mem_drop a,λ_ e=>by have:=cA length e;rw[length_drop,length_nil]at this;omega⟩
 grind
theorem Gp(l:List It):(Bl l).length=if 5<l.length then 2 else 1:=by grind[Bl]
theorem XH(s:Sto)(lv:Int)(xs:List It):(Ew s lv xs).waits.length=s.waits.length+1:=by
 show ((Ai s xs).waits++[_]).length=_;grind[CA]
variable{va:Option Addr}{vc:Nat}
theorem Pe{x:It}{i:Nat}{v:Value}(a:(Az x.key)[i]? =some v):(EL x va vc)[i]? =some v:=by
 match i,a with
 |0,a=>exact a
 |1,a=>exact a
 |2,a=>exact a
 |n+3,a=>simp[Az]at a
theorem wAo{p:List It}(h:0<p.length):Nl (WR s p)=Az p[0].key++[iL (BD (Ai s p):Int),sN]:=by
 obtain⟨x,xs,rfl⟩:=List.exists_cons_of_length_pos h;rfl
def BdPost(r:Except Int (Sto×List It))(bb:Nat)(Lb:Lc)(u:Value)(M':Mem)(L':Lc):Prop:=match r with
 |.error e=>e≠0/\u=.tuple #[sN,iL e]
 |.ok (t,up)=>∃a c Ru Lb',u=.tuple #[.slice a up.length c,iL 0]/\L'=Ru++Lb'/\Au t/\BOwn M' bb Lb' t/\Own (.slice a up.length c) Ru IT 5 up.length (up.flatMap Nl)/\(∀x∈up,x.val=[])/\∀p∈Ru,p.1∉Lb.map (·.1)
structure B1S where
 j:Nat
 s:Sto
 up:List It
 M:Mem
 L:Lc
 R:Lc
 v:Value
structure B1I(bb:Nat)(s0:Sto)(lv:Int)(l:List It)(Mz:Mem)(W:World)(x:B1S):Prop where
 le:x.j<=(Bl l).length
 mle:MLe Mz x.M
 bo:BOwn x.M bb x.L x.s
 ok:Au x.s
 own:Own x.v x.R IT 5 x.up.length (x.up.flatMap Nl)
 eq:Tu lv (Bl l) s0 []=Tu lv ((Bl l).drop x.j) x.s x.up
 ul:x.up.length=x.j
 val:∀y∈x.up,y.val=[]
 nw:∀p∈x.R,W.heap.size<=p.1
theorem Q7(u:Sto)(lv:Int)(l held:List It)(F:Option Addr)(k:Nat)(G:Value)(B:Nat)(M:Mem)(Y:Lc)(aJ:BOwn M B Y u)(a1:Au u)(C:NS M (.slice F l.length k) l)(aA:NS M G held)(a6:l≠[])(a7:∀x∈l,0<=x.key.kind/\x.key.kind<256)(aB:∀x∈held,0<=x.ref/\(x.ref=0\/8<=x.ref)/\x.ref<256)(aY:l.length<=100)(ba:held.length<=100):
  Sg 263 #[pB B,iL lv,.slice F l.length k,G] M Y (BdPost (build u lv l held) B Y):=by
 obtain⟨ha,hc,aV,rfl,bc,am,ao,aC⟩:=id aA;have aZ:l.length<=k:=by obtain⟨_,_,_,e,h,_⟩:=id C;cases e;exact h
 refine W5 (vs:=[_,_,_,_]) 73 _ func263 rfl ntmps263 rfl rfl ?_;intro W hX;refine gh ?_;refine lh (Ab (cs:=[_]) rfl rfl rfl (by rfl) (by rfl) (by rfl)) ?_;rintro _ _ _ ⟨aq,rfl,rfl,rfl⟩;refine jp rfl ?_;refine Am (jT ?_);refine Fw (α:=Mem×Value) (λz=>[(0,pB B),(1,iL lv),(3,.slice ha held.length hc),(8,sN),(10,z.2)]) (λz=>z.1) (λ_=>Y) (λz=>MLe M z.1/\PS z.1 z.2 (Bl l)) ?_ ?_
 ·rintro ⟨Mz,pv⟩ ⟨D,ad⟩;try dsimp only at D ad⊢
  obtain⟨pa,pc,aT,rfl,aW,ae,af,a5⟩:=id ad;have aQ:0<(Bl l).length/\(Bl l).length<=2:=by grind[Gp]
  obtain⟨pb,po,e0,a3⟩:=ae.open (by intro e;have:=cA length e;rw[length_map,length_nil]at this;have h2:=cA length af;rw[length_map]at h2;omega);cases e0;refine gh ?_;refine Cy (α:=B1S) (λx=>[(0,pB B),(1,iL lv),(3,.slice ha held.length hc),(8,x.v),(28,.slice (sA pb po) (Bl l).length pc),(29,iL (Bl l).length),(30,iL x.j)]) (λx=>x.M) (λx=>x.R++x.L) (λx=>B1I B u lv l Mz W x) (λx=>(Bl l).length-x.j) ⟨0,u,[],Mz,Y,[],sN⟩ ⟨zL,mR,aJ.mono D,a1,Own.nil _ _,rfl,rfl,λ_ h=>(by cases h),λ_ h=>(by cases h)⟩ ?_;rintro⟨j,s,up,Mk,Lk,Rk,v⟩ a;try dsimp only
  obtain⟨av,au,aa⟩:=a.own.form;try dsimp only at aa
  subst aa;have al:=a.le;try dsimp only at al
  refine gj (λaL=>?_) λaL=>?_
  ·refine gh ?_;have b:j<(Bl l).length:=by omega
   obtain⟨aS,aE,aj⟩:=PS.get a3 af a5 b;obtain⟨qa,qc,aw,rfl,a2,ab,K,ac⟩:=aj.mono a.mle;have ag:=Gn (getElem_mem b);have ah:0<(Bl l)[j].length:=List.length_pos_iff.2 (ag.2 a6);refine gh ?_;refine lq (Aw rfl rfl rfl rfl ((aE.mono a.mle).cj _)) ?_;refine gh ?_;have d:s.now.length=256/\s.last.length=256/\s.waits.length<=4096:=⟨a.ok.2.1.1,a.ok.2.2.1,a.ok.1.2.1⟩;refine lh (hC (Nd s lv (Bl l)[j] qa qc aw Mk a2 ab K ac (λx hx=>a7 x (ag.1 x hx)) B Lk a.bo d.1 d.2.1 d.2.2)) ?_;rintro _ Mm _ ⟨S,R',rfl,⟨bg,e,rfl,he,T⟩⟩;refine gj (λE=>?_) λE=>?_
   ·refine gr ?_;have n:build u lv l held=.error (Ku s lv (Bl l)[j]):=by
     have h9:Tu lv (Bl l) u []=.error (Ku s lv (Bl l)[j]):=by have:=a.eq;rw[this];show Tu _ _ _ _=_;rw[Vr b,iN (by rw[<-he];exact E)]
     grind[build]
    rw[n,<-he];exact⟨E,rfl⟩
   refine gh ?_;obtain⟨sb,so,e0,hx⟩:=(ab.mono S).open (by intro e;have:=cA length e;rw[Af Ad 5 Ae,length_nil]at this;have h2:=cA length K;rw[length_map]at h2;omega);cases e0;obtain⟨va,vc,Q,ay,ax⟩:=Av hx K (λp H=>(ac p H).mono S) ah;have ap:e=0:=nN E;obtain⟨aF,aI⟩:=T ap;have I:Ku s lv (Bl l)[j]=0:=he.symm.trans ap;have P:=GW I a.ok.1.2.1;have az:=a.ul;try dsimp only at az
   refine gh ?_;refine lq (A0 (cs:=Az (Bl l)[j][0].key) rfl rfl rfl rfl rfl (λi v G=>(Q i v (Pe G)).cj _)) ?_;refine gh ?_;refine lh (Ab (cs:=[_,_,_,_,_]) rfl rfl rfl (by rfl) (by rfl) (by rfl)) ?_;rintro _ _ _ ⟨be,rfl,rfl,rfl⟩;refine lh (VP (R:=Rk) (m:=1) (news:=Nl (WR s (Bl l)[j])) rfl rfl rfl rfl a.own rfl (λi v G=>CJ.loc (by rw[<-G,wAo ah,aF];show _=_;rw[Nat.zero_add];rfl)) rfl (by rfl) (by simp[Nl,Ad,Value.oneCell']) (by show up.length+1<=_;omega) (by omega)) ?_;rintro s' _ _ ⟨rfl,Rq,rfl,O,_,ai⟩;obtain⟨a4,c4,rfl⟩:=O.form;refine gh ?_;refine BB ⟨j+1,Ew s lv (Bl l)[j],up++[WR s (Bl l)[j]],Mm,R',Rq,.slice a4 (up.length+1) c4⟩ ⟨by show j+1<=_;omega,a.mle.trans S,aI,HN a.ok P.1 P.2.2.1 P.2.2.2,?_,?_,?_,?_,ai a.nw⟩ (hs:=λw h=>h.dropAt.perm BA)
   ·grind
   ·have:=a.eq;rw[this];show Tu _ _ _ _=_;rw[Vr b,iP I]
   ·grind
   intro y Z;rcases mA Z with Z|Z
   ·exact a.val y Z
   rw[mS Z];rfl
  refine gh ?_;have a8:j=(Bl l).length:=by omega
  have aX:Tu lv (Bl l) u []=.ok (s,up):=by have:=a.eq;rw[this];show Tu _ ((Bl l).drop j) _ _=_;rw[a8,drop_length];rfl
  refine Cy (α:=Nat×Sto×Mem×Lc) (λx=>[(0,pB B),(8,.slice av up.length au),(55,.slice ha held.length hc),(56,iL held.length),(57,iL x.1)]) (λx=>x.2.2.1) (λx=>Rk++x.2.2.2) (λx=>x.1<=held.length/\MLe Mk x.2.2.1/\BOwn x.2.2.1 B x.2.2.2 x.2.1/\Au x.2.1/\JW held s=JW (held.drop x.1) x.2.1) (λx=>held.length-x.1) (0,s,Mk,Lk) ⟨zL,mR,a.bo,a.ok,rfl⟩ ?_;rintro⟨j,t,Mj,Lj⟩ ⟨hj,o,hB,c,f⟩;try dsimp only at hj o hB c f⊢
  refine gj (λaK=>?_) λaK=>?_
  ·refine gh ?_;have b:j<held.length:=by omega
   obtain⟨sb,so,e0,hx⟩:=(am.mono (D.trans (a.mle.trans o))).open (by intro e;have:=cA length e;rw[Af Ad 5 Ae,length_nil]at this;have h2:=cA length ao;rw[length_map]at h2;omega);cases e0;obtain⟨va,vc,Q,ay,ax⟩:=Av hx ao (λp H=>(aC p H).mono (D.trans (a.mle.trans o))) b;have aU:=aB held[j] (getElem_mem b);have a0:t.now.length=256:=c.2.1.1;refine gh ?_;refine lq (A0 (cs:=EL held[j] va vc) rfl rfl rfl rfl rfl (λi v G=>(Q i v G).cj _)) ?_;refine gA λbf=>?_;refine gj (λV=>?_) λV=>?_
   ·refine gh ?_;refine BB (j+1,t,Mj,Lj) ⟨by show j+1<=held.length;omega,o,hB,c,by show _=JW (held.drop (j+1)) t;rw[f,MN b,iP V]⟩ (hs:=λw h=>h.tl)
   refine gh ?_;have ak:((held[j].ref.toNat:Nat):Int)=held[j].ref:=Int.toNat_of_nonneg (by omega);refine lh (BU rfl rfl rfl rfl rfl (by kernel_rfl) (by have:=Gs t held[j].ref.toNat B (by omega) Mj Lj hB;rwa[ak]at this)) ?_;rintro _ Mq _ ⟨aH,R',rfl,⟨rfl,T⟩⟩;refine gj (λU=>?_) λU=>?_
   ·refine gr ?_;have n:build u lv l held=.error (Cg t held[j].ref.toNat):=by grind[build,JW,MN]
    rw[n];exact⟨U,rfl⟩
   refine gh ?_;have J:=nN U;refine BB (j+1,AM t held[j].ref.toNat,Mq,R') ⟨by show j+1<=held.length;omega,o.trans aH,T J,CU c (by omega),by show _=JW (held.drop (j+1)) _;rw[f,MN b,iN V,iP J]⟩ (hs:=λw h=>h.dropAt.perm BA)
  refine Am (jT (Ao (Gv rfl (Ly (wUi (wUi (jBx (jT (Ao (Aj ?_))))))))));iterate 3 refine jp rfl ?_
  refine Am (jT (BG ?_));refine wPj rfl rfl rfl ?_;have a9:j=held.length:=by omega
  subst a9;rw[drop_length]at f;have n:build u lv l held=.ok (t,up):=by grind[build,JW]
  rw[n];exact⟨_,_,Rk,Lj,rfl,rfl,c,hB,a.own,a.val,P3 hX a.nw⟩
 refine gj (λaM=>?_) λaM=>?_
 ·refine gh ?_;refine Qp [0,1,2,3,104,5] ?_;refine gh ?_;refine dq rfl (Bo (CK rfl rfl rfl (.no _) (.of (v:=3) rfl (by omega) rfl) (.no _) (by omega) (by simp)) (v':=.slice F 3 k) (by rw[AV];rfl)) ?_;refine gh ?_;refine dq rfl (CK rfl rfl rfl (.no _) (.no _) (.of (v:=3) rfl (by omega) rfl) (by omega) (by simp)) ?_;refine Gu rfl rfl rfl (Ab (cs:=[_,_]) rfl rfl rfl (by rfl) (by rfl) (by rfl)) ?_;rintro _ _ _ ⟨X,rfl,rfl,rfl⟩;refine Cr (mR) (λ_ h=>List.mem_cons_of_mem _ h) (by first|exact mR|assumption) (by simp) ?_;refine gh ?_;refine AL (M':=M) (L':=(X,cE [Value.slice F 3 k,Value.slice (Hk F 3 k 5) (l.length-3) (k-3)] 79)::Y) (λw h=>St.dropAt (A:=[_]) h) ?_;refine Qk X (λ_ h=>h) ?_;intro Mf g aN;refine Ct (Mf,.slice (sA X 0) 2 2) (kC (t:=0) rfl (kC (t:=1) rfl (kC (t:=3) rfl (kC (t:=8) rfl (kC (t:=10) rfl Keep.nil))))) ⟨g,?_⟩ (λw h=>h);have N:Bl l=[l.take 3,l.drop 3]:=iP (by omega);show PS Mf _ (Bl l);rw[N];refine⟨_,2,[(l.take 3,.slice F 3 k),(l.drop 3,.slice (Hk F 3 k 5) (l.length-3) (k-3))],rfl,lR,SM.of_block aN,rfl,λp H=>?_⟩;simp only[List.mem_cons,List.not_mem_nil,or_false]at H;rcases H with rfl|rfl
  ·exact (C.take (by omega)).mono g
  exact(C.drop (by omega)).mono g
 refine gh ?_;refine Qk aq (λ_ h=>h) ?_;intro Mf g aP;refine Ct (Mf,.slice (sA aq 0) 1 1) (kC (t:=0) rfl (kC (t:=1) rfl (kC (t:=3) rfl (kC (t:=8) rfl (kC (t:=10) rfl Keep.nil))))) ⟨g,?_⟩ (λw h=>h);have N:Bl l=[l]:=iN (by omega);show PS Mf _ (Bl l);rw[N];refine⟨_,1,[(l,.slice F l.length k)],rfl,lR,SM.of_block aP,rfl,λp H=>?_⟩;rw[mS H];exact C.mono g
def DJ(s:Sto)(k:Int):Int:=if Au s then (if k<8\/256<=k then 2 else if s.now.getD k.toNat 0=0 then 6 else 0)else 8
theorem UC(s:Sto):Dz s=if Au s then 0 else 8:=by grind[Dz]
variable{k:Int}{s:Sto}
theorem Uc(h:DJ s k=0):Au s/\8<=k/\k<256/\¬s.now.getD k.toNat 0=0:=by
 grind[DJ]
theorem Z7(c:Au s)(b:8<=k/\k<256)(a:¬s.now.getD k.toNat 0=0):DJ s k=0:=by
 grind[DJ]
theorem Re(s:Sto)(k:Int)(z o w lv:Value)(M:Mem)(c:ST M (.agg #[z,o,w,lv]) s):
  Sg 227 #[.agg #[z,o,w,lv],iL k] M [] λu _ _=>u=iL (DJ s k):=by
 obtain⟨G,B,C,D,d,P,O,F,N⟩:=c.ex;simp only[Value.agg.injEq,Array.mk.injEq,List.cons.injEq,and_true]at d;obtain⟨rfl,rfl,rfl,rfl⟩:=d;obtain⟨J,H,rfl,E,g⟩:=F;have l:=UC s;refine sB func227 ntmps227 ?_;intro W;refine ga λQ=>?_;refine gQ (CC s _ M c) ?_;refine gj (λy=>?_) λy=>?_
 ·refine gr ?_;grind[Au,Dz,DJ]
 refine gj (λn=>?_) λn=>?_
 ·refine gr ?_;grind[Au,DJ]
 refine gj (λm=>?_) λm=>?_
 ·refine gr ?_;grind[Au,DJ]
 refine gh ?_;have a:Au s:=Classical.byContradiction λh=>y (by rw[l,iN h];decide);have i:s.now.length=256:=a.2.1.1;obtain⟨I,no,d,f⟩:=g.open (by intro e;have:=cA length e;rw[Ac,length_nil]at this;omega);subst d;refine gh ?_;refine lq (Aw rfl rfl rfl rfl ((f _ _ (by rw[mO];exact B5 (j:=k.toNat) (by omega))).cj _)) ?_;refine gj (λb=>?_) λb=>?_
 ·refine gr ?_;unfold DJ;rw[iP a,iN (by omega),iP (UInt8.toNat_inj.1 (show (s.now.getD k.toNat 0).toNat=(0:UInt8).toNat by have L:((s.now.getD k.toNat 0).toNat:Int)=0:=b;have K:(0:UInt8).toNat=0:=rfl;omega))]
 refine gr ?_;unfold DJ;rw[iP a,iN (by omega),iN (λe=>b (by rw[e];rfl))]
theorem Xh(s:Sto)(k:Nat)(hk:k<256)(L:Au s)(bv:Value)(F:Option Addr)(E:Nat)(ps:List (Wt×Value))(M:Mem)(h1:LS M bv s.blocks)(ad:s.waits.length<=E)(H:SM M F (ps.flatMap Bb))(hp:ps.map (·.1)=s.waits)(hb:∀q∈ps,BS M q.2 q.1.2):
  Sg 228 #[.agg #[bv,.slice F s.waits.length E],iL k] M [] λu X L'=>BS X u (seen s k)/\L'=[]:=by
 obtain⟨⟨ah,ag,af,ae⟩,⟨ai,_⟩,_⟩:=id L;obtain⟨ba,bc,aa,rfl,aj,Q,B,S⟩:=h1;obtain⟨bb,bo,e0,P⟩:=Q.open (by intro e;have:=cA length e;rw[length_map,length_nil]at this;have h2:=cA length B;rw[length_map]at h2;omega);subst e0;obtain⟨va,vc,O,J,I⟩:=Df P B S (k:=k) (by omega);refine sB func228 ntmps228 ?_;intro W;refine ga λb2=>?_;refine lh (Bz (cs:=[iL k]) rfl rfl rfl rfl) ?_;rintro _ _ _ ⟨b3,rfl,rfl,rfl⟩;refine ga λD=>?_;refine gC (bww _ _ _ M) ?_;rintro _ M1 _ b ⟨U,rfl,j,rfl⟩;have N:ps.length=s.waits.length:=by grind
 rw[<-N]at j;refine gh ?_;refine BH b2 (by simp) ?_;intro ak m T;refine BH b3 (by simp) ?_;intro V g e3;replace T:=g _ _ T;replace j:=g _ _ (m _ _ j);replace b:=b.trans (m.trans g);refine D0 (R:=[(D,cE [sN] 26)]) (xs:=bw ps 0) (enc:=(λp:(Wt×Value)×Nat=>[iL p.2,.agg (Bb p.1).toArray])) (ps:=[10,11]) rfl (by kernel_rfl) (Q4 U F E ps V j (H.mono b) (by omega))
  (λn _ R=>R=[(D,cE [sN] 26)]/\∀q∈n,q.1.1.1≠(k:Int))
  (λc _ X R=>c=.ret/\∃v,R=[(D,cE [v] 26)]/\BS X v (seen s k))
  (λ_=>rfl) (by decide) ⟨rfl,λ_ h=>by cases h⟩ ?_ ?_ ?_
 ·intro l W2 n y M2 R2 a i f;obtain⟨rfl,i⟩:=i;have G:y.1∈ps:=Q5 (f.subset (by simp));obtain⟨⟨Y,yv⟩,yi⟩:=y;have w:=hb _ G;obtain⟨ya,Z,o,ac,ab⟩:=id w;change yv=Value.slice ya Y.2.length Z at o;subst o;refine ga λb6=>?_;refine jK λW'=>?_;refine gh ?_;refine lq (Aw rfl rfl rfl rfl (CM.cj ⟨_,_,_,a _ _ e3,rfl⟩ _)) ?_;refine gj (λC=>?_) λC=>?_
  ·refine gh ?_;refine AE (L':=[(D,cE [.slice ya Y.2.length Z] 26)]) (by simp) ?_;refine jQr ?_;refine⟨rfl,_,rfl,?_⟩;rw[MC hp f i C];exact w.mono (b.trans a)
  refine gh ?_;refine AE (L':=[(D,cE [sN] 26)]) (by simp) ?_;refine wFt ?_;grind
 ·intro d M2 R2 a i;obtain⟨rfl,i⟩:=i;have z:=MD hp i;rw[D4 (by omega)]at z;refine gh ?_;refine lq (Aw rfl rfl rfl rfl (CM.cj ⟨_,_,_,a _ _ T,rfl⟩ _)) ?_;refine lq (Aw rfl rfl rfl rfl (CM.cj ⟨_,_,_,a _ _ e3,rfl⟩ _)) ?_;refine gh ?_;refine lq (Aw rfl rfl rfl rfl ((O.mono (b.trans a)).cj _)) ?_;refine gh ?_;refine Bn (L2:=_) Rm.perm ?_;refine gr ?_;exact⟨by rw[z];exact⟨va,vc,rfl,J,I.mono (b.trans a)⟩,rfl⟩
 intro d c n M2 R2 a f i;obtain⟨rfl,v6,rfl,K⟩:=i;refine gh ?_;refine Bn (L2:=_) Rm.perm ?_;refine gr ?_;exact⟨K,rfl⟩
def RnPost(s:Sto)(k:Int)(u:Value)(M':Mem):Prop:=
 if DJ s k=0 then BnPost s k.toNat u M' else u=.tuple #[.agg zeroNd.toArray,iL (DJ s k)]
theorem Sk{k:Nat}(h:¬s.now.getD k 0=0):Ag s k=Db (seen s k):=by grind[Ag]
theorem Xi(s:Sto)(k:Int)(o E w lv:Value)(M:Mem)(m:ST M (.agg #[o,E,w,lv]) s):
  Sg 146 #[.agg #[o,E,w,lv],iL k] M [] λu X Y=>RnPost s k u X/\Y=[]:=by
 obtain⟨U,H,K,L,G,T,S,g3,g4⟩:=m.ex;simp only[Value.agg.injEq,Array.mk.injEq,List.cons.injEq,and_true]at G;obtain⟨rfl,rfl,rfl,rfl⟩:=G;obtain⟨J,I,ps,rfl,B,z,N,P⟩:=id S;refine sB func146 ntmps146 ?_;intro W;refine JM λb2 b4=>?_;refine gQ (Re s k o _ w lv M m) ?_;refine gj (λf=>?_) λf=>?_
 ·refine gr ?_;exact⟨by unfold RnPost;rw[iN f];rfl,rfl⟩
 refine gh ?_;have a:=nN f;obtain⟨h,O,D,c⟩:=Uc a;obtain⟨y,rfl⟩:∃n:Nat,k=(n:Int):=⟨k.toNat,by omega⟩;rw[tN]at c;have l:y<256:=by omega
 refine gc (Xh s y l h o J I ps M T B z N P) ?_;rintro _ V R g;refine gc (XA _ (seen s y) V g (by rw[K2 h l];omega)) ?_;rintro _ M3 Q C;obtain⟨Z,la,ln,lc,e,rfl,b⟩:=NdPost.form C;refine gA λb7=>?_;refine gj (λd=>?_) λd=>?_
 ·refine gr ?_;refine⟨?_,rfl⟩;unfold RnPost;rw[iP a,tN];unfold BnPost;rw[Sk c];rcases b with⟨F,i⟩|⟨rfl,xs,i,j⟩
  ·rw [i];first|rfl|exact aD F d
  omega
 refine gr ?_;refine⟨?_,rfl⟩;unfold RnPost;rw[iP a,tN];unfold BnPost;rw[Sk c];rcases b with⟨F,i⟩|⟨rfl,xs,i,j⟩
 ·omega
 rw[i];first|exact⟨_,rfl,j⟩|exact aD rfl d
theorem Kn(s:Sto)(v:Value)(k:Int)(M:Mem)(h:ST M v s):Sg 146 #[v,iL k] M [] λu a b=>RnPost s k u a/\b=[]:=by
 obtain⟨bv,c,d,lv,rfl,i,g,f,e⟩:=h.ex;grind[Xi]
end Go.Proofs.YtjheijhahehnmaaGreatDoor
