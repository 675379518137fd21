/- Walks: room.Node. -/
import Derived.Test.YtjheijhahehnmaaGreatDoorZHn
import Derived.Test.YtjheijhahehnmaaGreatDoorZHl
import Derived.Test.YtjheijhahehnmaaGreatDoorZSp
namespace Go.Proofs.YtjheijhahehnmaaGreatDoor
open Go.Proofs.Tryz
open List (length_cons length length_nil getElem_mem drop_length length_take length_drop length_map)
set_option linter.unusedSimpArgs false
set_option linter.unusedVariables false
set_option linter.unusedSectionVars false
set_option maxHeartbeats 40000000
set_option maxRecDepth 8000
open Go.RowKit
abbrev TO:TypeId:=359
def FH(p:Int×Int):List Value:=[.int .i64 p.1,.int .i64 p.2]
theorem wEx(p:Int×Int):(FH p).length=2:=rfl
variable{k:Nat}
theorem Ls{xs:List By}{v:By}(h:k<xs.length):DI (xs.set k v)+(xs.getD k 0).toNat=DI xs+v.toNat:=by
 induction xs generalizing k with
 |nil=>simp at h
 |cons x xs a=>
  cases k with
  |zero=>simp[DI];omega
  |succ k=>
   have:=a (k:=k) (by simpa using h)
   simp only[DI,List.set_cons_succ,List.map_cons,List.sum_cons,List.getD_cons_succ]at this⊢
   omega
variable{s:Sto}
theorem C2(h:Av s)(hk:8<=k):Av (AO s k):=⟨h.1,G1 hk h.2.1,h.2.2⟩
theorem Fx(h:Av s)(hk:8<=k):Av (AS s k):=⟨h.1,G1 hk h.2.1,h.2.2⟩
theorem FM(h:k<s.now.length)(a:s.now.getD k 0≠0):DI (AO s k).now+1=DI s.now:=by
 have d:=Ls (v:=s.now.getD k 0-1) h;obtain⟨c,b⟩:=UA a;show DI (s.now.set k (s.now.getD k 0-1))+1=_;omega
theorem FV(h:k<s.now.length)(b:(s.now.getD k 0).toNat=1):DI (AS s k).now+1=DI s.now:=by
 have a:=Ls (v:=0) h;have:(0:By).toNat=0:=rfl;show DI (s.now.set k 0)+1=_;omega
variable{j:Nat}{xs:List It}
theorem DZ(h:j<xs.length):C4 (xs.drop j) s=if xs[j].ref=0 then C4 (xs.drop (j+1)) s else if Cj s xs[j].ref.toNat=0 then C4 (xs.drop (j+1)) (AO s xs[j].ref.toNat)else none:=by
 rw[List.drop_eq_getElem_cons h,C4]
theorem Yi(v:Value)(xs:List By)(R:Lc)(M:Mem)(h:Own v R 5 1 xs.length (Aa xs))(i:xs.length<=100000):SpecL prog 198 #[v] M R λu k d=>∃e,d=R++e/\Own u e 5 1 xs.length (Aa xs):=by
 have:=SpecL.lend (R:=R) (L:=[]) (post:=λu k d=>Own u d 5 1 xs.length (Aa xs)) (λb l=>ET v xs (Ev M R) (by
  obtain⟨a,c,rfl,j,f⟩:=h.lent (M:=Ev M R) (λp g=>Gp b g);exact⟨a,c,rfl,j,f⟩) i)
 rw[List.append_nil]at this;refine this.mono ?_;grind
variable{A:List Value}{L R:Lc}{M:Mem}{e:TypeId}{g:Nat}
theorem wTy{m a:Nat}{p:Int×Int}(c:Own (.slice (some ⟨g,0,none⟩) (m+1) a) R e 2 (m+1) (A++FH p))(d:∀q∈R,q∈L)(f:A.length=m*2):∀i v,(FH p)[i]? =some v->CJ M L g (0+(m:Int).toNat*2+i) v:=λi v b=>
 c.cj d (by rw[List.getElem?_append_right (by omega),show 0+(m:Int).toNat*2+i-A.length=i by omega];exact b)
theorem wKh(st:List (Int×Int))(p:Int×Int):(p::st).reverse.flatMap FH=st.reverse.flatMap FH++FH p:=by
 grind
theorem wSw(st:List (Int×Int)):(st.reverse.flatMap FH).length=st.length*2:=by rw[Aj FH 2 wEx,List.length_reverse]
structure LvS where
 s:Sto
 st:List (Int×Int)
 f:Nat
 D:List Nat
 M:Mem
 L:Lc
 R:Lc
 v:Value
structure LvI(bb:Nat)(M1:Mem)(first:List By)(g0:Option Sto)(x:LvS):Prop where
 ok:Av x.s
 mle:MLe M1 x.M
 bo:BOwn x.M bb x.L x.s
 own:Own x.v x.R TO 2 x.st.length (x.st.reverse.flatMap FH)
 rng:∀p∈x.st,8<=p.1/\p.1<256
 eq:g0=MQ first x.f x.s x.st
 fuel:DI x.s.now<=x.f
 big:x.st.length+5*x.f<=400000
variable{f:Nat}{l:Int}
theorem wUo{first:List By}{k:Int}{st:List (Int×Int)}(h:s.now.getD k.toNat 0=0):MQ first f s ((k,l)::st)=none:=by
 cases f with
 |zero=>rfl
 |succ f=>rw[MQ,if_pos h]
theorem Py{first:List By}{k:Int}{st:List (Int×Int)}(h:¬s.now.getD k.toNat 0=0)(a:s.now.getD k.toNat 0≠1):MQ first (f+1) s ((k,l)::st)=MQ first f (AO s k.toNat) st:=by grind[MQ]
theorem wUp{first:List By}{k:Int}{st:List (Int×Int)}(h:¬s.now.getD k.toNat 0=0)(b:s.now.getD k.toNat 0=1)(a:Ak s k.toNat=none):MQ first (f+1) s ((k,l)::st)=none:=by grind[MQ]
variable{lv:Int}
theorem EN{first:List By}{k:Int}{st:List (Int×Int)}(h:¬s.now.getD k.toNat 0=0)(b:s.now.getD k.toNat 0=1)(a:Ak s k.toNat=some (lv,xs)):MQ first (f+1) s ((k,l)::st)=if first.getD k.toNat 0=0\/(0<=l/\lv≠l)then none
  else if 0<lv then MQ first f (AS s k.toNat) (EX lv xs++st)
  else match C4 xs (AS s k.toNat)with
   |none=>none
   |some t=>MQ first f t st:=by rw[MQ,if_neg h,if_neg (by simpa using b),a];rfl
theorem wAb:∀(xs:List By),DI xs<=255*xs.length
 |[]=>Nat.zero_le _
 |x::xs=>by
  have a:=wAb xs;have b:=x.toNat_lt;simp only[DI,List.map_cons,List.sum_cons,length_cons]at a⊢;omega
theorem PV{xs:List By}(h:xs.getD k 0≠0):0<DI xs:=by
 have a:k<xs.length:=Classical.byContradiction λb=>h (by simp[List.getD,show xs.length<=k by omega]);have:=Ls (v:=0) a;have c:(xs.getD k 0).toNat≠0:=λe=>h (UInt8.toNat.inj e);grind
variable{Rw:Lc}{a:Option Addr}{bb:Nat}{bv:Value}
theorem BOwn.put{c:Nat}{b d:Value}{e:Lc}{t:Sto}(m:LS M bv s.blocks)(l:BS M d s.last)(k:WOwn M b Rw s.waits)(j:t.blocks=s.blocks)(g:t.waits=s.waits)(i:t.last=s.last)(f:t.now.length=s.now.length)
  (h:Own (.slice a s.now.length c) e 5 1 s.now.length (Aa t.now)):BOwn M bb ((bb,cE [bv,b,.slice a s.now.length c,d] Ew)::(Rw++e)) t:=
 ⟨bv,b,a,c,d,Rw,e,by rw[f],by rw[j];exact m,by rw[i];exact l,by rw[f];exact h,by rw[g];exact k⟩
variable{ps:List (It×Value)}
theorem V7(a:ps.map (·.1)=xs):(bw ps 0).map (λq=>(q.1.1.ref,lv-1))=(EX lv xs).reverse:=by
 have:(bw ps 0).map (λq=>(q.1.1.ref,lv-1))=((bw ps 0).map (·.1)).map (λp=>(p.1.ref,lv-1)):=by simp_all
 rw[this,JB,<-a];unfold EX;rw[List.map_map,List.map_reverse];rfl
variable{α:Type}
theorem D4(xs:List α):(bw xs 0).length=xs.length:=by
 have:=congrArg length (JB xs);grind
def LvPost(s:Sto)(root:Int)(bb:Nat)(u:Value)(M':Mem)(L':Lc):Prop:=(Df s root=none/\u=.int .i64 8)\/∃t,Df s root=some t/\u=.int .i64 0/\Av t/\BOwn M' bb L' t
theorem Hj(s0:Sto)(root:Int)(hr:8<=root/\root<256)(hst:Av s0)(bb:Nat)(M:Mem)(Lb:Lc)(hB0:BOwn M bb Lb s0):
  SpecL prog 181 #[.pointer (some ⟨bb,0,none⟩),.int .i64 root] M Lb (LvPost s0 root bb):=by
 obtain⟨bv,wv,na,nc,lw,Rw,Rn,rfl,g2,g3,hnow,g5⟩:=id hB0;have hn256:s0.now.length=256:=hst.2.1.1;refine sB func181 ntmps181 ?_;intro W;refine gC (Yi _ s0.now Rn M hnow (by omega)) ?_;rintro _ M1 _ hM1 ⟨R',rfl,hown⟩;obtain⟨fa,fc,rfl⟩:=hown.form;refine Uh (M':=M1) (L':=R'++((bb,.cells [bv,wv,.slice na s0.now.length nc,lw].toArray Ew (0,0))::(Rw++Rn))) (λw h=>h.perm BE) ?_;refine wUv hown (λ_ h=>h) ?_;intro M2 fa2 fc2 hM2 e2 hfc hfs;cases e2;replace hfs:=hfs.mono (EZ _ _);obtain⟨fb,fo,e0,hfx⟩:=hfs.open (by intro e;have:=congrArg length e;rw[Ad,length_nil]at this;omega);subst e0;refine gh ?_;refine lh (Ab (cs:=[_,_]) rfl rfl rfl (by rfl) (by rfl) (by rfl)) ?_;rintro _ _ _ ⟨b23,rfl,rfl,rfl⟩;refine ga λb6=>?_;refine wGg (α:=LvS) (λx=>x.D) (λx=>[(0,.pointer (some ⟨bb,0,none⟩)),(5,.slice (some ⟨fb,fo,none⟩) s0.now.length fc),(6,.pointer (some ⟨b6,0,none⟩))]) (λx=>x.M) (λx=>YJ x.D++((b6,.cells [x.v].toArray 360 (0,0))::(x.R++x.L))) (λx=>LvI bb M2 s0.now (Df s0 root) x) (λx=>x.f)
  ⟨s0,[(root,-1)],DI s0.now,[],M2,((bb,.cells [bv,wv,.slice na s0.now.length nc,lw].toArray Ew (0,0))::(Rw++Rn)),[(b23,.cells [Value.int .i64 root,Value.int .i64 (-1)].toArray TO (0,0))],.slice (some ⟨b23,0,none⟩) 1 1⟩ rfl (Keep.cons (t:=0) rfl (Keep.cons (t:=5) rfl (Keep.cons (t:=6) rfl Keep.nil))) ⟨hst,MLe.refl _,hB0.mono (hM1.trans hM2),⟨rfl,.inr ⟨b23,1,_,rfl,rfl,Nat.le_refl _,by unfold maxLen;omega,rfl,rfl⟩⟩,(by simpa using hr),rfl,Nat.le_refl _,(by have:=wAb s0.now;show 1+5*DI s0.now<=400000;omega)⟩ (λw h=>h) ?_
 rintro⟨s,st,f,D,Mk,Lk,Rk,v⟩ hI;try dsimp only
 obtain⟨va0,vc0,hv0⟩:=hI.own.form;try dsimp only at hv0
 subst hv0;obtain⟨bv,wv,na,nc,lw,Rw,Rn,hLx,g2,g3,hnow,g5⟩:=id hI.bo;try dsimp only at hLx g2 g3 hnow g5
 have hn256:s.now.length=256:=hI.ok.2.1.1;obtain⟨ng,ncap,ncur,e0,e1,_⟩:=hnow.open (by show 0<s.now.length;omega);cases e0;subst e1;subst hLx;refine gj (λh26=>?_) λh26=>?_
 ·refine Ai (jT (EF rfl (Co (jT (Dm (Ah (Af ?_)))))));obtain⟨⟨k,l⟩,st,rfl⟩:=List.exists_cons_of_ne_nil (show st≠[]from λe=>by subst e;simp at h26);have hown:=hI.own;try dsimp only at hown
  rw[length_cons]at hown;obtain⟨sg,vc1,scur,e0,e1,hs1,hs2,_⟩:=hown.open (by omega);cases e0;subst e1;rw[length_cons];rw[wKh]at hown;have hkr:=hI.rng (k,l) (by simp);try dsimp only at hkr
  have hbig:=hI.big;try dsimp only at hbig
  rw[length_cons]at hbig;have hsl:=wSw st;have hown2:=hown.pop hsl;have hgn:(Aa s.now)[k.toNat]? =some (.int .u8 ((s.now.getD k.toNat 0).toNat:Int)):=Ca (by omega);have hlt:=(s.now.getD k.toNat 0).toNat_lt;have hkn:((k.toNat:Nat):Int)=k:=Int.toNat_of_nonneg (by omega);have hrng:∀p∈st,8<=p.1/\p.1<256:=λp hp=>hI.rng p (List.mem_cons_of_mem _ hp);have hfu:=hI.fuel;try dsimp only at hfu
  refine lq (Au rfl rfl rfl rfl (CJ.loc rfl)) ?_;refine lq (Au rfl rfl rfl rfl (CJ.loc rfl)) ?_;refine lq (FY rfl rfl rfl) ?_;refine lq (Bh (qA rfl rfl rfl rfl rfl (by omega)) (v':=.int .i64 (st.length:Int)) (congrArg _ (by omega))) ?_;refine gh ?_;refine lq (A1 (cs:=[.int .i64 k,.int .i64 l]) rfl rfl rfl rfl rfl (wTy hown (by simp) hsl)) ?_;refine lh (AX rfl rfl) ?_;rintro _ _ _ ⟨b7,rfl,rfl,rfl⟩;refine DE rfl (Ao rfl rfl rfl rfl rfl rfl rfl rfl) ?_;rintro _ _ _ ⟨rfl,rfl⟩;refine Ai (jT (Ah (Af ?_)));refine lq (Au rfl rfl rfl rfl (CJ.loc rfl)) ?_;refine lq (Au rfl rfl rfl rfl (CJ.loc rfl)) ?_;refine lq (FY rfl rfl rfl) ?_;refine lq (Bh (qA rfl rfl rfl rfl rfl (by omega)) (v':=.int .i64 (st.length:Int)) (congrArg _ (by omega))) ?_;refine lq (Bh (CL rfl rfl rfl (.no _) (.of (v:=st.length) rfl (by omega) rfl) (.no _) (by omega) (by simp)) (v':=.slice (some ⟨sg,0,none⟩) st.length vc0) (by rw[AU];rfl)) ?_;refine gh ?_;refine QQ [0,1,2,3,4,5,6,7,8,9] ?_;refine gh ?_;refine dq rfl (Au rfl rfl rfl rfl (by rw[Nat.mul_one,Nat.zero_add];exact hnow.cj (by simp) hgn)) ?_;refine gj (λh47=>?_) λh47=>?_
  ·refine gh ?_;refine EE (λw h=>h.tl) ?_;refine gr ?_;exact .inl ⟨by rw[hI.eq];exact wUo (UInt8.toNat.inj (by simpa using h47)),rfl⟩
  refine gh ?_;refine QQ [0,1,2,3,4,5,6,7,8,9] ?_;refine gh ?_;refine dq rfl (Au rfl rfl rfl rfl (by rw[Nat.mul_one,Nat.zero_add];exact hnow.cj (by simp) hgn)) ?_;refine gj (λh57=>?_) λh57=>?_
  ·refine gh ?_;have hz:¬s.now.getD k.toNat 0=0:=λe=>h47 (by rw[e];rfl);obtain⟨f,rfl⟩:∃f',f=f'+1:=⟨f-1,by have:=PV hz;omega⟩;have h1:s.now.getD k.toNat 0≠1:=λe=>by rw[e]at h57;exact absurd h57 (by decide)
   refine Gt [11] [11] [0,1,2,3,4,5,6,7,8,9,10,111] _ (_) ([]) ?_;refine gh ?_;refine dq rfl (Au rfl rfl rfl rfl (by rw[Nat.mul_one,Nat.zero_add];exact hnow.cj (by simp) hgn)) ?_;refine dq rfl (wTr rfl rfl rfl rfl rfl (by rw[IntKind.wrap_u8];omega)) ?_;refine gh ?_;refine Ho rfl rfl (D0 rfl rfl rfl rfl rfl rfl hnow rfl (by omega)) ?_;rintro _ _ _ ⟨rfl,Rn',rfl,hnow'⟩;refine⟨MLe.refl _,by simp,?_⟩;refine gh ?_;refine Jf ⟨AO s k.toNat,st,f,D,Mk,((bb,.cells [bv,wv,.slice (some ⟨ng,0,none⟩) s.now.length nc,lw].toArray Ew (0,0))::(Rw++Rn')),[(sg,.cells scur TO (0,0))],.slice (some ⟨sg,0,none⟩) st.length vc0⟩ rfl (Keep.cons (t:=0) rfl (Keep.cons (t:=5) rfl (Keep.cons (t:=6) rfl Keep.nil))) ⟨C2 hI.ok (by omega),hI.mle,BOwn.put g2 g3 g5 rfl rfl rfl (QA _ _) ?_,hown2,hrng,?_,?_,?_⟩ (by show f<f+1;omega) ?_
   ·simp_all [Aa,AO,UA]
   ·have:=hI.eq;rw[this];exact Py hz h1
   ·grind [FM,DI,AO]
   ·grind
   exact λw h=>h.dropAt.perm BE
  refine gh ?_;have hz:¬s.now.getD k.toNat 0=0:=λe=>h47 (by rw[e];rfl);obtain⟨f,rfl⟩:∃f',f=f'+1:=⟨f-1,by have:=PV hz;omega⟩;have h1:s.now.getD k.toNat 0=1:=UInt8.toNat.inj (by have:(1:By).toNat=1:=rfl;omega);refine gC (by have:=NB s k.toNat bb (by omega) hI.ok Mk _ hI.bo;rwa[hkn]at this) ?_;rintro _ Mn _ hMn ⟨hbn,rfl⟩;refine Uh (M':=Mn) (L':=(b7,.cells [.int .i64 k,.int .i64 l].toArray 359 (0,0))::(YJ D++((b6,.cells [.slice (some ⟨sg,0,none⟩) st.length vc0].toArray 360 (0,0))::([(sg,.cells scur TO (0,0))]++((bb,.cells [bv,wv,.slice (some ⟨ng,0,none⟩) s.now.length nc,lw].toArray Ew (0,0))::(Rw++[(ng,.cells ncur 5 (0,0))])))))) (λw h=>h.perm BE) ?_;obtain⟨lv,ya,yn,yc,e,rfl,hbn2⟩:=BnPost.form hbn;refine ga λb8=>?_;refine Gt [8] [8] [0,1,2,3,4,5,6,7,108] _ (_) ([]) ?_;refine gh ?_;refine Ho rfl rfl (D0 (u:=.int .u8 0) rfl rfl rfl rfl rfl rfl hnow rfl (by omega)) ?_;rintro _ _ _ ⟨rfl,Rn',rfl,hnow'⟩;refine⟨MLe.refl _,by simp,?_⟩;refine QM ?_;refine wGh (jT (Ah (Ah ?_)));refine Cf (M':=Mn) (L':=(b8,.cells [.int .i64 lv,.slice ya yn yc].toArray 81 (0,0))::(b7,.cells [.int .i64 k,.int .i64 l].toArray 359 (0,0))::(YJ D++((b6,.cells [.slice (some ⟨sg,0,none⟩) st.length vc0].toArray 360 (0,0))::([(sg,.cells scur TO (0,0))]++((bb,.cells [bv,wv,.slice (some ⟨ng,0,none⟩) s.now.length nc,lw].toArray Ew (0,0))::(Rw++Rn')))))) (λw h=>h.perm BE) ?_;have hnow2:=hnow';rw[Nat.mul_one,Nat.zero_add]at hnow2;have hclr:Aa (AS s k.toNat).now=(Aa s.now).set k.toNat (.int .u8 0):=by simp_all [AS,Aa]
  refine gj (λh85=>?_) λh85=>?_
  ·refine gh ?_;refine EE (λw h=>h.tl.tl) ?_;refine gr ?_;obtain⟨_,hnd⟩|⟨_,_⟩:=hbn2
   ·exact .inl ⟨by rw[hI.eq];exact wUp hz h1 hnd,rfl⟩
   omega
  refine gh ?_;obtain⟨_,_⟩|⟨rfl,xs,hnd,rfl,hns⟩:=hbn2
  ·omega
  obtain⟨ya_,yc_,ps,e_,hyc,hys,hyp,hyb⟩:=id hns;cases e_;have hno:=Ar hnd;have hlv:=hno.lev;have hlen:=hno.len;have hpl:ps.length=xs.length:=by grind
  refine gh ?_;refine lq (Au rfl rfl rfl rfl (((hfx _ _ (by rw[Nat.mul_one];exact Ca (j:=k.toNat) (by omega))).mono (hI.mle.trans hMn)).cj _)) ?_;refine gj (λh92=>?_) λh92=>?_
  ·refine gh ?_;refine EE (λw h=>h.tl.tl) ?_;refine gr ?_;exact .inl ⟨by rw[hI.eq];show MQ _ _ _ _=_;rw[EN hz h1 hnd,if_pos (.inl (UInt8.toNat.inj (by simpa using h92)))],rfl⟩
  refine gj (λh97=>?_) λh97=>?_
  ·refine gj (λh103=>?_) λh103=>?_
   ·refine gh ?_;refine EE (λw h=>h.tl.tl) ?_;refine gr ?_;exact .inl ⟨by rw[hI.eq];show MQ _ _ _ _=_;rw[EN hz h1 hnd,if_pos (.inr ⟨h97,h103⟩)],rfl⟩
   refine gg ?_;have hng:¬(s0.now.getD k.toNat 0=0\/0<=l/\lv≠l):=by
    rintro (e|⟨_,e⟩)
    ·simp_all
    omega
   refine gj (λh108=>?_) λh108=>?_
   ·refine gC (bwi _ _ _ Mn) ?_;rintro _ Mb _ hMb ⟨b111,rfl,e111,rfl⟩;rw[<-hpl]at e111;simp only[List.nil_append];refine gh ?_;refine Cf (M':=Mb) (L':=((b8,.cells [.int .i64 lv,.slice ya xs.length yc].toArray 81 (0,0))::(b6,.cells [.slice (some ⟨sg,0,none⟩) st.length vc0].toArray 360 (0,0))::[(sg,.cells scur TO (0,0))])++(YJ D++((bb,.cells [bv,wv,.slice (some ⟨ng,0,none⟩) s.now.length nc,lw].toArray Ew (0,0))::(Rw++Rn')))) (λw h=>(St.dropAt (A:=[_]) h).perm BE) ?_;refine Ef (R:=(b8,.cells [.int .i64 lv,.slice ya xs.length yc].toArray 81 (0,0))::(b6,.cells [.slice (some ⟨sg,0,none⟩) st.length vc0].toArray 360 (0,0))::[(sg,.cells scur TO (0,0))]) (xs:=bw ps 0) (enc:=(λp:(It×Value)×Nat=>[.int .i64 p.2,.agg (Ae p.1).toArray])) (ps:=[112,113]) rfl (by kernel_rfl) (XE b111 ya yc ps Mb e111 (hys.mono hMb) (by omega))
     (λpre _ R=>∃v Rs,R=(b8,.cells [.int .i64 lv,.slice ya xs.length yc].toArray 81 (0,0))::(b6,.cells [v].toArray 360 (0,0))::Rs/\Own v Rs TO 2 (st.length+pre.length) ((st.reverse++pre.map (λq=>(q.1.1.ref,lv-1))).flatMap FH))
     (λ_ _ _ _=>False)
     (λ_=>rfl) (by decide) ⟨_,_,rfl,(by simpa using hown2)⟩ ?_ ?_ ?_
    ·intro l2 W2 pre y M2 R2 hM2 hI2 hpre;obtain⟨v2,Rs2,rfl,hown3⟩:=hI2;have hym:y.1∈ps:=RN (hpre.subset (by simp));obtain⟨⟨yi,yv⟩,yx⟩:=y;have hyb2:=hyb _ hym;obtain⟨va,vc,hyv,_,_⟩:=hyb2;change yv=Value.slice va yi.val.length vc at hyv;subst hyv;obtain⟨a3,c3,rfl⟩:=hown3.form;refine ga λb11=>?_;refine jK λW'=>?_;refine gh ?_;refine lh (Ab (cs:=[_,_]) rfl rfl rfl (by rfl) (by rfl) (by rfl)) ?_;rintro _ _ _ ⟨b121,rfl,rfl,rfl⟩;refine lh (AY (R:=Rs2) (m:=1) rfl rfl rfl rfl hown3 rfl (λi v hv=>CJ.loc (by simpa using hv)) rfl (by rfl) (by simp[Value.oneCell']) (by have:=hpre.length_le;rw[D4,List.length_append,List.length_singleton]at this;omega) (by omega)) ?_;rintro s' _ _ ⟨rfl,R',rfl,hown',_⟩;obtain⟨a4,c4,rfl⟩:=hown'.form;refine gh ?_;refine AM (M':=M2) (L':=(b8,.cells [.int .i64 lv,.slice ya xs.length yc].toArray 81 (0,0))::(b6,.cells [.slice a4 (st.length+pre.length+1) c4].toArray 360 (0,0))::R') (λw h=>h.dropAt.dropAt.perm BE) ?_;refine wJi ?_;grind[FH]
    ·intro d M3 R3 hM3 hI3;obtain⟨v3,Rs3,rfl,hown3⟩:=hI3;refine gh ?_;refine Jf ⟨AS s k.toNat,(EX lv xs++st),f,(d::D),M3,((bb,.cells [bv,wv,.slice (some ⟨ng,0,none⟩) s.now.length nc,lw].toArray Ew (0,0))::(Rw++Rn')),Rs3,v3⟩ rfl (Keep.cons (t:=0) rfl (Keep.cons (t:=5) rfl (Keep.cons (t:=6) rfl Keep.nil))) ⟨Fx hI.ok (by omega),hI.mle.trans (hMn.trans (hMb.trans hM3)),BOwn.put (g2.mono (hMn.trans (hMb.trans hM3))) (g3.mono (hMn.trans (hMb.trans hM3))) (g5.mono (hMn.trans (hMb.trans hM3))) rfl rfl rfl (by unfold AS;simp) (by rw[hclr];exact hnow2),?_,?_,?_,?_,?_⟩ (by show f<f+1;omega) ?_
     ·show Own v3 Rs3 TO 2 (EX lv xs++st).length ((EX lv xs++st).reverse.flatMap FH);grind[V7,D4,EX]
     ·intro p hp;rcases List.mem_append.1 hp with hp|hp
      ·obtain ⟨y,hy,rfl⟩:=List.mem_map.1 hp;have:=hno.up h108 y hy;have:=hno.ref y hy;show 8<=y.ref/\y.ref<256;omega
      grind
     ·have:=hI.eq;rw[this];show MQ _ _ _ _=_;rw[EN hz h1 hnd,if_neg hng,if_pos h108]
     ·grind [FV,DI,AS]
     ·grind [EX]
     exact λw h=>(h.perm (L':=(b8,.cells [.int .i64 lv,.slice ya xs.length yc].toArray 81 (0,0))::(YJ (d::D)++((b6,.cells [v3].toArray 360 (0,0))::(Rs3++((bb,.cells [bv,wv,.slice (some ⟨ng,0,none⟩) s.now.length nc,lw].toArray Ew (0,0))::(Rw++Rn')))))) BE).tl
    grind
   refine gh ?_;refine Cf (M':=Mn) (L':=YJ D++((b6,.cells [.slice (some ⟨sg,0,none⟩) st.length vc0].toArray 360 (0,0))::([(sg,.cells scur TO (0,0))]++((bb,.cells [bv,wv,.slice (some ⟨ng,0,none⟩) s.now.length nc,lw].toArray Ew (0,0))::(Rw++Rn'))))) (λw h=>h.tl.tl) ?_;refine CC (α:=Nat×Sto×Mem×Lc) (λx=>[(0,.pointer (some ⟨bb,0,none⟩)),(5,.slice (some ⟨fb,fo,none⟩) s0.now.length fc),(6,.pointer (some ⟨b6,0,none⟩)),(124,.slice ya xs.length yc),(125,.int .i64 xs.length),(126,.int .i64 x.1)]) (λx=>x.2.2.1) (λx=>YJ D++((b6,.cells [.slice (some ⟨sg,0,none⟩) st.length vc0].toArray 360 (0,0))::([(sg,.cells scur TO (0,0))]++x.2.2.2))) (λx=>x.1<=xs.length/\MLe Mn x.2.2.1/\BOwn x.2.2.1 bb x.2.2.2 x.2.1/\Av x.2.1/\DI x.2.1.now<=f/\C4 xs (AS s k.toNat)=C4 (xs.drop x.1) x.2.1) (λx=>xs.length-x.1) (0,AS s k.toNat,Mn,((bb,.cells [bv,wv,.slice (some ⟨ng,0,none⟩) s.now.length nc,lw].toArray Ew (0,0))::(Rw++Rn'))) ⟨Nat.zero_le _,MLe.refl _,BOwn.put (g2.mono hMn) (g3.mono hMn) (g5.mono hMn) rfl rfl rfl (by unfold AS;simp) (by rw[hclr];exact hnow2),Fx hI.ok (by omega),(by have:=FV (show k.toNat<s.now.length by omega) (show (s.now.getD k.toNat 0).toNat=1 by rw[h1];rfl);show DI (AS s k.toNat).now<=f;omega),rfl⟩ ?_;rintro⟨j,t,Mj,Lj⟩ ⟨hj,hMj,hB,htok,hsum,hloo⟩;try dsimp only at hj hMj hB htok hsum hloo⊢
   refine gj (λh127=>?_) λh127=>?_
   ·refine gh ?_;have hj1:j<xs.length:=by omega
    obtain⟨sb,so,e0,hx⟩:=(hys.mono hMj).open (by intro e;have:=congrArg length e;rw[Aj Ae 5 Ag,length_nil]at this;omega);cases e0;obtain⟨va,vc,hcl,hvc,hvs⟩:=Aw hx hyp (λp hp=>(hyb p hp).mono hMj) hj1;have hxr:=hno.ref xs[j] (getElem_mem hj1);have ht256:t.now.length=256:=htok.2.1.1;refine gh ?_;refine lq (A1 (cs:=E1 xs[j] va vc) rfl rfl rfl rfl rfl (λi v hv=>(hcl i v hv).cj _)) ?_;refine gA λb13=>?_;refine gj (λh132=>?_) λh132=>?_
    ·refine gh ?_;refine BD (j+1,t,Mj,Lj) ⟨by show j+1<=xs.length;omega,hMj,hB,htok,hsum,by show _=C4 (xs.drop (j+1)) t;rw[hloo,DZ hj1,if_pos h132]⟩ (hs:=λw h=>h.tl)
    refine gh ?_;have hkr2:((xs[j].ref.toNat:Nat):Int)=xs[j].ref:=Int.toNat_of_nonneg (by omega);refine lh (BV rfl rfl rfl rfl rfl (by kernel_rfl) (by have:=GN t xs[j].ref.toNat bb (by omega) Mj Lj hB;rwa[hkr2]at this)) ?_;rintro _ Mq _ ⟨hMq,R',rfl,⟨rfl,hB2⟩⟩;refine gj (λh138=>?_) λh138=>?_
    ·refine gh ?_;refine EE (λw h=>(h.fewer (List.sublist_append_right _ _)).tl) ?_;refine gr ?_;exact .inl ⟨by rw[hI.eq];show MQ _ _ _ _=_;rw[EN hz h1 hnd,if_neg hng,if_neg h108,hloo,DZ hj1,if_neg h132,if_neg h138],rfl⟩
    refine gh ?_;have h138':=Classical.not_not.1 h138;refine BD (j+1,AO t xs[j].ref.toNat,Mq,R') ⟨by show j+1<=xs.length;omega,hMj.trans hMq,hB2 h138',C2 htok (by omega),?_,by show _=C4 (xs.drop (j+1)) _;rw[hloo,DZ hj1,if_neg h132,if_pos h138']⟩ (hs:=λw h=>h.dropAt.perm BE);grind[Cj,FM,DI,AO]
   refine gh ?_;have hjx:j=xs.length:=by omega
   subst hjx;rw[drop_length]at hloo;refine Jf ⟨t,st,f,D,Mj,Lj,[(sg,.cells scur TO (0,0))],.slice (some ⟨sg,0,none⟩) st.length vc0⟩ rfl (Keep.cons (t:=0) rfl (Keep.cons (t:=5) rfl (Keep.cons (t:=6) rfl Keep.nil))) ⟨htok,hI.mle.trans (hMn.trans hMj),hB,hown2,hrng,?_,hsum,?_⟩ (by show f<f+1;omega) ?_
   ·have:=hI.eq;rw[this];show MQ _ _ _ _=_;rw[EN hz h1 hnd,if_neg hng,if_neg h108,hloo];rfl
   ·grind
   grind
  refine gg ?_;have hng:¬(s0.now.getD k.toNat 0=0\/0<=l/\lv≠l):=by
   rintro (e|⟨e,_⟩)
   ·simp_all
   omega
  refine gj (λh108=>?_) λh108=>?_
  ·refine gC (bwi _ _ _ Mn) ?_;rintro _ Mb _ hMb ⟨b111,rfl,e111,rfl⟩;rw[<-hpl]at e111;simp only[List.nil_append];refine gh ?_;refine Cf (M':=Mb) (L':=((b8,.cells [.int .i64 lv,.slice ya xs.length yc].toArray 81 (0,0))::(b6,.cells [.slice (some ⟨sg,0,none⟩) st.length vc0].toArray 360 (0,0))::[(sg,.cells scur TO (0,0))])++(YJ D++((bb,.cells [bv,wv,.slice (some ⟨ng,0,none⟩) s.now.length nc,lw].toArray Ew (0,0))::(Rw++Rn')))) (λw h=>(St.dropAt (A:=[_]) h).perm BE) ?_;refine Ef (R:=(b8,.cells [.int .i64 lv,.slice ya xs.length yc].toArray 81 (0,0))::(b6,.cells [.slice (some ⟨sg,0,none⟩) st.length vc0].toArray 360 (0,0))::[(sg,.cells scur TO (0,0))]) (xs:=bw ps 0) (enc:=(λp:(It×Value)×Nat=>[.int .i64 p.2,.agg (Ae p.1).toArray])) (ps:=[112,113]) rfl (by kernel_rfl) (XE b111 ya yc ps Mb e111 (hys.mono hMb) (by omega))
    (λpre _ R=>∃v Rs,R=(b8,.cells [.int .i64 lv,.slice ya xs.length yc].toArray 81 (0,0))::(b6,.cells [v].toArray 360 (0,0))::Rs/\Own v Rs TO 2 (st.length+pre.length) ((st.reverse++pre.map (λq=>(q.1.1.ref,lv-1))).flatMap FH))
    (λ_ _ _ _=>False)
    (λ_=>rfl) (by decide) ⟨_,_,rfl,(by simpa using hown2)⟩ ?_ ?_ ?_
   ·intro l2 W2 pre y M2 R2 hM2 hI2 hpre;obtain⟨v2,Rs2,rfl,hown3⟩:=hI2;have hym:y.1∈ps:=RN (hpre.subset (by simp));obtain⟨⟨yi,yv⟩,yx⟩:=y;have hyb2:=hyb _ hym;obtain⟨va,vc,hyv,_,_⟩:=hyb2;change yv=Value.slice va yi.val.length vc at hyv;subst hyv;obtain⟨a3,c3,rfl⟩:=hown3.form;refine ga λb11=>?_;refine jK λW'=>?_;refine gh ?_;refine lh (Ab (cs:=[_,_]) rfl rfl rfl (by rfl) (by rfl) (by rfl)) ?_;rintro _ _ _ ⟨b121,rfl,rfl,rfl⟩;refine lh (AY (R:=Rs2) (m:=1) rfl rfl rfl rfl hown3 rfl (λi v hv=>CJ.loc (by simpa using hv)) rfl (by rfl) (by simp[Value.oneCell']) (by have:=hpre.length_le;rw[D4,List.length_append,List.length_singleton]at this;omega) (by omega)) ?_;rintro s' _ _ ⟨rfl,R',rfl,hown',_⟩;obtain⟨a4,c4,rfl⟩:=hown'.form;refine gh ?_;refine AM (M':=M2) (L':=(b8,.cells [.int .i64 lv,.slice ya xs.length yc].toArray 81 (0,0))::(b6,.cells [.slice a4 (st.length+pre.length+1) c4].toArray 360 (0,0))::R') (λw h=>h.dropAt.dropAt.perm BE) ?_;refine wJi ?_;grind[FH]
   ·intro d M3 R3 hM3 hI3;obtain⟨v3,Rs3,rfl,hown3⟩:=hI3;refine gh ?_;refine Jf ⟨AS s k.toNat,(EX lv xs++st),f,(d::D),M3,((bb,.cells [bv,wv,.slice (some ⟨ng,0,none⟩) s.now.length nc,lw].toArray Ew (0,0))::(Rw++Rn')),Rs3,v3⟩ rfl (Keep.cons (t:=0) rfl (Keep.cons (t:=5) rfl (Keep.cons (t:=6) rfl Keep.nil))) ⟨Fx hI.ok (by omega),hI.mle.trans (hMn.trans (hMb.trans hM3)),BOwn.put (g2.mono (hMn.trans (hMb.trans hM3))) (g3.mono (hMn.trans (hMb.trans hM3))) (g5.mono (hMn.trans (hMb.trans hM3))) rfl rfl rfl (by unfold AS;simp) (by rw[hclr];exact hnow2),?_,?_,?_,?_,?_⟩ (by show f<f+1;omega) ?_
    ·show Own v3 Rs3 TO 2 (EX lv xs++st).length ((EX lv xs++st).reverse.flatMap FH);grind[V7,D4,EX]
    ·intro p hp;rcases List.mem_append.1 hp with hp|hp
     ·obtain ⟨y,hy,rfl⟩:=List.mem_map.1 hp;have:=hno.up h108 y hy;have:=hno.ref y hy;show 8<=y.ref/\y.ref<256;omega
     grind
    ·have:=hI.eq;rw[this];show MQ _ _ _ _=_;rw[EN hz h1 hnd,if_neg hng,if_pos h108]
    ·grind [FV,DI,AS]
    ·grind [EX]
    exact λw h=>(h.perm (L':=(b8,.cells [.int .i64 lv,.slice ya xs.length yc].toArray 81 (0,0))::(YJ (d::D)++((b6,.cells [v3].toArray 360 (0,0))::(Rs3++((bb,.cells [bv,wv,.slice (some ⟨ng,0,none⟩) s.now.length nc,lw].toArray Ew (0,0))::(Rw++Rn')))))) BE).tl
   grind
  refine gh ?_;refine Cf (M':=Mn) (L':=YJ D++((b6,.cells [.slice (some ⟨sg,0,none⟩) st.length vc0].toArray 360 (0,0))::([(sg,.cells scur TO (0,0))]++((bb,.cells [bv,wv,.slice (some ⟨ng,0,none⟩) s.now.length nc,lw].toArray Ew (0,0))::(Rw++Rn'))))) (λw h=>h.tl.tl) ?_;refine CC (α:=Nat×Sto×Mem×Lc) (λx=>[(0,.pointer (some ⟨bb,0,none⟩)),(5,.slice (some ⟨fb,fo,none⟩) s0.now.length fc),(6,.pointer (some ⟨b6,0,none⟩)),(124,.slice ya xs.length yc),(125,.int .i64 xs.length),(126,.int .i64 x.1)]) (λx=>x.2.2.1) (λx=>YJ D++((b6,.cells [.slice (some ⟨sg,0,none⟩) st.length vc0].toArray 360 (0,0))::([(sg,.cells scur TO (0,0))]++x.2.2.2))) (λx=>x.1<=xs.length/\MLe Mn x.2.2.1/\BOwn x.2.2.1 bb x.2.2.2 x.2.1/\Av x.2.1/\DI x.2.1.now<=f/\C4 xs (AS s k.toNat)=C4 (xs.drop x.1) x.2.1) (λx=>xs.length-x.1) (0,AS s k.toNat,Mn,((bb,.cells [bv,wv,.slice (some ⟨ng,0,none⟩) s.now.length nc,lw].toArray Ew (0,0))::(Rw++Rn'))) ⟨Nat.zero_le _,MLe.refl _,BOwn.put (g2.mono hMn) (g3.mono hMn) (g5.mono hMn) rfl rfl rfl (by unfold AS;simp) (by rw[hclr];exact hnow2),Fx hI.ok (by omega),(by have:=FV (show k.toNat<s.now.length by omega) (show (s.now.getD k.toNat 0).toNat=1 by rw[h1];rfl);show DI (AS s k.toNat).now<=f;omega),rfl⟩ ?_;rintro⟨j,t,Mj,Lj⟩ ⟨hj,hMj,hB,htok,hsum,hloo⟩;try dsimp only at hj hMj hB htok hsum hloo⊢
  refine gj (λh127=>?_) λh127=>?_
  ·refine gh ?_;have hj1:j<xs.length:=by omega
   obtain⟨sb,so,e0,hx⟩:=(hys.mono hMj).open (by intro e;have:=congrArg length e;rw[Aj Ae 5 Ag,length_nil]at this;omega);cases e0;obtain⟨va,vc,hcl,hvc,hvs⟩:=Aw hx hyp (λp hp=>(hyb p hp).mono hMj) hj1;have hxr:=hno.ref xs[j] (getElem_mem hj1);have ht256:t.now.length=256:=htok.2.1.1;refine gh ?_;refine lq (A1 (cs:=E1 xs[j] va vc) rfl rfl rfl rfl rfl (λi v hv=>(hcl i v hv).cj _)) ?_;refine gA λb13=>?_;refine gj (λh132=>?_) λh132=>?_
   ·refine gh ?_;refine BD (j+1,t,Mj,Lj) ⟨by show j+1<=xs.length;omega,hMj,hB,htok,hsum,by show _=C4 (xs.drop (j+1)) t;rw[hloo,DZ hj1,if_pos h132]⟩ (hs:=λw h=>h.tl)
   refine gh ?_;have hkr2:((xs[j].ref.toNat:Nat):Int)=xs[j].ref:=Int.toNat_of_nonneg (by omega);refine lh (BV rfl rfl rfl rfl rfl (by kernel_rfl) (by have:=GN t xs[j].ref.toNat bb (by omega) Mj Lj hB;rwa[hkr2]at this)) ?_;rintro _ Mq _ ⟨hMq,R',rfl,⟨rfl,hB2⟩⟩;refine gj (λh138=>?_) λh138=>?_
   ·refine gh ?_;refine EE (λw h=>(h.fewer (List.sublist_append_right _ _)).tl) ?_;refine gr ?_;exact .inl ⟨by rw[hI.eq];show MQ _ _ _ _=_;rw[EN hz h1 hnd,if_neg hng,if_neg h108,hloo,DZ hj1,if_neg h132,if_neg h138],rfl⟩
   refine gh ?_;have h138':=Classical.not_not.1 h138;refine BD (j+1,AO t xs[j].ref.toNat,Mq,R') ⟨by show j+1<=xs.length;omega,hMj.trans hMq,hB2 h138',C2 htok (by omega),?_,by show _=C4 (xs.drop (j+1)) _;rw[hloo,DZ hj1,if_neg h132,if_pos h138']⟩ (hs:=λw h=>h.dropAt.perm BE);grind[Cj,FM,DI,AO]
  refine gh ?_;have hjx:j=xs.length:=by omega
  subst hjx;rw[drop_length]at hloo;refine Jf ⟨t,st,f,D,Mj,Lj,[(sg,.cells scur TO (0,0))],.slice (some ⟨sg,0,none⟩) st.length vc0⟩ rfl (Keep.cons (t:=0) rfl (Keep.cons (t:=5) rfl (Keep.cons (t:=6) rfl Keep.nil))) ⟨htok,hI.mle.trans (hMn.trans hMj),hB,hown2,hrng,?_,hsum,?_⟩ (by show f<f+1;omega) ?_
  ·have:=hI.eq;rw[this];show MQ _ _ _ _=_;rw[EN hz h1 hnd,if_neg hng,if_neg h108,hloo];rfl
  ·grind
  grind
 refine gh ?_;refine EE (λw h=>h) ?_;refine AM (M':=Mk) (L':=(bb,.cells [bv,wv,.slice (some ⟨ng,0,none⟩) s.now.length nc,lw].toArray Ew (0,0))::(Rw++[(ng,.cells ncur 5 (0,0))])) (λw h=>h.tl.fewer (List.sublist_append_right _ _)) ?_;refine FX rfl rfl ?_;obtain rfl:st=[]:=List.eq_nil_of_length_eq_zero (by omega);exact .inr ⟨s,by rw[hI.eq];cases f<;>rfl,rfl,hI.ok,hI.bo⟩
variable{lv:Int}{s:Sto}{xs:List It}
theorem Hh(h:KS s lv xs=0)(a:s.waits.length<=4096):CD lv xs=true/\SL s xs=0/\BH (Am s xs)<256/\s.waits.length<4096:=by
 grind[KS,CD,SL,BH,Am,wUm]
def PS(M:Mem)(v:Value)(ls:List (List It)):Prop:=∃a c,∃ps:List (List It×Value),v=.slice a ls.length c/\ls.length<=c/\SM M a (ps.map (·.2))/\ps.map (·.1)=ls/\∀p∈ps,NS M p.2 p.1
theorem PS.get{M:Mem}{sb so:Nat}{ls:List (List It)}{ps:List (List It×Value)}(hx:∀i u,(ps.map (·.2))[i]? =some u->CM M sb (so+i) u)(hp:ps.map (·.1)=ls)(hb:∀p∈ps,NS M p.2 p.1){k:Nat}(hk:k<ls.length):
  ∃v,CM M sb (so+k*1) v/\NS M v ls[k]:=by
 grind
variable{M:Mem}{a:Option Addr}{c:Nat}
theorem NS.take{n:Nat}(h:NS M (.slice a xs.length c) xs)(k:n<=xs.length):NS M (.slice a n c) (xs.take n):=by
 obtain⟨y,w,ps,e,s,d,o,m⟩:=h;cases e;refine⟨a,c,ps.take n,by rw[length_take,Nat.min_eq_left k],by rw[length_take];omega,?_,by rw[List.map_take,o],λp j=>m p (List.mem_of_mem_take j)⟩;rcases d with d|⟨b,f,rfl,d⟩
 ·left;have:ps=[]:=by
   cases ps with
   |nil=>rfl
   |cons p ps=>simp[Ae]at d
  rw[this];simp
 right;refine⟨b,f,rfl,λi u g=>d i u ?_⟩;have l:=(List.getElem?_eq_some_iff.1 g).1;have e:ps.flatMap Ae=(ps.take n).flatMap Ae++(ps.drop n).flatMap Ae:=by rw[<-List.flatMap_append,List.take_append_drop]
 rw[e,List.getElem?_append_left l];exact g
theorem NS.drop{n:Nat}(h:NS M (.slice a xs.length c) xs)(o:n<xs.length):NS M (.slice (HE a n c 5) (xs.length-n) (c-n)) (xs.drop n):=by
 obtain⟨z,y,ps,e,w,d,m,l⟩:=h;cases e;have j:ps.length=xs.length:=by grind
 refine⟨_,_,ps.drop n,by rw[length_drop],by rw[length_drop];omega,?_,by rw[List.map_drop,m],λp k=>l p (List.mem_of_mem_drop k)⟩;rcases d with d|⟨b,f,rfl,d⟩
 ·exfalso;have:=congrArg length d;rw[Aj Ae 5 Ag,length_nil]at this;omega
 right;refine⟨b,f+n*5,AH (by omega),λi u g=>?_⟩;have e:ps.flatMap Ae=(ps.take n).flatMap Ae++(ps.drop n).flatMap Ae:=by rw[<-List.flatMap_append,List.take_append_drop]
 have s:((ps.take n).flatMap Ae).length=n*5:=by rw[Aj Ae 5 Ag,length_take,Nat.min_eq_left (by omega)]
 have:=d (n*5+i) u (by rw[e,List.getElem?_append_right (by omega),show n*5+i-((ps.take n).flatMap Ae).length=i by omega];exact g);grind
def NK(x:It):List Value:=Ae (x,.slice none 0 0)
variable{j:Nat}{ps:List (List It)}{up:List It}
theorem Ws(h:j<ps.length):Ud lv (ps.drop j) s up=if KS s lv ps[j]=0 then Ud lv (ps.drop (j+1)) (EM s lv ps[j]) (up++[XY s ps[j]])else .error (KS s lv ps[j]):=by
 rw[List.drop_eq_getElem_cons h,Ud]
theorem Nk(h:j<xs.length):Kl (xs.drop j) s=if xs[j].ref=0 then Kl (xs.drop (j+1)) s else if Cj s xs[j].ref.toNat=0 then Kl (xs.drop (j+1)) (AO s xs[j].ref.toNat)else .error (Cj s xs[j].ref.toNat):=by
 rw[List.drop_eq_getElem_cons h,Kl]
theorem GH{l p:List It}(h:p∈Br l):(∀x∈p,x∈l)/\(l≠[]->p≠[]):=by
 unfold Br at h;split at h
 ·rename_i b;simp only[List.mem_cons,List.not_mem_nil,or_false]at h;rcases h with rfl|rfl
  ·exact ⟨λx a=>List.mem_of_mem_take a,λ_ e=>by have:=congrArg length e;rw[length_take,length_nil]at this;omega⟩
  exact⟨λx a=>List.mem_of_mem_drop a,λ_ e=>by have:=congrArg length e;rw[length_drop,length_nil]at this;omega⟩
 grind
theorem GI(l:List It):(Br l).length=if 5<l.length then 2 else 1:=by grind[Br]
theorem YK(s:Sto)(lv:Int)(xs:List It):(EM s lv xs).waits.length=s.waits.length+1:=by
 show ((Am s xs).waits++[_]).length=_;grind[CH]
variable{va:Option Addr}{vc:Nat}
theorem PB{x:It}{i:Nat}{v:Value}(a:(AA x.key)[i]? =some v):(E1 x va vc)[i]? =some v:=by
 match i,a with
 |0,a=>exact a
 |1,a=>exact a
 |2,a=>exact a
 |n+3,a=>simp[AA]at a
theorem wDd{p:List It}(h:0<p.length):NK (XY s p)=AA p[0].key++[.int .i64 (BH (Am s p):Int),.slice none 0 0]:=by
 obtain⟨x,xs,rfl⟩:=List.exists_cons_of_length_pos h;rfl
def BdPost(r:Except Int (Sto×List It))(bb:Nat)(Lb:Lc)(u:Value)(M':Mem)(L':Lc):Prop:=match r with
 |.error e=>e≠0/\u=.tuple #[.slice none 0 0,.int .i64 e]
 |.ok (t,up)=>∃a c Ru Lb',u=.tuple #[.slice a up.length c,.int .i64 0]/\L'=Ru++Lb'/\Av t/\BOwn M' bb Lb' t/\Own (.slice a up.length c) Ru IT 5 up.length (up.flatMap NK)/\(∀x∈up,x.val=[])/\∀p∈Ru,p.1∉Lb.map (·.1)
structure B1S where
 j:Nat
 s:Sto
 up:List It
 M:Mem
 L:Lc
 R:Lc
 v:Value
structure B1I(bb:Nat)(s0:Sto)(lv:Int)(l:List It)(Mz:Mem)(W:World)(x:B1S):Prop where
 le:x.j<=(Br l).length
 mle:MLe Mz x.M
 bo:BOwn x.M bb x.L x.s
 ok:Av x.s
 own:Own x.v x.R IT 5 x.up.length (x.up.flatMap NK)
 eq:Ud lv (Br l) s0 []=Ud lv ((Br l).drop x.j) x.s x.up
 ul:x.up.length=x.j
 val:∀y∈x.up,y.val=[]
 nw:∀p∈x.R,W.heap.size<=p.1
theorem RP(u:Sto)(lv:Int)(l held:List It)(F:Option Addr)(k:Nat)(G:Value)(B:Nat)(M:Mem)(Y:Lc)(aI:BOwn M B Y u)(a1:Av u)(C:NS M (.slice F l.length k) l)(aA:NS M G held)(a6:l≠[])(a7:∀x∈l,0<=x.key.kind/\x.key.kind<256)(aB:∀x∈held,0<=x.ref/\(x.ref=0\/8<=x.ref)/\x.ref<256)(aX:l.length<=100)(aZ:held.length<=100):
  SpecL prog 263 #[pB B,.int .i64 lv,.slice F l.length k,G] M Y (BdPost (build u lv l held) B Y):=by
 obtain⟨ha,hc,aU,rfl,ba,am,ao,aC⟩:=id aA;have aY:l.length<=k:=by obtain⟨_,_,_,e,h,_⟩:=id C;cases e;exact h
 refine Ya (vs:=[_,_,_,_]) 73 _ func263 rfl ntmps263 rfl rfl ?_;intro W hX;refine gh ?_;refine lh (Ab (cs:=[_]) rfl rfl rfl (by rfl) (by rfl) (by rfl)) ?_;rintro _ _ _ ⟨aq,rfl,rfl,rfl⟩;refine jp rfl ?_;refine Ai (jT ?_);refine FO (α:=Mem×Value) (λz=>[(0,pB B),(1,.int .i64 lv),(3,.slice ha held.length hc),(8,.slice none 0 0),(10,z.2)]) (λz=>z.1) (λ_=>Y) (λz=>MLe M z.1/\PS z.1 z.2 (Br l)) ?_ ?_
 ·rintro ⟨Mz,pv⟩ ⟨D,ad⟩;try dsimp only at D ad⊢
  obtain⟨pa,pc,aS,rfl,aV,ae,af,a5⟩:=id ad;have aP:0<(Br l).length/\(Br l).length<=2:=by grind[GI]
  obtain⟨pb,po,e0,a3⟩:=ae.open (by intro e;have:=congrArg length e;rw[length_map,length_nil]at this;have h2:=congrArg length af;rw[length_map]at h2;omega);cases e0;refine gh ?_;refine CC (α:=B1S) (λx=>[(0,pB B),(1,.int .i64 lv),(3,.slice ha held.length hc),(8,x.v),(28,.slice (some ⟨pb,po,none⟩) (Br l).length pc),(29,.int .i64 (Br l).length),(30,.int .i64 x.j)]) (λx=>x.M) (λx=>x.R++x.L) (λx=>B1I B u lv l Mz W x) (λx=>(Br l).length-x.j) ⟨0,u,[],Mz,Y,[],.slice none 0 0⟩ ⟨Nat.zero_le _,MLe.refl _,aI.mono D,a1,Own.nil _ _,rfl,rfl,λ_ h=>(by cases h),λ_ h=>(by cases h)⟩ ?_;rintro⟨j,s,up,Mk,Lk,Rk,v⟩ a;try dsimp only
  obtain⟨av,au,aa⟩:=a.own.form;try dsimp only at aa
  subst aa;have al:=a.le;try dsimp only at al
  refine gj (λaK=>?_) λaK=>?_
  ·refine gh ?_;have b:j<(Br l).length:=by omega
   obtain⟨aQ,aD,aj⟩:=PS.get a3 af a5 b;obtain⟨qa,qc,aw,rfl,a2,ab,K,ac⟩:=aj.mono a.mle;have ag:=GH (getElem_mem b);have ah:0<(Br l)[j].length:=List.length_pos_iff.2 (ag.2 a6);refine gh ?_;refine lq (Au rfl rfl rfl rfl ((aD.mono a.mle).cj _)) ?_;refine gh ?_;have d:s.now.length=256/\s.last.length=256/\s.waits.length<=4096:=⟨a.ok.2.1.1,a.ok.2.2.1,a.ok.1.2.1⟩;refine lh (hC (NC s lv (Br l)[j] qa qc aw Mk a2 ab K ac (λx hx=>a7 x (ag.1 x hx)) B Lk a.bo d.1 d.2.1 d.2.2)) ?_;rintro _ Mm _ ⟨S,R',rfl,⟨be,e,rfl,he,T⟩⟩;refine gj (λE=>?_) λE=>?_
   ·refine gr ?_;have n:build u lv l held=.error (KS s lv (Br l)[j]):=by
     have h9:Ud lv (Br l) u []=.error (KS s lv (Br l)[j]):=by have:=a.eq;rw[this];show Ud _ _ _ _=_;rw[Ws b,if_neg (by rw[<-he];exact E)]
     grind[build]
    rw[n,<-he];exact⟨E,rfl⟩
   refine gh ?_;obtain⟨sb,so,e0,hx⟩:=(ab.mono S).open (by intro e;have:=congrArg length e;rw[Aj Ae 5 Ag,length_nil]at this;have h2:=congrArg length K;rw[length_map]at h2;omega);cases e0;obtain⟨va,vc,Q,ay,ax⟩:=Aw hx K (λp H=>(ac p H).mono S) ah;have ap:e=0:=Classical.not_not.1 E;obtain⟨aE,aH⟩:=T ap;have I:KS s lv (Br l)[j]=0:=he.symm.trans ap;have P:=Hh I a.ok.1.2.1;have az:=a.ul;try dsimp only at az
   refine gh ?_;refine lq (A1 (cs:=AA (Br l)[j][0].key) rfl rfl rfl rfl rfl (λi v G=>(Q i v (PB G)).cj _)) ?_;refine gh ?_;refine lh (Ab (cs:=[_,_,_,_,_]) rfl rfl rfl (by rfl) (by rfl) (by rfl)) ?_;rintro _ _ _ ⟨bc,rfl,rfl,rfl⟩;refine lh (WU (R:=Rk) (m:=1) (news:=NK (XY s (Br l)[j])) rfl rfl rfl rfl a.own rfl (λi v G=>CJ.loc (by rw[<-G,wDd ah,aE];show _=_;rw[Nat.zero_add];rfl)) rfl (by rfl) (by simp[NK,Ae,Value.oneCell']) (by show up.length+1<=_;omega) (by omega)) ?_;rintro s' _ _ ⟨rfl,Rq,rfl,O,_,ai⟩;obtain⟨a4,c4,rfl⟩:=O.form;refine gh ?_;refine BD ⟨j+1,EM s lv (Br l)[j],up++[XY s (Br l)[j]],Mm,R',Rq,.slice a4 (up.length+1) c4⟩ ⟨by show j+1<=_;omega,a.mle.trans S,aH,Jc a.ok P.1 P.2.2.1 P.2.2.2,?_,?_,?_,?_,ai a.nw⟩ (hs:=λw h=>h.dropAt.perm BE)
   ·grind
   ·have:=a.eq;rw[this];show Ud _ _ _ _=_;rw[Ws b,if_pos I]
   ·grind
   intro y Z;rcases List.mem_append.1 Z with Z|Z
   ·exact a.val y Z
   rw[List.mem_singleton.1 Z];rfl
  refine gh ?_;have a8:j=(Br l).length:=by omega
  have aW:Ud lv (Br l) u []=.ok (s,up):=by have:=a.eq;rw[this];show Ud _ ((Br l).drop j) _ _=_;rw[a8,drop_length];rfl
  refine CC (α:=Nat×Sto×Mem×Lc) (λx=>[(0,pB B),(8,.slice av up.length au),(55,.slice ha held.length hc),(56,.int .i64 held.length),(57,.int .i64 x.1)]) (λx=>x.2.2.1) (λx=>Rk++x.2.2.2) (λx=>x.1<=held.length/\MLe Mk x.2.2.1/\BOwn x.2.2.1 B x.2.2.2 x.2.1/\Av x.2.1/\Kl held s=Kl (held.drop x.1) x.2.1) (λx=>held.length-x.1) (0,s,Mk,Lk) ⟨Nat.zero_le _,MLe.refl _,a.bo,a.ok,rfl⟩ ?_;rintro⟨j,t,Mj,Lj⟩ ⟨hj,o,hB,c,f⟩;try dsimp only at hj o hB c f⊢
  refine gj (λaJ=>?_) λaJ=>?_
  ·refine gh ?_;have b:j<held.length:=by omega
   obtain⟨sb,so,e0,hx⟩:=(am.mono (D.trans (a.mle.trans o))).open (by intro e;have:=congrArg length e;rw[Aj Ae 5 Ag,length_nil]at this;have h2:=congrArg length ao;rw[length_map]at h2;omega);cases e0;obtain⟨va,vc,Q,ay,ax⟩:=Aw hx ao (λp H=>(aC p H).mono (D.trans (a.mle.trans o))) b;have aT:=aB held[j] (getElem_mem b);have a0:t.now.length=256:=c.2.1.1;refine gh ?_;refine lq (A1 (cs:=E1 held[j] va vc) rfl rfl rfl rfl rfl (λi v G=>(Q i v G).cj _)) ?_;refine gA λbd=>?_;refine gj (λV=>?_) λV=>?_
   ·refine gh ?_;refine BD (j+1,t,Mj,Lj) ⟨by show j+1<=held.length;omega,o,hB,c,by show _=Kl (held.drop (j+1)) t;rw[f,Nk b,if_pos V]⟩ (hs:=λw h=>h.tl)
   refine gh ?_;have ak:((held[j].ref.toNat:Nat):Int)=held[j].ref:=Int.toNat_of_nonneg (by omega);refine lh (BV rfl rfl rfl rfl rfl (by kernel_rfl) (by have:=GN t held[j].ref.toNat B (by omega) Mj Lj hB;rwa[ak]at this)) ?_;rintro _ Mq _ ⟨aF,R',rfl,⟨rfl,T⟩⟩;refine gj (λU=>?_) λU=>?_
   ·refine gr ?_;have n:build u lv l held=.error (Cj t held[j].ref.toNat):=by grind[build,Kl,Nk]
    rw[n];exact⟨U,rfl⟩
   refine gh ?_;have J:=Classical.not_not.1 U;refine BD (j+1,AO t held[j].ref.toNat,Mq,R') ⟨by show j+1<=held.length;omega,o.trans aF,T J,C2 c (by omega),by show _=Kl (held.drop (j+1)) _;rw[f,Nk b,if_neg V,if_pos J]⟩ (hs:=λw h=>h.dropAt.perm BE)
  refine Ai (jT (Ah (DM rfl (Gi (wBo (wBo (wXd (jT (Ah (Af ?_))))))))));iterate 3 refine jp rfl ?_
  refine Ai (jT (Bq ?_));refine wSg rfl rfl rfl ?_;have a9:j=held.length:=by omega
  subst a9;rw[drop_length]at f;have n:build u lv l held=.ok (t,up):=by grind[build,Kl]
  rw[n];exact⟨_,_,Rk,Lj,rfl,rfl,c,hB,a.own,a.val,Qu hX a.nw⟩
 refine gj (λaL=>?_) λaL=>?_
 ·refine gh ?_;refine QQ [0,1,2,3,104,5] ?_;refine gh ?_;refine dq rfl (Bh (CL rfl rfl rfl (.no _) (.of (v:=3) rfl (by omega) rfl) (.no _) (by omega) (by simp)) (v':=.slice F 3 k) (by rw[AU];rfl)) ?_;refine gh ?_;refine dq rfl (CL rfl rfl rfl (.no _) (.no _) (.of (v:=3) rfl (by omega) rfl) (by omega) (by simp)) ?_;refine GP rfl rfl rfl (Ab (cs:=[_,_]) rfl rfl rfl (by rfl) (by rfl) (by rfl)) ?_;rintro _ _ _ ⟨X,rfl,rfl,rfl⟩;refine Cv (MLe.refl _) (λ_ h=>List.mem_cons_of_mem _ h) (by first|exact MLe.refl _|assumption) (by simp) ?_;refine gh ?_;refine AM (M':=M) (L':=(X,cE [Value.slice F 3 k,Value.slice (HE F 3 k 5) (l.length-3) (k-3)] 79)::Y) (λw h=>St.dropAt (A:=[_]) h) ?_;refine QL X (λ_ h=>h) ?_;intro Mf g aM;refine Cx (Mf,.slice (some ⟨X,0,none⟩) 2 2) (Keep.cons (t:=0) rfl (Keep.cons (t:=1) rfl (Keep.cons (t:=3) rfl (Keep.cons (t:=8) rfl (Keep.cons (t:=10) rfl Keep.nil))))) ⟨g,?_⟩ (λw h=>h);have N:Br l=[l.take 3,l.drop 3]:=if_pos (by omega);show PS Mf _ (Br l);rw[N];refine⟨_,2,[(l.take 3,.slice F 3 k),(l.drop 3,.slice (HE F 3 k 5) (l.length-3) (k-3))],rfl,Nat.le_refl _,SM.of_block aM,rfl,λp H=>?_⟩;simp only[List.mem_cons,List.not_mem_nil,or_false]at H;rcases H with rfl|rfl
  ·exact (C.take (by omega)).mono g
  exact(C.drop (by omega)).mono g
 refine gh ?_;refine QL aq (λ_ h=>h) ?_;intro Mf g aN;refine Cx (Mf,.slice (some ⟨aq,0,none⟩) 1 1) (Keep.cons (t:=0) rfl (Keep.cons (t:=1) rfl (Keep.cons (t:=3) rfl (Keep.cons (t:=8) rfl (Keep.cons (t:=10) rfl Keep.nil))))) ⟨g,?_⟩ (λw h=>h);have N:Br l=[l]:=if_neg (by omega);show PS Mf _ (Br l);rw[N];refine⟨_,1,[(l,.slice F l.length k)],rfl,Nat.le_refl _,SM.of_block aN,rfl,λp H=>?_⟩;rw[List.mem_singleton.1 H];exact C.mono g
def DW(s:Sto)(k:Int):Int:=if Av s then (if k<8\/256<=k then 2 else if s.now.getD k.toNat 0=0 then 6 else 0)else 8
theorem Vw(s:Sto):DJ s=if Av s then 0 else 8:=by grind[DJ]
variable{k:Int}{s:Sto}
theorem U4(h:DW s k=0):Av s/\8<=k/\k<256/\¬s.now.getD k.toNat 0=0:=by
 grind[DW]
theorem wCn(c:Av s)(b:8<=k/\k<256)(a:¬s.now.getD k.toNat 0=0):DW s k=0:=by
 grind[DW]
theorem RS(s:Sto)(k:Int)(z o w lv:Value)(M:Mem)(c:ST M (.agg #[z,o,w,lv]) s):
  SpecL prog 227 #[.agg #[z,o,w,lv],.int .i64 k] M [] λu _ _=>u=.int .i64 (DW s k):=by
 obtain⟨G,B,C,D,d,P,O,F,N⟩:=c.ex;simp only[Value.agg.injEq,Array.mk.injEq,List.cons.injEq,and_true]at d;obtain⟨rfl,rfl,rfl,rfl⟩:=d;obtain⟨J,H,rfl,E,g⟩:=F;have l:=Vw s;refine sB func227 ntmps227 ?_;intro W;refine ga λQ=>?_;refine gQ (CK s _ M c) ?_;refine gj (λy=>?_) λy=>?_
 ·refine gr ?_;grind[Av,DJ,DW]
 refine gj (λn=>?_) λn=>?_
 ·refine gr ?_;grind[Av,DW]
 refine gj (λm=>?_) λm=>?_
 ·refine gr ?_;grind[Av,DW]
 refine gh ?_;have a:Av s:=Classical.byContradiction λh=>y (by rw[l,if_neg h];decide);have i:s.now.length=256:=a.2.1.1;obtain⟨I,no,d,f⟩:=g.open (by intro e;have:=congrArg length e;rw[Ad,length_nil]at this;omega);subst d;refine gh ?_;refine lq (Au rfl rfl rfl rfl ((f _ _ (by rw[Nat.mul_one];exact Ca (j:=k.toNat) (by omega))).cj _)) ?_;refine gj (λb=>?_) λb=>?_
 ·refine gr ?_;unfold DW;rw[if_pos a,if_neg (by omega),if_pos (UInt8.toNat_inj.1 (show (s.now.getD k.toNat 0).toNat=(0:UInt8).toNat by have L:((s.now.getD k.toNat 0).toNat:Int)=0:=b;have K:(0:UInt8).toNat=0:=rfl;omega))]
 refine gr ?_;unfold DW;rw[if_pos a,if_neg (by omega),if_neg (λe=>b (by rw[e];rfl))]
theorem Yk(s:Sto)(k:Nat)(hk:k<256)(L:Av s)(bv:Value)(F:Option Addr)(E:Nat)(ps:List (Wt×Value))(M:Mem)(h1:LS M bv s.blocks)(ad:s.waits.length<=E)(H:SM M F (ps.flatMap AZ))(hp:ps.map (·.1)=s.waits)(hb:∀q∈ps,BS M q.2 q.1.2):
  SpecL prog 228 #[.agg #[bv,.slice F s.waits.length E],.int .i64 k] M [] λu X L'=>BS X u (seen s k)/\L'=[]:=by
 obtain⟨⟨ah,ag,af,ae⟩,⟨ai,_⟩,_⟩:=id L;obtain⟨ba,bc,aa,rfl,aj,Q,B,S⟩:=h1;obtain⟨bb,bo,e0,P⟩:=Q.open (by intro e;have:=congrArg length e;rw[length_map,length_nil]at this;have h2:=congrArg length B;rw[length_map]at h2;omega);subst e0;obtain⟨va,vc,O,J,I⟩:=CX P B S (k:=k) (by omega);refine sB func228 ntmps228 ?_;intro W;refine ga λb2=>?_;refine lh (Bt (cs:=[.int .i64 k]) rfl rfl rfl rfl) ?_;rintro _ _ _ ⟨b3,rfl,rfl,rfl⟩;refine ga λD=>?_;refine gC (bww _ _ _ M) ?_;rintro _ M1 _ b ⟨U,rfl,j,rfl⟩;have N:ps.length=s.waits.length:=by grind
 rw[<-N]at j;refine gh ?_;refine BL b2 (by simp) ?_;intro ak m T;refine BL b3 (by simp) ?_;intro V g e3;replace T:=g _ _ T;replace j:=g _ _ (m _ _ j);replace b:=b.trans (m.trans g);refine Ef (R:=[(D,cE [.slice none 0 0] 26)]) (xs:=bw ps 0) (enc:=(λp:(Wt×Value)×Nat=>[.int .i64 p.2,.agg (AZ p.1).toArray])) (ps:=[10,11]) rfl (by kernel_rfl) (RM U F E ps V j (H.mono b) (by omega))
  (λn _ R=>R=[(D,cE [.slice none 0 0] 26)]/\∀q∈n,q.1.1.1≠(k:Int))
  (λc _ X R=>c=.ret/\∃v,R=[(D,cE [v] 26)]/\BS X v (seen s k))
  (λ_=>rfl) (by decide) ⟨rfl,λ_ h=>by cases h⟩ ?_ ?_ ?_
 ·intro l W2 n y M2 R2 a i f;obtain⟨rfl,i⟩:=i;have G:y.1∈ps:=RN (f.subset (by simp));obtain⟨⟨Y,yv⟩,yi⟩:=y;have w:=hb _ G;obtain⟨ya,Z,o,ac,ab⟩:=id w;change yv=Value.slice ya Y.2.length Z at o;subst o;refine ga λb6=>?_;refine jK λW'=>?_;refine gh ?_;refine lq (Au rfl rfl rfl rfl (CM.cj ⟨_,_,_,a _ _ e3,rfl⟩ _)) ?_;refine gj (λC=>?_) λC=>?_
  ·refine gh ?_;refine AB (L':=[(D,cE [.slice ya Y.2.length Z] 26)]) (by simp) ?_;refine jQr ?_;refine⟨rfl,_,rfl,?_⟩;rw[MY hp f i C];exact w.mono (b.trans a)
  refine gh ?_;refine AB (L':=[(D,cE [.slice none 0 0] 26)]) (by simp) ?_;refine wJi ?_;grind
 ·intro d M2 R2 a i;obtain⟨rfl,i⟩:=i;have z:=MZ hp i;rw[Ej (by omega)]at z;refine gh ?_;refine lq (Au rfl rfl rfl rfl (CM.cj ⟨_,_,_,a _ _ T,rfl⟩ _)) ?_;refine lq (Au rfl rfl rfl rfl (CM.cj ⟨_,_,_,a _ _ e3,rfl⟩ _)) ?_;refine gh ?_;refine lq (Au rfl rfl rfl rfl ((O.mono (b.trans a)).cj _)) ?_;refine gh ?_;refine Bu (L2:=_) Rm.perm ?_;refine gr ?_;exact⟨by rw[z];exact⟨va,vc,rfl,J,I.mono (b.trans a)⟩,rfl⟩
 intro d c n M2 R2 a f i;obtain⟨rfl,v6,rfl,K⟩:=i;refine gh ?_;refine Bu (L2:=_) Rm.perm ?_;refine gr ?_;exact⟨K,rfl⟩
def RnPost(s:Sto)(k:Int)(u:Value)(M':Mem):Prop:=
 if DW s k=0 then BnPost s k.toNat u M' else u=.tuple #[.agg zeroNd.toArray,.int .i64 (DW s k)]
theorem S7{k:Nat}(h:¬s.now.getD k 0=0):Ak s k=Dk (seen s k):=by grind[Ak]
theorem Yl(s:Sto)(k:Int)(o E w lv:Value)(M:Mem)(m:ST M (.agg #[o,E,w,lv]) s):
  SpecL prog 146 #[.agg #[o,E,w,lv],.int .i64 k] M [] λu X Y=>RnPost s k u X/\Y=[]:=by
 obtain⟨U,H,K,L,G,T,S,g3,g4⟩:=m.ex;simp only[Value.agg.injEq,Array.mk.injEq,List.cons.injEq,and_true]at G;obtain⟨rfl,rfl,rfl,rfl⟩:=G;obtain⟨J,I,ps,rfl,B,z,N,P⟩:=id S;refine sB func146 ntmps146 ?_;intro W;refine Ke λb2 b4=>?_;refine gQ (RS s k o _ w lv M m) ?_;refine gj (λf=>?_) λf=>?_
 ·refine gr ?_;exact⟨by unfold RnPost;rw[if_neg f];rfl,rfl⟩
 refine gh ?_;have a:=Classical.not_not.1 f;obtain⟨h,O,D,c⟩:=U4 a;obtain⟨y,rfl⟩:∃n:Nat,k=(n:Int):=⟨k.toNat,by omega⟩;rw[Int.toNat_natCast]at c;have l:y<256:=by omega
 refine gc (Yk s y l h o J I ps M T B z N P) ?_;rintro _ V R g;refine gc (YB _ (seen s y) V g (by rw[LC h l];omega)) ?_;rintro _ M3 Q C;obtain⟨Z,la,ln,lc,e,rfl,b⟩:=NdPost.form C;refine gA λb7=>?_;refine gj (λd=>?_) λd=>?_
 ·refine gr ?_;refine⟨?_,rfl⟩;unfold RnPost;rw[if_pos a,Int.toNat_natCast];unfold BnPost;rw[S7 c];rcases b with⟨F,i⟩|⟨rfl,xs,i,j⟩
  ·rw [i];first|rfl|exact absurd F d
  omega
 refine gr ?_;refine⟨?_,rfl⟩;unfold RnPost;rw[if_pos a,Int.toNat_natCast];unfold BnPost;rw[S7 c];rcases b with⟨F,i⟩|⟨rfl,xs,i,j⟩
 ·omega
 rw[i];first|exact⟨_,rfl,j⟩|exact absurd rfl d
theorem KL(s:Sto)(v:Value)(k:Int)(M:Mem)(h:ST M v s):SpecL prog 146 #[v,.int .i64 k] M [] λu a b=>RnPost s k u a/\b=[]:=by
 obtain⟨bv,c,d,lv,rfl,i,g,f,e⟩:=h.ex;grind[Yl]
end Go.Proofs.YtjheijhahehnmaaGreatDoor
