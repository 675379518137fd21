/- Lemmas. -/
import Derived.Test.YtjheijhahehnmaaGreatDoorXCen
namespace Go.Proofs.YtjheijhahehnmaaGreatDoor
open Go.Proofs.Tryz
open List (append_assoc getD map_set length_cons length_nil cons_append nil_append length length_map getElem_mem replicate)
set_option linter.unusedSimpArgs false
set_option linter.unusedVariables false
set_option linter.unusedSectionVars false
set_option maxHeartbeats 40000000
set_option maxRecDepth 8000
open Go.RowKit
instance(priority:=low) Pick.both{R S L L1 L2:Lc}[h:Pick R L L1][h2:Pick S L1 L2]:Pick (R++S) L L2:=⟨h.perm.trans ((List.Perm.append_left R h2.perm).trans (by rw[append_assoc]))⟩
abbrev TV:TypeId:=98
abbrev Cp(bv wv nv lw pb:Value)(m:Nat)(refs nodes:List Int)(vs:Value):List Value:=CX bv wv nv lw pb m (Al refs++(Al nodes++[vs]))
theorem Ay(xs:List Int):(Al xs).length=xs.length:=by simp[Al]
section
variable{bv wv nv lw pb vs:Value}{m:Nat}{refs nodes:List Int}
theorem Hh(b:refs.length=256)(a:nodes.length=256):(Cp bv wv nv lw pb m refs nodes vs).length=519:=by simp_all [Ay]
theorem N3{a b c d e f:Value}{r:List Value}{i j:Nat}(h:j=6+i):(a::b::c::d::e::f::r)[j]? =r[i]? :=by grind
theorem LU(c:refs.length=256){i j:Nat}(b:i<256)(a:j=6+i):(Cp bv wv nv lw pb m refs nodes vs)[j]? =some (iL (refs.getD i 0)):=by
 rw[N3 a,List.getElem?_append_left (by rw[Ay];omega)];simp[Al,getD,c,b]
theorem TX(d:refs.length=256)(c:nodes.length=256){i j:Nat}(b:i<256)(a:j=262+i):(Cp bv wv nv lw pb m refs nodes vs)[j]? =some (iL (nodes.getD i 0)):=by
 grind[N3,Ay,Al]
theorem F3(b:refs.length=256)(a:nodes.length=256):(Cp bv wv nv lw pb m refs nodes vs)[518]? =some vs:=by
 grind[N3,Ay]
theorem take_set{xs:List Value}{i:Nat}{v:Value}(h:i<xs.length):xs.take i++[v]++xs.drop (i+1)=xs.set i v:=by
 rw[List.set_eq_take_append_cons_drop,iP h];simp
theorem Ti{a b c d e f v:Value}{r:List Value}{i j:Nat}(h:j=6+i):(a::b::c::d::e::f::r).set j v=a::b::c::d::e::f::r.set i v:=by subst h;rw[show 6+i=i+6 by omega];rfl
theorem Wu(c:refs.length=256)(b:nodes.length=256){i j:Nat}{v:Int}(d:i<256)(a:j=6+i):(Cp bv wv nv lw pb m refs nodes vs).take j++[iL v]++(Cp bv wv nv lw pb m refs nodes vs).drop (j+1)=Cp bv wv nv lw pb m (refs.set i v) nodes vs:=by
 rw[take_set (by rw[Hh c b];omega),Ti a,List.set_append_left _ _ (by rw[Ay];omega)];simp[Al,map_set]
theorem wNg(b:refs.length=256)(a:nodes.length=256){i j:Nat}{v:Int}(d:i<256)(c:j=262+i):(Cp bv wv nv lw pb m refs nodes vs).take j++[iL v]++(Cp bv wv nv lw pb m refs nodes vs).drop (j+1)=Cp bv wv nv lw pb m refs (nodes.set i v) vs:=by
 rw[take_set (by rw[Hh b a];omega),Ti (show j=6+(256+i)by omega),List.set_append_right _ _ (by rw[Ay];omega),Ay,show 256+i-refs.length=i by omega,List.set_append_left _ _ (by rw[Ay];omega)];simp[Al,map_set]
theorem wNf(b:refs.length=256)(a:nodes.length=256){v:Value}:(Cp bv wv nv lw pb m refs nodes vs).take 518++[v]++(Cp bv wv nv lw pb m refs nodes vs).drop (518+1)=Cp bv wv nv lw pb m refs nodes v:=by
 grind[take_set,Hh,Ti,Ay]
end
section
variable{P:Program}{ops:Array Oper}{N:Fs}{F:Fr}{E:Ent}{M:Mem}{L:Lc}{o:Oper}
theorem wSn{t e:TypeId}{x y:Operand}{b off a:Nat}{u:Value}{l d:List Value}{L':Lc}{z:List Value}(s:gd ops F o=some true)(m:o.op=.store t x y)(j:ev F x=some (.pointer (sA b off)))(i:ev F y=some u)
  [n:Lay P t 1 a z] (w:u.cells=#[u]) (B:u.oneCell'=true) [h:At b (.cells l.toArray e (0,0)) L] (f:off<l.length) (g:l.take off++[u]++l.drop (off+1)=d)
  [k:PutAt b (.cells l.toArray e (0,0)) (.cells d.toArray e (0,0)) L L']:HF P ops N F E M L o (λ_ M' c=>M=M'/\c=L'):=by
 subst g;grind[MT]
end
def wPh(x:It)(next:Int)(n:Nat):Prop:=Dr x/\x.key.id≠0/\x.key.id<next/\n≠16
instance(x:It)(next:Int)(n:Nat):Decidable (wPh x next n):=by unfold wPh;exact inferInstance
def AZ(f:It->List Vo->Option (List Vo)):List It->List Vo->Option (List Vo)
 |[],acc=>some acc
 |x::xs,acc=>match f x acc with
  |some acc'=>AZ f xs acc'
  |none=>none
def Mx(next:Int)(x:It)(acc:List Vo):Option (List Vo):=if wPh x next acc.length then some (acc++[Cz x])else none
def CY(s:Sto)(next:Int):Nat->List It->List Vo->Option (List Vo)
 |0=>AZ (Mx next)
 |l+1=>AZ (λx acc=>CY s next l (kid s x) acc)
variable{acc:List Vo}{f:It->List Vo->Option (List Vo)}{k:Nat}{xs:List It}
theorem RM{a:List Vo}(hk:k<xs.length)(h:f xs[k] acc=some a):AZ f (xs.drop k) acc=AZ f (xs.drop (k+1)) a:=by
 rw[List.drop_eq_getElem_cons hk,AZ,h]
theorem Fb(hk:k<xs.length)(h:f xs[k] acc=none):AZ f (xs.drop k) acc=none:=by
 rw[List.drop_eq_getElem_cons hk,AZ,h]
theorem Ps(hk:k=xs.length):AZ f (xs.drop k) acc=some acc:=by
 grind[AZ]
abbrev PP(bv wv nv lw:Value)(gen root next:Int)(dv:Value):List Value:=[bv,wv,nv,lw,iU gen,iL root,iU next,dv]
def Good(s:Sto)(l:List (Int×Value))(k:Int):Prop:=8<=k/\k<256/\(CP k l).isSome=true/\∃lv xs,Ag s k.toNat=some (lv,xs)/\(Cd s lv xs).is=true
variable{M:Mem}{l:List (Int×Value)}{s:Sto}
theorem Good.get{k:Int}(h:Good s l k)(g:MapI M s l):∃lv xs a c p,Ag s k.toNat=some (lv,xs)/\(Cd s lv xs).is=true/\NS M (.slice a xs.length c) xs/\CP k l=some (.agg (Ri lv (.slice a xs.length c) p).toArray):=by
 obtain⟨w,u,m,lv,xs,j,o⟩:=h;obtain⟨v,f⟩:=Option.isSome_iff_exists.1 m;obtain⟨_,_,e,d,sl,b,i,rfl⟩:=g.ent k v f;rw[j]at b;cases b;obtain⟨a,c,n,rfl,_⟩:=id i;grind
variable{lv:Int}
theorem Xn(a:NdOk lv xs)(h:(Cd s lv xs).is=true)(e:0<lv){x:It}(b:x∈xs):(8<=x.ref/\x.ref<256)/\∃ys,Ag s x.ref.toNat=some (lv-1,ys)/\ys≠[]/\(Cd s (lv-1) ys).is=true:=by
 have c:xs≠[]:=List.ne_nil_of_mem b;unfold Cd at h;rw[iN c]at h;obtain⟨n,rfl⟩:∃n:Nat,lv=((n+1:Nat):Int):=⟨(lv-1).toNat,by omega⟩;rw[tN]at h;have d:=(Gy h x b).1;obtain⟨ys,k,j,i⟩:=Tp d;have g:=a.ref x b;have f:=a.up e x b;grind[Cd]
theorem Good.kid{k:Int}(h:Good s l k)(j:MapI M s l)(a:Ag s k.toNat=some (lv,xs))(f:0<lv){x:It}(b:x∈xs):Good s l x.ref:=by
 obtain⟨w,u,o,i,g,e,d⟩:=h;rw[a]at e;cases e;obtain⟨c,ys,n,_,m⟩:=Xn (Ar a) d f b;exact⟨c.1,c.2,j.kid k lv xs o a d f x b,_,ys,n,m⟩
def VolsP(s:Sto)(cb m:Nat)(bv wv nv lw pb:Value)(refs nodes:List Int)(l:List (Int×Value))(r:Option (List Vo))(u:Value)(L':Lc):Prop:=match r with
 |none=>u=iL 8/\L'=[]
 |some acc=>u=iL 0/\∃vs Rv,L'=Rv++[(cb,cE (Cp bv wv nv lw pb m refs nodes vs) DX),(m,Bg l)]/\Own vs Rv TV 4 acc.length (acc.flatMap Ds)
def wAb(s:Sto)(cb m:Nat)(bv wv nv lw pb:Value)(refs nodes:List Int)(l:List (Int×Value))(pv:List Value)(next:Int)(lv:Nat):Prop:=∀(xs:List It)(sl:Value)(acc:List Vo)(vs:Value)(Rv:Lc)(M:Mem),MapI M s l->NS M sl xs->NdOk (lv:Int) xs->(0<lv->∀x∈xs,Good s l x.ref/\∃ys,Ag s x.ref.toNat=some ((lv:Int)-1,ys))->Own vs Rv TV 4 acc.length (acc.flatMap Ds)->acc.length<=16->
 Sg 44 #[pB cb,.agg pv.toArray,.agg #[iL lv,sl]] M (Rv++[(cb,cE (Cp bv wv nv lw pb m refs nodes vs) DX),(m,Bg l)])
  λu M' L'=>VolsP s cb m bv wv nv lw pb refs nodes l (CY s next lv xs acc) u L'
variable{L':Lc}{bv u:Value}{cb:Nat}
theorem VolsP.form{m:Nat}{a c d b:Value}{refs nodes:List Int}{r:Option (List Vo)}(h:VolsP s cb m bv a c d b refs nodes l r u L'):∃e,u=iL e/\((e=8/\r=none/\L'=[])\/(e=0/\∃acc vs f,r=some acc/\L'=f++[(cb,cE (Cp bv a c d b m refs nodes vs) DX),(m,Bg l)]/\Own vs f TV 4 acc.length (acc.flatMap Ds))):=by
 unfold VolsP at h;grind
variable{ys:List It}
theorem wKn{x:It}(h:Ag s x.ref.toNat=some (lv,ys)):kid s x=ys:=by grind[kid]
theorem Mu(d:∀x acc a,f x acc=some a->acc.length<=16->a.length<=16):∀(xs:List It)(acc a:List Vo),AZ f xs acc=some a->acc.length<=16->a.length<=16
 |[],acc,a,h,c=>by cases h;exact c
 |x::xs,acc,a,h,c=>by
  unfold AZ at h;split at h
  ·rename_i b e;exact Mu d xs b a h (d x acc b e c)
  cases h
theorem Pr{next:Int}:∀(l:Nat)(xs:List It)(acc a:List Vo),CY s next l xs acc=some a->acc.length<=16->a.length<=16
 |0=>Mu λx acc a h b=>by
  unfold Mx at h;split at h
  ·rename_i c;cases h;have:=c.2.2.2;rw[List.length_append,length_cons,length_nil];omega
  cases h
 |l+1=>Mu λx acc a h b=>Pr l _ acc a h b
theorem wAj(s:Sto)(G m:Nat)(Z I P Q O:Value)(refs nodes:List Int)(n:refs.length=256)(o:nodes.length=256)(l:List (Int×Value))(N J K L:Value)(Y root next:Int)(dv:Value)(xs:List It)(a:Option Addr)(c:Nat)(ps:List (It×Value))(b:List Vo)(B:Value)(H:Lc)(M:Mem)(av:MapI M s l)(hc:xs.length<=c)(hs:SM M a (ps.flatMap Ad))(hp:ps.map (·.1)=xs)(hb:∀p∈ps,BS M p.2 p.1.val)(f:NdOk ((0:Nat):Int) xs)(D:Own B H TV 4 b.length (b.flatMap Ds))(E:b.length<=16):
  Sg 44 #[pB G,.agg (PP N J K L Y root next dv).toArray,.agg #[iL ((0:Nat):Int),.slice a xs.length c]] M (H++[(G,cE (Cp Z I P Q O m refs nodes B) DX),(m,Bg l)]) λu M' L'=>VolsP s G m Z I P Q O refs nodes l (CY s next 0 xs b) u L':=by
 have aw:=f.lev;have ap:=f.len;refine sB func44 ntmps44 ?_;intro W;refine JM λb4 b5=>?_;refine Cy (α:=Nat×Mem×List Vo×Value×Lc) (λx=>[(0,pB G),(4,pB b4),(5,pB b5),(13,.slice a xs.length c),(14,iL xs.length),(15,iL x.1)]) (λx=>x.2.1) (λx=>([(b5,cE [iL ((0:Nat):Int),.slice a xs.length c] TNd),(b4,cE (PP N J K L Y root next dv) 32)]++(x.2.2.2.2++[(G,cE (Cp Z I P Q O m refs nodes x.2.2.2.1) DX),(m,Bg l)]))) (λx=>x.1<=xs.length/\MLe M x.2.1/\AZ (Mx next) xs b=AZ (Mx next) (xs.drop x.1) x.2.2.1/\Own x.2.2.2.1 x.2.2.2.2 TV 4 x.2.2.1.length (x.2.2.1.flatMap Ds)/\x.2.2.1.length<=16) (λx=>xs.length-x.1) (0,M,b,B,H) ⟨zL,mR,rfl,D,E⟩ ?_;rintro⟨k,Mk,acc,vs,Rv⟩ ⟨hk,y,hI,j,V⟩;try dsimp only at hk y hI j V⊢
 simp only[cons_append,nil_append];have aj:=hs.mono y;have al:=λp hp=>(hb p hp).mono y;refine gj (λao=>?_) λao=>?_
 ·refine gh ?_;have T:k<xs.length:=by omega
  obtain⟨sb,so,e0,hx⟩:=aj.open (by intro e;have:=cA length e;rw[Af Ad 5 Ae,length_nil]at this;have h2:=cA length hp;rw[length_map]at h2;omega);subst e0;obtain⟨va,vc,ak,ai,ag⟩:=Av hx hp al T;refine gh ?_;refine lq (A0 (cs:=EL xs[k] va vc) rfl rfl rfl rfl rfl (λi v S=>(ak i v S).cj _)) ?_;refine gA λb8=>?_;refine gt ?_;have ah:xs[k].val.length<=1000000:=by
   have h1:=(B1 f.ok xs[k] (getElem_mem T)).1;grind[Bv]
  refine gc (Uq xs[k] va vc Mk ai ag ah) ?_;rintro _ Mn am ⟨v,rfl,g⟩;iterate 2 refine jp rfl ?_
  refine wWn rfl (λd=>?_) (λd=>?_)
  ·refine gA λaa=>?_;refine gj (λz=>?_) λz=>?_
   ·refine gr ?_;have f:¬wPh xs[k] next acc.length:=by intro U;rw[g (oT d)]at z;exact U.2.1 z
    simp_all [VolsP,CY,AZ,Mx,Fb]
   refine gj (λF=>?_) λF=>?_
   ·refine gr ?_;have f:¬wPh xs[k] next acc.length:=by intro U;rw[g (oT d)]at F;have h1:(Cz xs[k]).id=xs[k].key.id:=rfl;have:=U.2.2.1;omega
    simp_all [VolsP,CY,AZ,Mx,Fb]
   refine gh ?_;obtain⟨af,ad,rfl⟩:=j.form;refine lq (Aw rfl rfl rfl rfl (CJ.loc (F3 n o))) ?_;refine gj (λX=>?_) λX=>?_
   ·refine gr ?_;have f:¬wPh xs[k] next acc.length:=by intro U;exact U.2.2.2 (by omega)
    simp_all [VolsP,CY,AZ,Mx,Fb]
   refine gh ?_;refine Ga [10] [10] [0,1,2,3,4,5,106,107,8,9,110] Mn ([(aa,cE (Ds v) TV),(G,cE (Cp Z I P Q O m refs nodes (.slice af acc.length ad)) DX)]) ([]) ?_;refine gh ?_;refine dq rfl (Aw rfl rfl rfl rfl (CJ.loc (F3 n o))) ?_;refine gh ?_;refine Gu rfl rfl rfl (Ab (cs:=[_,_,_,_]) rfl rfl rfl (by rfl) (by rfl) (by rfl)) ?_;rintro _ _ _ ⟨ax,rfl,rfl,rfl⟩;refine Cr (mR) (λ_ h=>List.mem_cons_of_mem _ h) (by first|exact mR|assumption) (by simp) ?_;refine dh rfl (AY (R:=Rv) (m:=1) rfl rfl rfl rfl j rfl (λi v S=>CJ.loc (by simpa using S)) rfl (by rfl) (by simp[Value.oneCell']) (by omega) (by omega)) ?_;rintro aq _ _ ⟨rfl,ab,rfl,C,_⟩;refine⟨mR,by simp,?_⟩;obtain⟨ae,ac,rfl⟩:=C.form;refine gh ?_;refine G2 rfl rfl (wSn rfl rfl rfl rfl rfl rfl (by rw[Hh n o];decide) (wNf n o)) ?_;rintro _ _ _ ⟨rfl,rfl⟩;refine⟨mR,by simp,?_⟩;refine gh ?_;have au:wPh xs[k] next acc.length:=⟨oT d,λe=>z (by rw[g (oT d)];exact e),by have:=g (oT d);rw[this]at F;show xs[k].key.id<next;have:(Cz xs[k]).id=xs[k].key.id:=rfl;omega,λe=>X (by omega)⟩;have S:=g (oT d);subst S;refine BB (k+1,Mn,acc++[Cz xs[k]],.slice ae (acc.length+1) ac,ab) ⟨by show k+1<=xs.length;omega,y.trans am,?_,?_,?_⟩ (hs:=λw h=>(h.perm (List.perm_append_comm_assoc ab [_,_,_,_,_] [_,_])).fewer (.cons _ (.cons _ (.cons _ (.refl _)))))
   ·grind [AZ,Cz,RM,Mx]
   ·grind
   grind
  refine ga λaa=>?_;refine gr ?_;simp_all [wPh,VolsP,CY,AZ,Mx,Fb]
 refine gh ?_;refine AL (L':=Rv++[(G,cE (Cp Z I P Q O m refs nodes vs) DX),(m,Bg l)]) (λw h=>h.fewer (.cons _ (.cons _ (.refl _)))) ?_;refine GK rfl rfl ?_;unfold VolsP;rw[show CY s next 0 xs b=some acc by rw[show CY s next 0 xs b=AZ _ (xs.drop k) acc from hI];exact Ps (by omega)];grind
theorem wAi(s:Sto)(F m:Nat)(T P R S Q:Value)(refs nodes:List Int)(au:refs.length=256)(av:nodes.length=256)(l:List (Int×Value))(B n o y:Value)(C root next:Int)(dv:Value)(lv:Nat)(ih:wAb s F m T P R S Q refs nodes l (PP B n o y C root next dv) next lv)(xs:List It)(a:Option Addr)(c:Nat)(ps:List (It×Value))(b:List Vo)(G:Value)(O:Lc)(M:Mem)(K:MapI M s l)(hc:xs.length<=c)(hs:SM M a (ps.flatMap Ad))(hp:ps.map (·.1)=xs)(hb:∀p∈ps,BS M p.2 p.1.val)(X:NdOk ((lv+1:Nat):Int) xs)(J:Own G O TV 4 b.length (b.flatMap Ds))(N:b.length<=16)(Y:∀x∈xs,Good s l x.ref/\∃ys,Ag s x.ref.toNat=some ((lv:Int),ys)):
  Sg 44 #[pB F,.agg (PP B n o y C root next dv).toArray,.agg #[iL ((lv+1:Nat):Int),.slice a xs.length c]] M (O++[(F,cE (Cp T P R S Q m refs nodes G) DX),(m,Bg l)]) λu M' L'=>VolsP s F m T P R S Q refs nodes l (CY s next (lv+1) xs b) u L':=by
 have aw:=X.lev;have ao:=X.len;refine sB func44 ntmps44 ?_;intro W;refine JM λb4 b5=>?_;refine Cy (α:=Nat×Mem×List Vo×Value×Lc) (λx=>[(0,pB F),(4,pB b4),(5,pB b5),(13,.slice a xs.length c),(14,iL xs.length),(15,iL x.1)]) (λx=>x.2.1) (λx=>([(b5,cE [iL ((lv+1:Nat):Int),.slice a xs.length c] TNd),(b4,cE (PP B n o y C root next dv) 32)]++(x.2.2.2.2++[(F,cE (Cp T P R S Q m refs nodes x.2.2.2.1) DX),(m,Bg l)]))) (λx=>x.1<=xs.length/\MLe M x.2.1/\AZ (λx acc=>CY s next lv (kid s x) acc) xs b=AZ (λx acc=>CY s next lv (kid s x) acc) (xs.drop x.1) x.2.2.1/\Own x.2.2.2.1 x.2.2.2.2 TV 4 x.2.2.1.length (x.2.2.1.flatMap Ds)/\x.2.2.1.length<=16) (λx=>xs.length-x.1) (0,M,b,G,O) ⟨zL,mR,rfl,J,N⟩ ?_;rintro⟨k,Mk,acc,vs,Rv⟩ ⟨hk,d,hI,E,g⟩;try dsimp only at hk d hI E g⊢
 simp only[cons_append,nil_append];have ah:=hs.mono d;have aj:=λp hp=>(hb p hp).mono d;refine gj (λal=>?_) λal=>?_
 ·refine gh ?_;have Z:k<xs.length:=by omega
  obtain⟨sb,so,e0,hx⟩:=ah.open (by intro e;have:=cA length e;rw[Af Ad 5 Ae,length_nil]at this;have h2:=cA length hp;rw[length_map]at h2;omega);subst e0;obtain⟨va,vc,ai,aq,ap⟩:=Av hx hp aj Z;refine gh ?_;refine lq (A0 (cs:=EL xs[k] va vc) rfl rfl rfl rfl rfl (λi v hv=>(ai i v hv).cj _)) ?_;refine gA λb8=>?_;refine gt ?_;refine Ga [10] [10,11] [0,1,2,3,4,5,6,7,8,9,110,11] Mk ([(b8,cE (EL xs[k] va vc) IT),(b4,cE (PP B n o y C root next dv) 32),(F,cE (Cp T P R S Q m refs nodes vs) DX),(m,Bg l)]) ([]) ?_;refine gh ?_;obtain⟨f,j,L⟩:=Y xs[k] (getElem_mem Z);obtain⟨zl,zs,za,zc,zp,U,af,ae,ad⟩:=f.get (K.mono d);rw[L]at U;cases U;refine dq rfl (Bo (UY (z:=.agg spnZ.toArray) rfl rfl rfl rfl (by kernel_rfl)) (v':=.agg (Ri (lv:Int) (.slice za j.length zc) zp).toArray) (by rw[ad];rfl)) ?_;refine dq rfl (Bo (Zm rfl rfl rfl rfl) (v':=.agg #[iL (lv:Int),.slice za j.length zc]) rfl) ?_;have D:=Ar L;have H:0<lv->∀x∈j,Good s l x.ref/\∃ys,Ag s x.ref.toNat=some ((lv:Int)-1,ys):=λh0 x hx=>⟨f.kid (K.mono d) L (by omega) hx,by obtain⟨_,ys,h1,_⟩:=Xn D af (by omega) hx;exact⟨ys,h1⟩⟩;refine jd_eh rfl rfl rfl (BU rfl rfl rfl rfl rfl (by kernel_rfl) (ih j _ acc vs Rv Mk (K.mono d) ae D H E g)) ?_;rintro _ Mn _ ⟨aa,Rn,rfl,ag⟩;refine⟨aa,by simp,?_⟩;obtain⟨e,rfl,V⟩:=ag.form;refine gj (λak=>?_) λak=>?_
  ·refine gr ?_;simp_all [VolsP,CY,AZ,kid,Fb,wKn]
  refine gh ?_;obtain⟨he,_⟩|⟨_,ab,ac,am,hr,rfl,I⟩:=V
  ·omega
  refine BB (k+1,Mn,ab,ac,am) ⟨by show k+1<=xs.length;omega,d.trans aa,?_,I,Pr lv _ _ _ hr g⟩ (hs:=λw h=>(h.perm List.perm_append_comm).fewer (.cons _ (.refl _)));grind[AZ,RM,wKn]
 refine gh ?_;refine AL (L':=Rv++[(F,cE (Cp T P R S Q m refs nodes vs) DX),(m,Bg l)]) (λw h=>h.fewer (.cons _ (.cons _ (.refl _)))) ?_;refine GK rfl rfl ?_;unfold VolsP;rw[show CY s next (lv+1) xs b=some acc by rw[show CY s next (lv+1) xs b=AZ _ (xs.drop k) acc from hI];exact Ps (by omega)];grind
theorem RL(s:Sto)(E m:Nat)(F y B C z:Value)(refs nodes:List Int)(k:refs.length=256)(o:nodes.length=256)(l:List (Int×Value))(h e f g:Value)(i root next:Int)(D:Value):∀lv:Nat,wAb s E m F y B C z refs nodes l (PP h e f g i root next D) next lv
 |0=>λxs sl acc vs L M u j n _ b d=>by
  obtain⟨a,c,G,rfl,J,H,I,K⟩:=j;exact wAj s E m F y B C z refs nodes k o l h e f g i root next D xs a c G acc vs L M u J H I K n b d
 |lv+1=>λxs sl acc vs L M u j n w b d=>by
  obtain⟨a,c,G,rfl,J,H,I,K⟩:=j;exact wAi s E m F y B C z refs nodes k o l h e f g i root next D lv (RL s E m F y B C z refs nodes k o l h e f g i root next D lv) xs a c G acc vs L M u J H I K n b d
   (λx N=>by obtain⟨P,ys,O⟩:=w (by omega) x N;exact⟨P,ys,by rw[O];congr 2;omega⟩)
def inc(r:List Int)(k:Nat):List Int:=r.set k (IntKind.i64.wrap (r.getD k 0+1))
def Cj(lv:Int)(acc:List Int×List Int)(x:It):List Int×List Int:=if x.ref=0 then acc else (inc acc.1 x.ref.toNat,if 0<lv then acc.2++[x.ref]else acc.2)
def B6(s:Sto):Nat->List Int->List Int->List Int->List Int×List Int
 |0,_,refs,nodes=>(refs,nodes)
 |f+1,st,refs,nodes=>match st.getLast? with
  |none=>(refs,nodes)
  |some k=>if 1<(inc nodes k.toNat).getD k.toNat 0 then B6 s f st.dropLast refs (inc nodes k.toNat)else match Ag s k.toNat with
   |none=>B6 s f st.dropLast refs (inc nodes k.toNat)
   |some (lv,xs)=>B6 s f (xs.foldl (Cj lv) (refs,st.dropLast)).2 (xs.foldl (Cj lv) (refs,st.dropLast)).1 (inc nodes k.toNat)
def F0:Nat:=1600
def Em(s:Sto)(k:Int):Bool:=match Qa s k (-1)with
 |none=>false
 |some (lv,xs)=>(Cd s lv xs).is
theorem Dn(r:List Int)(k:Nat):(inc r k).length=r.length:=by simp[inc]
variable{f:Nat}{refs:List Int}{s:Sto}
theorem RN{nodes:List Int}:B6 s f [] refs nodes=(refs,nodes):=by cases f<;>rfl
variable{k:Int}
theorem Nn{st nodes:List Int}(h:1<(inc nodes k.toNat).getD k.toNat 0):B6 s (f+1) (st++[k]) refs nodes=B6 s f st refs (inc nodes k.toNat):=by
 grind[B6]
variable{lv:Int}{xs:List It}
theorem Px{st nodes:List Int}(h:¬1<(inc nodes k.toNat).getD k.toNat 0)(a:Ag s k.toNat=some (lv,xs)):B6 s (f+1) (st++[k]) refs nodes=B6 s f (xs.foldl (Cj lv) (refs,st)).2 (xs.foldl (Cj lv) (refs,st)).1 (inc nodes k.toNat):=by
 grind[B6]
def WL(nodes:List Int):Nat:=nodes.countP (λx=>decide (x=0))
theorem KN:∀{nodes:List Int}{k:Nat}{v:Int},k<nodes.length->WL (nodes.set k v)+(if nodes.getD k 0=0 then 1 else 0)=WL nodes+(if v=0 then 1 else 0)
 |[],_,_,h=>by cases h
 |x::xs,0,v,_=>by simp[WL,List.countP_cons];omega
 |x::xs,k+1,v,h=>by
  have:=KN (nodes:=xs) (k:=k) (v:=v) (by simpa using h);simp only[WL,List.set_cons_succ,List.countP_cons,List.getD_cons_succ]at this⊢;omega
def Few(f:Nat)(nodes:List Int):Prop:=nodes.length=256/\∀k,0<=nodes.getD k 0/\nodes.getD k 0+f<=4000000000000000000
theorem Few.inc{nodes:List Int}(h:Few (f+1) nodes){k:Nat}(hk:k<256):Few f (inc nodes k)/\(Go.Proofs.YtjheijhahehnmaaGreatDoor.inc nodes k).getD k 0=nodes.getD k 0+1:=by
 have e:=(h.2 k).1;have d:=(h.2 k).2;have a:IntKind.i64.wrap (nodes.getD k 0+1)=nodes.getD k 0+1:=IntWalk.i64_in _ (by omega);have c:(Go.Proofs.YtjheijhahehnmaaGreatDoor.inc nodes k).getD k 0=nodes.getD k 0+1:=by unfold Go.Proofs.YtjheijhahehnmaaGreatDoor.inc;rw[a];simp[getD,h.1,hk]
 refine⟨⟨by rw[Dn];exact h.1,λj=>?_⟩,c⟩;by_cases b:j=k
 ·grind
 have:(Go.Proofs.YtjheijhahehnmaaGreatDoor.inc nodes k).getD j 0=nodes.getD j 0:=by unfold Go.Proofs.YtjheijhahehnmaaGreatDoor.inc;simp[getD,List.getElem?_set_ne (Ne.symm b)]
 rw[this];have:=h.2 j;omega
theorem Few.less{g:Nat}{nodes:List Int}(h:Few f nodes)(a:g<=f):Few g nodes:=⟨h.1,λk=>by have:=h.2 k;omega⟩
variable{a:List Int×List Int}{j:Nat}
theorem MV(h:j<xs.length):(xs.take (j+1)).foldl (Cj lv) a=Cj lv ((xs.take j).foldl (Cj lv) a) xs[j]:=by
 rw[List.take_succ_eq_append_getElem h,List.foldl_append];rfl
theorem wGs(a:List Int×List Int)(x:It):(Cj lv a x).1.length=a.1.length/\(Cj lv a x).2.length<=a.2.length+1:=by
 grind[Cj,Dn]
theorem QL:∀(xs:List It)(a:List Int×List Int),(xs.foldl (Cj lv) a).1.length=a.1.length/\(xs.foldl (Cj lv) a).2.length<=a.2.length+xs.length
 |[],a=>⟨rfl,lR⟩
 |x::xs,a=>by
  obtain⟨c,e⟩:=QL xs (Cj lv a x);obtain⟨b,d⟩:=wGs (lv:=lv) a x;rw[List.foldl_cons,c,b,length_cons];exact⟨rfl,by omega⟩
theorem Jg{s:Sto}:∀(f:Nat)(st refs nodes:List Int),(B6 s f st refs nodes).1.length=refs.length/\(B6 s f st refs nodes).2.length=nodes.length
 |0,st,refs,nodes=>⟨rfl,rfl⟩
 |f+1,st,refs,nodes=>by
  rw[B6];split
  ·exact ⟨rfl,rfl⟩
  split
  ·have:=Jg (s:=s) f st.dropLast refs (inc nodes ?_);rw[Dn]at this;exact this
  split
  ·have:=Jg (s:=s) f st.dropLast refs (inc nodes ?_);rw[Dn]at this;exact this
  rename_i k _ _ _ lv xs _;have:=Jg (s:=s) f (xs.foldl (Cj lv) (refs,st.dropLast)).2 (xs.foldl (Cj lv) (refs,st.dropLast)).1 (inc nodes k.toNat);rw[Dn,(QL xs _).1]at this;exact this
theorem Jh:∀(f:Nat){g:Nat}(st refs nodes:List Int),(∀k∈st,8<=k/\k<256)->Few (g+f) nodes->Few g (B6 s f st refs nodes).2
 |0,g,st,refs,nodes,_,h=>h
 |f+1,g,st,refs,nodes,d,h=>by
  have c:∀k∈st.dropLast,8<=k/\k<256:=λk l=>d k (List.dropLast_subset _ l);rw[B6];split
  ·exact h.less (by omega)
  rename_i k l;have u:=d k (List.mem_of_getLast? l);have m:=(Few.inc (f:=g+f) h (k:=k.toNat) (by omega)).1;split
  ·exact Jh f _ _ _ c m
  split
  ·exact Jh f _ _ _ c m
  rename_i lv xs j;refine Jh f _ _ _ ?_ m;have i:=Ar j;have:∀(ys:List It)(a:List Int×List Int),(∀y∈ys,y∈xs)->(∀k∈a.2,8<=k/\k<256)->∀k∈(ys.foldl (Cj lv) a).2,8<=k/\k<256:=by
   intro ys;induction ys with
   |nil=>intro a _ e;exact e
   |cons y ys o=>
    intro a n e
    refine o _ (λz b=>n z (List.mem_cons_of_mem _ b)) ?_
    unfold Cj
    split
    ·exact e
    rename_i w
    split
    ·intro z b
     rcases mA b with b|b
     ·exact e z b
     rw[mS b];have:=i.ref y (n y (by simp));omega
    exact e
  exact this xs _ (λ_ h=>h) c
variable{R:Lc}{e:TypeId}{m:Nat}
theorem Own.cut{v:Value}{a:Option Addr}{n c:Nat}{xs ys:List Value}(h:Own v R e 1 n xs)(l:v=.slice a n c)(o:m<=n)(b:ys=xs.take m):Own (.slice a m c) R e 1 m ys:=by
 subst b;refine⟨by have:=h.1;rw[List.length_take];omega,?_⟩;rcases h.2 with⟨i,f,d⟩|⟨g,k,j,i,f,d,w,u,s⟩
 ·grind
 grind
theorem Zj(h:Qa s k (-1)=none):Em s k=false:=by grind[Em]
theorem N4(h:Qa s k (-1)=some (lv,xs)):Em s k=(Cd s lv xs).is:=by grind[Em]
def TreeP(s:Sto)(cb m:Nat)(bv wv nv lw pb vs:Value)(refs nodes:List Int)(l:List (Int×Value))(k:Int)(u:Value)(M':Mem)(L':Lc):Prop:=
 if Em s k=true then u=iL 0/\∃l',L'=[(cb,cE (Cp bv wv nv lw pb m (B6 s F0 [k] (inc refs k.toNat) nodes).1 (B6 s F0 [k] (inc refs k.toNat) nodes).2 vs) DX),(m,Bg l')]/\MapI M' s l'/\Ext l l'
 else u=iL 8/\L'=[]
theorem wAs(s:Sto)(a4:Au s)(K m:Nat)(bv V T Y S vs:Value)(d b:List Int)(B:d.length=256)(Q:Few F0 b)(J:Int)(M:Mem)(l:List (Int×Value))(aE:CN M s T S)(a7:MapI M s l):
  Sg 45 #[pB K,iL J] M [(K,cE (Cp bv V T Y S m d b vs) DX),(m,Bg l)] λu M' L'=>TreeP s K m bv V T Y S vs d b l J u M' L':=by
 have Z:=Q.1;refine sB func45 ntmps45 ?_;intro W;refine gC (Qf s a4 K m bv V T Y S (Al d++(Al b++[vs])) (-1) J M l aE a7) ?_;rintro _ M1 _ aY ⟨l2,rfl,ae,aC,a8⟩;obtain⟨xl,xa,xn,xc,p,rfl,af⟩:=a8.form;simp only[cons_append,nil_append];refine BK rfl rfl (wHp rfl rfl rfl rfl rfl) (λI=>?_) (λI=>?_)
 ·refine gh ?_;have a5:Em s J=true:=by
   rcases af with⟨_,h2⟩|⟨ys,h1,_,_,h2,_⟩
   ·rw [h2]at I;cases I
   grind[N4]
  have al:Good s l2 J:=by
   rcases af with⟨_,h2⟩|⟨ys,h1,_,_,h2,h3⟩
   ·rw [h2]at I;cases I
   obtain⟨h4,h5,h6,_⟩:=Tv h1;exact⟨h4,h5,h3,xl,ys,h6,by rw[<-h2];exact I⟩
  have aK:=al.1;have ax:=al.2.1;refine Ga [10] [10] [0,1,2,3,4,5,6,7,8,9,110] M1 ([(K,cE (Cp bv V T Y S m d b vs) DX)]) ([]) ?_;refine gh ?_;refine dq rfl (FO rfl rfl rfl rfl (by omega)) ?_;refine dq rfl (Aw rfl rfl rfl rfl (CJ.loc (LU B (i:=J.toNat) (by omega) (by omega)))) ?_;refine dq rfl (qP rfl rfl) ?_;refine gh ?_;refine dq rfl (FO rfl rfl rfl rfl (by omega)) ?_;refine G2 rfl rfl (wSn rfl rfl rfl rfl rfl rfl (by rw[Hh B Z];omega) (Wu B Z (i:=J.toNat) (by omega) (by omega))) ?_;rintro _ _ _ ⟨rfl,rfl⟩;refine⟨mR,by simp,?_⟩;refine gh ?_;refine lh (Ab (cs:=[_]) rfl rfl rfl (by rfl) (by rfl) (by rfl)) ?_;rintro _ _ _ ⟨ao,rfl,rfl,rfl⟩;refine gh ?_;have aX:F0=1600:=rfl;refine Cy (α:=Nat×List Int×List Int×List Int×Value×Lc) (λx=>[(0,pB K),(5,x.2.2.2.2.1)]) (λ_=>M1) (λx=>(x.2.2.2.2.2++[(K,cE (Cp bv V T Y S m x.2.1 x.2.2.1 vs) DX),(m,Bg l2)])) (λx=>B6 s F0 [J] (inc d J.toNat) b=B6 s x.1 x.2.2.2.1 x.2.1 x.2.2.1/\x.2.2.2.1.length+6*WL x.2.2.1<=x.1/\x.1<=F0/\x.2.1.length=256/\Few x.1 x.2.2.1/\(∀y∈x.2.2.2.1,Good s l2 y)/\Own x.2.2.2.2.1 x.2.2.2.2.2 3 1 x.2.2.2.1.length (Al x.2.2.2.1)) (λx=>x.1) (F0,inc d J.toNat,b,[J],.slice (sA ao 0) 1 1,[(ao,cE [iL J] 3)]) ⟨rfl,by have:WL b<=b.length:=List.countP_le_length;rw[Z]at this;show 1+6*WL b<=F0;omega,lR,by rw[Dn];exact B,Q,λy U=>by rw[mS U];exact al,⟨rfl,.inr ⟨ao,1,_,rfl,rfl,lR,by decide,rfl,rfl⟩⟩⟩ ?_;rintro⟨f,refs,nodes,st,v,R⟩ ⟨hI,a6,aB,B,o,ab,E⟩;try dsimp only at hI a6 aB B o ab E⊢
  have Z:=o.1;obtain⟨aL,X,rfl⟩:=E.form;refine gj (λam=>?_) λam=>?_
  ·refine Am (jT (HP rfl (E0 (jT (HR (Ao (Aj ?_)))))));iterate 2 refine jp rfl ?_
   refine lq (MG rfl rfl rfl) ?_;obtain⟨st0,k,rfl⟩:∃st0 k,st=st0++[k]:=⟨st.dropLast,st.getLast (λe=>by rw[e]at am;exact aD am (by decide)),(List.dropLast_concat_getLast _).symm⟩;have N:(st0++[k]).length=st0.length+1:=by simp
   obtain⟨sg,aJ,L,e0,e1,aU,_⟩:=E.open (by omega);cases e0;cases e1;have aa:=ab k (by simp);have aV:=aa.1;have a9:=aa.2.1;obtain⟨f,rfl⟩:∃f0,f=f0+1:=⟨f-1,by omega⟩;obtain⟨P,aW⟩:=o.inc (k:=k.toNat) (by omega);have ak:=o.1;refine lq (Bo (qA rfl rfl rfl rfl rfl (by simp only[N];omega)) (v':=iL (st0.length:Int)) (by rw[N];congr 1;omega)) ?_;refine lq (FN rfl rfl rfl rfl (by rw[N];omega)) ?_;refine lq (Aw rfl rfl rfl rfl (by rw[Nat.zero_add,mO];exact E.cj (by simp) (u:=iL k) (by simp[Al]))) ?_;refine jp rfl ?_;refine Am (jT (Ao (Aj ?_)));iterate 2 refine jp rfl ?_
   refine lq (MG rfl rfl rfl) ?_;refine lq (Bo (qA rfl rfl rfl rfl rfl (by simp only[N];omega)) (v':=iL (st0.length:Int)) (by rw[N];congr 1;omega)) ?_;refine lq (Bo (CK rfl rfl rfl (.no _) (.of (v:=st0.length) rfl (by omega) (by omega)) (.no _) (by omega) (by simp)) (v':=.slice (sA sg 0) st0.length X) (by rw[AV];rfl)) ?_;refine gh ?_;refine Ga [10] [10] [0,1,2,3,4,5,6,7,8,9,110] M1 ([(K,cE (Cp bv V T Y S m refs nodes vs) DX)]) ([]) ?_;refine gh ?_;refine dq rfl (FO rfl rfl rfl rfl (by omega)) ?_;refine dq rfl (Aw rfl rfl rfl rfl (CJ.loc (TX B ak (i:=k.toNat) (by omega) (by omega)))) ?_;refine dq rfl (qP rfl rfl) ?_;refine gh ?_;refine dq rfl (FO rfl rfl rfl rfl (by omega)) ?_;refine G2 rfl rfl (wSn rfl rfl rfl rfl rfl rfl (by rw[Hh B ak];omega) (wNg B ak (i:=k.toNat) (by omega) (by omega))) ?_;rintro _ _ _ ⟨rfl,rfl⟩;refine⟨mR,by simp,?_⟩;rw[show nodes.set k.toNat (IntKind.i64.wrap (nodes.getD k.toNat 0+1))=inc nodes k.toNat from rfl];have aj:(inc nodes k.toNat).length=256:=by grind[Dn]
   have O:Own (.slice (sA sg 0) st0.length X) [(sg,.cells L 3 (0,0))] 3 1 st0.length (Al st0):=E.cut rfl (by omega) (by simp[Al]);refine gh ?_;refine lq (FO rfl rfl rfl rfl (by omega)) ?_;refine lq (Aw rfl rfl rfl rfl (CJ.loc (TX B aj (i:=k.toNat) (by omega) (by omega)))) ?_;refine gj (λaI=>?_) λaI=>?_
   ·refine gh ?_;have hz:=KN (nodes:=nodes) (k:=k.toNat) (v:=IntKind.i64.wrap (nodes.getD k.toNat 0+1)) (by omega);refine BB (f,refs,inc nodes k.toNat,st0,.slice (sA sg 0) st0.length X,[(sg,.cells L 3 (0,0))]) ⟨?_,?_,by show f<=F0;omega,B,P,λy U=>ab y (List.mem_append_left _ U),O⟩
    ·show _=B6 s f st0 refs (inc nodes k.toNat);grind[Nn]
    have aw:=(o.2 k.toNat).1;have hw:IntKind.i64.wrap (nodes.getD k.toNat 0+1)=nodes.getD k.toNat 0+1:=IntWalk.i64_in _ (by have:=(o.2 k.toNat).2;omega);rw[hw,iN (by omega),iN (by omega)]at hz;show st0.length+6*WL (nodes.set k.toNat _)<=f;grind
   refine gh ?_;obtain⟨lv,zs,za,zc,zp,aq,aP,a3,a2⟩:=aa.get ae;have av:=Ar aq;have aM:=av.len;refine lq (Bo (UY (z:=.agg spnZ.toArray) rfl rfl rfl rfl (by kernel_rfl)) (v':=.agg (Ri lv (.slice za zs.length zc) zp).toArray) (by rw[a2];rfl)) ?_;refine lq (Bo (Zm rfl rfl rfl rfl) (v':=.agg #[iL lv,.slice za zs.length zc]) rfl) ?_;refine ga λb7=>?_;refine Cy (α:=Nat×List Int×List Int×Value×Lc) (λx=>[(0,pB K),(5,x.2.2.2.1),(7,pB b7),(66,.slice za zs.length zc),(67,iL zs.length),(68,iL x.1)]) (λ_=>M1) (λx=>((b7,cE [iL lv,.slice za zs.length zc] TNd)::(x.2.2.2.2++[(K,cE (Cp bv V T Y S m x.2.1 (inc nodes k.toNat) vs) DX),(m,Bg l2)]))) (λx=>x.1<=zs.length/\(x.2.1,x.2.2.1)=(zs.take x.1).foldl (Cj lv) (refs,st0)/\x.2.1.length=256/\(∀y∈x.2.2.1,Good s l2 y)/\x.2.2.1.length<=st0.length+x.1/\Own x.2.2.2.1 x.2.2.2.2 3 1 x.2.2.1.length (Al x.2.2.1)) (λx=>zs.length-x.1) (0,refs,st0,.slice (sA sg 0) st0.length X,[(sg,.cells L 3 (0,0))]) ⟨zL,rfl,B,λy U=>ab y (List.mem_append_left _ U),lR,O⟩ ?_;rintro⟨j,c,C,v2,R⟩ ⟨hj,n,G,F,au,D⟩;try dsimp only at hj n G F au D⊢
   obtain⟨ah,ag,rfl⟩:=D.form;refine gj (λaH=>?_) λaH=>?_
   ·refine gh ?_;have H:j<zs.length:=by omega
    obtain⟨qa,qc,ps,e0,aN,a0,ap,a1⟩:=id a3;cases e0;obtain⟨sb,so,e0,hx⟩:=a0.open (by intro e;have:=cA length e;rw[Af Ad 5 Ae,length_nil]at this;have h2:=cA length ap;rw[length_map]at h2;omega);subst e0;obtain⟨va,vc,aF,aT,aS⟩:=Av hx ap a1 H;have aQ:=av.ref zs[j] (getElem_mem H);refine gh ?_;refine lq (A0 (cs:=EL zs[j] va vc) rfl rfl rfl rfl rfl (λi v hv=>(aF i v hv).cj _)) ?_;refine gA λb9=>?_;refine gj (λad=>?_) λad=>?_
    ·refine gh ?_;have g:=MV (lv:=lv) (a:=(refs,st0)) H;rw[<-n]at g;unfold Cj at g;rw[iP ad]at g;refine BB (j+1,c,C,.slice ah C.length ag,R) ⟨by show j+1<=zs.length;omega,g.symm,?_,?_,?_,?_⟩
     ·exact G
     ·exact F
     ·grind
     omega
    refine gh ?_;refine Ga [11] [11] [0,1,2,3,4,5,6,7,8,9,10,111] M1 ([(b9,cE (EL zs[j] va vc) IT),(K,cE (Cp bv V T Y S m c (inc nodes k.toNat) vs) DX)]) ([]) ?_;refine gh ?_;refine dq rfl (FO rfl rfl rfl rfl (by omega)) ?_;refine dq rfl (Aw rfl rfl rfl rfl (CJ.loc (LU G (i:=zs[j].ref.toNat) (by omega) (by omega)))) ?_;refine dq rfl (qP rfl rfl) ?_;refine gh ?_;refine dq rfl (FO rfl rfl rfl rfl (by omega)) ?_;refine G2 rfl rfl (wSn rfl rfl rfl rfl rfl rfl (by rw[Hh G aj];omega) (Wu G aj (i:=zs[j].ref.toNat) (by omega) (by omega))) ?_;rintro _ _ _ ⟨rfl,rfl⟩;refine⟨mR,by simp,?_⟩;rw[show c.set zs[j].ref.toNat (IntKind.i64.wrap (c.getD zs[j].ref.toNat 0+1))=inc c zs[j].ref.toNat from rfl];refine gj (λac=>?_) λac=>?_
    ·refine gh ?_;refine lh (Ab (cs:=[_]) rfl rfl rfl (by rfl) (by rfl) (by rfl)) ?_;rintro _ _ _ ⟨aZ,rfl,rfl,rfl⟩;refine lh (AY (R:=R) (m:=1) rfl rfl rfl rfl D rfl (λi v hv=>CJ.loc (by simpa using hv)) rfl (by rfl) (by simp[Value.oneCell']) (by omega) (by omega)) ?_;rintro v3 _ _ ⟨rfl,R3,rfl,ai,_⟩;obtain⟨az,ay,rfl⟩:=ai.form;refine gh ?_;have g:=MV (lv:=lv) (a:=(refs,st0)) H;rw[<-n]at g;unfold Cj at g;rw[iN ad,iP ac]at g;refine BB (j+1,inc c zs[j].ref.toNat,C++[zs[j].ref],.slice az (C.length+1) ay,R3) ⟨by show j+1<=zs.length;omega,g.symm,?_,?_,?_,?_⟩ (hs:=λw h=>(h.perm (List.perm_append_comm_assoc R3 [_,_,_] [_,_])).fewer (.cons _ (.cons _ (.refl _))))
     ·grind [inc,Dn]
     ·show ∀y∈C++[zs[j].ref],Good s l2 y;intro y U;rcases mA U with U|U
      ·grind
      rw[mS U];exact aa.kid ae aq ac (getElem_mem H)
     ·grind
     grind[Own,Al]
    refine gh ?_;have g:=MV (lv:=lv) (a:=(refs,st0)) H;rw[<-n]at g;unfold Cj at g;rw[iN ad,iN ac]at g;refine BB (j+1,inc c zs[j].ref.toNat,C,.slice ah C.length ag,R) ⟨by show j+1<=zs.length;omega,g.symm,?_,?_,?_,?_⟩
    ·grind [inc,Dn]
    ·exact F
    ·grind
    omega
   refine gh ?_;obtain rfl:j=zs.length:=by omega
   rw[List.take_length]at n;have hz:=KN (nodes:=nodes) (k:=k.toNat) (v:=IntKind.i64.wrap (nodes.getD k.toNat 0+1)) (by omega);have aA:=(QL (lv:=lv) zs (refs,st0)).2;rw[<-n]at aA;refine BB (f,c,inc nodes k.toNat,C,.slice ah C.length ag,R) ⟨?_,?_,by show f<=F0;omega,G,P,F,D⟩
   ·grind [B6,inc,Px]
   have aw:=(o.2 k.toNat).1;have hw:IntKind.i64.wrap (nodes.getD k.toNat 0+1)=nodes.getD k.toNat 0+1:=IntWalk.i64_in _ (by have:=(o.2 k.toNat).2;omega);rw[hw,iP (by omega),iN (by omega)]at hz;show C.length+6*WL (nodes.set k.toNat _)<=f;grind
  refine gh ?_;obtain rfl:st=[]:=List.eq_nil_of_length_eq_zero (by omega);rw[RN]at hI;refine AL (L':=[(K,cE (Cp bv V T Y S m refs nodes vs) DX),(m,Bg l2)]) (λw h=>h.fewer (List.sublist_append_right _ _)) ?_;refine GK rfl rfl ?_;grind[TreeP]
 refine gr ?_;grind[TreeP,Zj,N4]
abbrev wYb:TypeId:=32
def zI:List Int:=replicate 256 0
def Cu(s:Sto):List Int->List Int->List Int->Option (List Int×List Int)
 |[],refs,nodes=>some (refs,nodes)
 |r::rs,refs,nodes=>if Em s r=true then Cu s rs (B6 s F0 [r] (inc refs r.toNat) nodes).1 (B6 s F0 [r] (inc refs r.toNat) nodes).2 else none
def enough(s:Sto)(refs:List Int):Prop:=∀i,i<256->refs.getD i 0<=((s.now.getD i 0).toNat:Int)
instance(s:Sto)(refs:List Int):Decidable (enough s refs):=by unfold enough;exact inferInstance
def DY(root:Int)(dead:List Int)(vs:List Vo):List Int:=(root::dead)++vs.map (·.root)
def cens(s:Sto)(root next:Int)(dead:List Int):Option (List Vo×List Int×List Int):=
 if Au s/\dead.length<=40/\Em s root=true then match Qa s root (-1)with
  |none=>none
  |some (lv,xs)=>match CY s next lv.toNat xs []with
   |none=>none
   |some vs=>match Cu s (DY root dead vs) zI zI with
    |none=>none
    |some (refs,nodes)=>if enough s refs then some (vs,refs,nodes)else none
 else none
variable{s:Sto}
theorem TW{root next:Int}{dead:List Int}(h:¬(Au s/\dead.length<=40/\Em s root=true)):cens s root next dead=none:=by grind[cens]
variable{lv:Int}{xs:List It}
theorem wFm{root next:Int}{dead:List Int}(h:Au s/\dead.length<=40/\Em s root=true)(b:Qa s root (-1)=some (lv,xs))(a:CY s next lv.toNat xs []=none):cens s root next dead=none:=by
 grind[cens]
variable{vs:List Vo}
theorem YP{root next:Int}{dead:List Int}(h:Au s/\dead.length<=40/\Em s root=true)(c:Qa s root (-1)=some (lv,xs))(b:CY s next lv.toNat xs []=some vs)(a:Cu s (DY root dead vs) zI zI=none):cens s root next dead=none:=by
 grind[cens]
theorem Q1{root next:Int}{dead:List Int}{r n:List Int}(h:Au s/\dead.length<=40/\Em s root=true)(c:Qa s root (-1)=some (lv,xs))(b:CY s next lv.toNat xs []=some vs)(a:Cu s (DY root dead vs) zI zI=some (r,n)):cens s root next dead=if enough s r then some (vs,r,n)else none:=by
 grind[cens]
variable{i:Nat}{refs:List Int}
theorem wAr{rs nodes:List Int}(a:i<rs.length)(h:Em s rs[i]=true):Cu s (rs.drop i) refs nodes=Cu s (rs.drop (i+1)) (B6 s F0 [rs[i]] (inc refs rs[i].toNat) nodes).1 (B6 s F0 [rs[i]] (inc refs rs[i].toNat) nodes).2:=by
 rw[List.drop_eq_getElem_cons a,Cu,iP h]
theorem WU{rs nodes:List Int}(a:i<rs.length)(h:Em s rs[i]=false):Cu s (rs.drop i) refs nodes=none:=by
 rw[List.drop_eq_getElem_cons a,Cu,iN (by rw[h];decide)]
variable{k:Int}
theorem K4(h:Em s k=true):8<=k/\k<256/\∃lv xs,Qa s k (-1)=some (lv,xs)/\Ag s k.toNat=some (lv,xs)/\(Cd s lv xs).is=true:=by
 unfold Em at h;split at h
 ·cases h
 rename_i lv xs a;obtain⟨d,c,b,_⟩:=Tv a;grind
variable{L':Lc}{M':Mem}{bv u:Value}{cb m:Nat}{l:List (Int×Value)}
theorem TreeP.form{a c d b vs:Value}{nodes:List Int}(h:TreeP s cb m bv a c d b vs refs nodes l k u M' L'):∃e,u=iL e/\((e=8/\Em s k=false/\L'=[])\/(e=0/\Em s k=true/\∃f,L'=[(cb,cE (Cp bv a c d b m (B6 s F0 [k] (inc refs k.toNat) nodes).1 (B6 s F0 [k] (inc refs k.toNat) nodes).2 vs) DX),(m,Bg f)]/\MapI M' s f)):=by
 grind[TreeP]
theorem Kd:zI.length=256:=List.length_replicate
theorem wFw(f:Nat)(a:f<=1000000):Few f zI:=⟨Kd,λk=>by
 have:zI.getD k 0=0:=by unfold zI;rw[getD,List.getElem?_replicate];split<;>rfl
 rw[this];omega⟩
section
variable{P:Program}{ops:Array Oper}{N:Fs}{F:Fr}{E:Ent}{M:Mem}{L:Lc}{o:Oper}
theorem Xs{x j:Operand}{t e:TypeId}{n g f:Nat}{z cs:List Value}{k:IntKind}{i:Int}{d:TypeDesc}{v:Value}(D:gd ops F o=some true)(y:o.op=.index t x j)(l:ev F x=some (.agg cs.toArray))(C:ev F j=some (.int k i))[s:Und P t (.array n e)][E:Und P e d][B:Lay P e g f z](G:JZ d=false)
  (h:0<=i/\i<n) (m:cs[i.toNat*g]? =some v):QF P ops N F M L o v:=
 Br D λJ a w I=>by
  obtain⟨H,u,c,b,_⟩:=B.info
  simp[execOp,y,a.ev l,a.ev C,Instr.index,asIntOf,run_underlying s.h,h,sizeOf,typeInfo,c,b,part,DL E.h,G,m]
end
theorem Ww{a b c:Value}{p:Option Addr}:FZ ([(0,4),(4,1),(5,1),(6,256),(262,256),(518,1)][·]?) ([sN,sN,sN,sN,.pointer none,.map none]++(replicate 512 (iL 0)++([sN]))) [(0,.agg #[bv,a,b,c]),(1,.pointer p),(2,.map (some m))]=some (Cp bv a b c (.pointer p) m zI zI (sN)):=by
 have h:(replicate 512 (iL 0)++[sN])=Al zI++(Al zI++[sN]):=by
  simp_all [zI,Al]
 rw[h];have d:(Al zI++(Al zI++[sN])).length=513:=by grind
 show _=some (bv::a::b::c::.pointer p::.map (some m)::(Al zI++(Al zI++[sN])));generalize Al zI++(Al zI++[sN])=r at d;simp[FZ,Value.cells,d];rfl
def NI(M:Mem)(v:Value)(xs:List Int):Prop:=∃a c,v=.slice a xs.length c/\xs.length<=c/\SM M a (Al xs)
variable{M:Mem}
theorem NI.mono{v:Value}{xs:List Int}(h:NI M v xs)(b:MLe M M'):NI M' v xs:=by
 obtain⟨a,c,f,e,d⟩:=h;exact⟨a,c,f,e,d.mono b⟩
theorem DH(xs:List Int):∀v∈Al xs,v.oneCell'=true:=by
 intro v a;obtain⟨x,_,rfl⟩:=List.mem_map.1 a;rfl
variable{R:Lc}{e:TypeId}
theorem Own.cast{v:Value}{size n n':Nat}{xs xs':List Value}(h:Own v R e size n xs)(b:n=n')(a:xs=xs'):Own v R e size n' xs':=by grind
def TakeP(s:Sto)(root next:Int)(dead:List Int)(u:Value)(M':Mem):Prop:=match cens s root next dead with
 |none=>u=.tuple #[.pointer none,iL 8]
 |some (vs,refs,nodes)=>∃cb bv wv nv lw pb m a c,u=.tuple #[pB cb,iL 0]/\M' cb=some (cE (Cp bv wv nv lw pb m refs nodes (.slice a vs.length c)) DX)/\vs.length<=c/\SM M' a (vs.flatMap Ds)/\refs.length=256/\nodes.length=256
theorem wAw(s:Sto)(g b d f:Value)(o root next:Int)(da:Option Addr)(dc:Nat)(dead:List Int)(M:Mem)(h1:LS M g s.blocks)(h2:WS M b s.waits)(h3:BS M d s.now)(h4:BS M f s.last)(bp:dead.length<=dc)(aL:SM M da (Al dead))(bo:dead.length<=1000000):
  Sg 19 #[.agg (PP g b d f o root next (.slice da dead.length dc)).toArray] M [] λu M' L'=>TakeP s root next dead u M'/\L'=[]:=by
 have ag:ST M (.agg #[g,b,d,f]) s:=⟨_,_,_,_,rfl,h1,h2,h3,h4⟩;refine sB func19 ntmps19 ?_;intro W;refine ga λX=>?_;refine gQ (CC s _ M ag) ?_;refine gj (λaj=>?_) λaj=>?_
 ·refine gr ?_;refine⟨?_,rfl⟩;unfold TakeP;rw[TW (λh=>aD (iP h.1) aj)];try rfl
 refine gj (λaW=>?_) λaW=>?_
 ·refine gr ?_;grind[TakeP,TW]
 refine gh ?_;have H:Au s:=Classical.byContradiction λh=>aj (by unfold Dz;rw[iN h];decide);have bb:s.now.length=256:=H.2.1.1;have bg:s.waits.length<=4096:=H.1.2.1;refine AX ([(X,cE (PP g b d f o root next (.slice da dead.length dc)) wYb)]) (by kernel_rfl) (by simp) ?_;refine gk [0,1,2,3] ?_;refine D1 (α:=Mem×Nat×Nat) (λy=>MLe M y.1/\BN y.1 (.pointer (some ⟨y.2.1,0,none⟩)) s) (λy=>[(1,pB X),(29,.agg (Cp g b d f (.pointer (some ⟨y.2.1,0,none⟩)) y.2.2 zI zI (sN)).toArray)]) (λy=>y.1) (λy=>[(y.2.2,Bg []),(X,cE (PP g b d f o root next (.slice da dead.length dc)) wYb)]) 2 #[true,true,true,true,true,true,true,false,false] ?_ (λaZ=>?_)
 ·rintro ⟨M1,G,k⟩ ⟨P,O⟩;try dsimp only at P O⊢
  refine aO 7 ?_;refine sh rfl (Bz (cs:=Cp g b d f (pB G) k zI zI (sN)) rfl rfl rfl rfl) ?_;rintro _ _ _ ⟨cb,rfl,rfl,rfl⟩;refine aG (P) ?_;refine gk [8] ?_;refine Fx (by kernel_rfl) ?_;refine gC (Qf s H cb k g b d f (pB G) (Al zI++(Al zI++[sN])) (-1) root M1 [] ⟨h3.mono P,O⟩ MapI.nil) ?_;rintro _ M2 _ ai ⟨l2,rfl,J,aK,aH⟩;obtain⟨xl,xa,xn,xc,p,rfl,au⟩:=aH.form;simp only[cons_append,nil_append];refine gA λb4=>?_;refine BK rfl rfl (Aw rfl rfl rfl rfl (CJ.loc rfl)) (λQ=>?_) (λQ=>?_)
  ·refine gh ?_;obtain⟨_,aC⟩|⟨ys,K,rfl,a3,ao,aI⟩:=au
   ·rw [aC]at Q;cases Q
   obtain⟨aA,ad,ae,_⟩:=Tv K;have aa:=Ar ae;have ac:Em s root=true:=by grind[N4]
   have Z:Au s/\dead.length<=40/\Em s root=true:=⟨H,by omega,ac⟩;have aJ:Good s l2 root:=⟨aA,ad,aI,xl,ys,ae,by rw[<-ao];exact Q⟩;have ba:=aa.lev;obtain⟨B,rfl⟩:∃n:Nat,xl=(n:Int):=⟨xl.toNat,by omega⟩;have af:0<B->∀x∈ys,Good s l2 x.ref/\∃zs,Ag s x.ref.toNat=some ((B:Int)-1,zs):=λh0 x hx=>⟨aJ.kid J ae (by omega) hx,by obtain⟨_,zs,h1,_⟩:=Xn aa (by rw[<-ao];exact Q) (by omega) hx;exact⟨zs,h1⟩⟩;refine gC (RL s cb k g b d f (pB G) zI zI Kd Kd l2 g b d f o root next (.slice da dead.length dc) B ys _ [] (sN) [] M2 J a3 aa af (Own.nil _ _) (by simp)) ?_;rintro _ M3 br V a4;obtain⟨e,rfl,al⟩:=a4.form;refine gj (λaV=>?_) λaV=>?_
   ·refine gr ?_;grind[TakeP,wFm]
   refine gh ?_;obtain⟨he,_⟩|⟨_,acc,bc,Rv,ab,rfl,ap⟩:=al
   ·omega
   simp only[append_assoc,cons_append,nil_append];refine Kz ap (by simp) ?_;intro Mv D C T ev a5 ak;subst ev;have ay:=Pr _ _ _ _ ab (by simp);refine gh ?_;refine lh (Ab (cs:=[_]) rfl rfl rfl (by rfl) (by rfl) (by rfl)) ?_;rintro _ _ _ ⟨ax,rfl,rfl,rfl⟩;refine gh ?_;refine lh (D2 (R:=[(ax,cE [iL root] 3)]) (xs:=[iL root]) (news:=Al dead) (n:=1) rfl rfl rfl rfl ⟨rfl,.inr ⟨ax,1,_,rfl,rfl,lR,by decide,rfl,rfl⟩⟩ (by rw[Ay,mO]) (aL.mono (P.trans (ai.trans (V.trans T)))) (by rfl) (DH _) (by omega) (by omega)) ?_;rintro bf _ _ ⟨rfl,aY,rfl,a⟩;obtain⟨a2,a0,rfl⟩:=a.form;refine jp rfl ?_;refine Am (jT (Ao (Ao (Aj ?_))));refine jp rfl ?_;refine lq (BR rfl rfl rfl) ?_;refine lq (Ah rfl rfl rfl rfl rfl) ?_;refine lq (Aw rfl rfl rfl rfl (CJ.loc (F3 Kd Kd))) ?_;refine gh ?_;refine Cy (α:=Nat×Lc×Value) (λx=>[(1,pB X),(2,pB cb),(5,x.2.2),(55,(.slice D acc.length C)),(56,iL acc.length),(57,iL x.1)]) (λ_=>Mv) (λx=>(x.2.1++[(cb,cE (Cp g b d f (pB G) k zI zI (.slice D acc.length C)) DX),(k,Bg l2),(b4,cE (Ri (B:Int) (.slice xa ys.length xc) p) wTr),(X,cE (PP g b d f o root next (.slice da dead.length dc)) wYb)])) (λx=>x.1<=acc.length/\Own x.2.2 x.2.1 3 1 ((root::dead)++(acc.take x.1).map (·.root)).length (Al ((root::dead)++(acc.take x.1).map (·.root)))) (λx=>acc.length-x.1) (0,aY,.slice a2 (1+dead.length) a0) ⟨zL,a.cast (by simp;omega) (by simp[Al])⟩ ?_;rintro⟨i,R,rv⟩ ⟨hi,a⟩;try dsimp only at hi a⊢
   refine gj (λaU=>?_) λaU=>?_
   ·refine gh ?_;have E:i<acc.length:=by omega
    obtain⟨sb,so,e0,hx⟩:=ak.open (by intro e;have:=cA length e;rw[Af Ds 4 (λ_=>rfl),length_nil]at this;omega);subst e0;refine gh ?_;refine lq (A0 (cs:=Ds acc[i]) rfl rfl rfl rfl rfl (λj v hv=>(Bx Ds 4 (λ_=>rfl) hx (show acc[i]? =some acc[i]by simp[E]) j v hv).cj _)) ?_;refine ga λb7=>?_;refine lh (Ab (cs:=[_]) rfl rfl rfl (by rfl) (by rfl) (by rfl)) ?_;rintro _ _ _ ⟨bq,rfl,rfl,rfl⟩;refine lh (AY (R:=R) (m:=1) rfl rfl rfl rfl a rfl (λi v hv=>CJ.loc (by simpa using hv)) rfl (by rfl) (by simp[Value.oneCell']) (by simp only[List.length_append,length_cons,length_map,List.length_take];omega) (by omega)) ?_;rintro be _ _ ⟨rfl,R2,rfl,S,_⟩;obtain⟨a1,az,rfl⟩:=S.form;refine gh ?_;refine BB (i+1,R2,.slice a1 _ az) ⟨by show i+1<=acc.length;omega,?_⟩ (hs:=λw h=>(h.perm (List.perm_append_comm_assoc R2 [_,_] [_,_,_,_])).fewer (.cons _ (.cons _ (.refl _))));show Own _ _ _ _ ((root::dead)++(acc.take (i+1)).map (·.root)).length (Al ((root::dead)++(acc.take (i+1)).map (·.root)));rw[List.take_succ_eq_append_getElem E,List.map_append,<-append_assoc];grind[Al]
   refine gh ?_;obtain rfl:i=acc.length:=by omega
   rw[List.take_length]at a;obtain⟨c,z⟩:∃c,c=DY root dead acc:=⟨_,rfl⟩;have a9:c.length=1+dead.length+acc.length:=by grind[DY]
   replace a:=a.cast (n':=c.length) (xs':=Al c) (by rw[z];rfl) (by rw[z];rfl);refine Kz a (by simp) ?_;intro Mr ra rc U er bi a8;subst er;have aw:=P.trans (ai.trans (V.trans (T.trans U)));have av:=ai.trans (V.trans (T.trans U));refine gh ?_;refine Cy (α:=Nat×Mem×List Int×List Int×List (Int×Value)) (λx=>[(1,pB X),(2,pB cb),(67,.slice ra c.length rc),(68,iL c.length),(69,iL x.1)]) (λx=>x.2.1) (λx=>[(cb,cE (Cp g b d f (pB G) k x.2.2.1 x.2.2.2.1 (.slice D acc.length C)) DX),(k,Bg x.2.2.2.2),(b4,cE (Ri (B:Int) (.slice xa ys.length xc) p) wTr),(X,cE (PP g b d f o root next (.slice da dead.length dc)) wYb)]) (λx=>x.1<=c.length/\MLe Mr x.2.1/\Cu s c zI zI=Cu s (c.drop x.1) x.2.2.1 x.2.2.2.1/\x.2.2.1.length=256/\Few (F0*(c.length-x.1)) x.2.2.2.1/\MapI x.2.1 s x.2.2.2.2) (λx=>c.length-x.1) (0,Mr,zI,zI,l2) ⟨zL,mR,rfl,Kd,wFw _ (by have hf:F0=1600:=rfl;rw[hf,a9];simp only[Nat.sub_zero];omega),J.mono (V.trans (T.trans U))⟩ ?_;rintro⟨i,Mk,refs,nodes,lk⟩ ⟨hi,l,hI,I,L,Y⟩;try dsimp only at hi l hI I L Y⊢
   refine gj (λaT=>?_) λaT=>?_
   ·refine gh ?_;have E:i<c.length:=by omega
    obtain⟨qb,qo,e0,aB⟩:=a8.open (by intro e;have:=cA length e;rw[Ay,length_nil]at this;omega);subst e0;refine gh ?_;refine lq (Aw rfl rfl rfl rfl (((aB _ (iL c[i]) (by rw[mO];simp[Al,E])).mono l).cj _)) ?_;refine gC (wAs s H cb k g b d f (pB G) (.slice D acc.length C) refs nodes I (L.less (by have:F0*1<=F0*(c.length-i):=Nat.mul_le_mul_left _ (by omega);omega)) c[i] Mk lk (⟨h3.mono (aw.trans l),O.mono (av.trans l)⟩) Y) ?_;rintro _ Mn Rt aM a6;obtain⟨e2,rfl,am⟩:=a6.form;refine gj (λaS=>?_) λaS=>?_
    ·refine gr ?_;grind[TakeP,YP,WU]
    refine gh ?_;obtain⟨bm,_⟩|⟨_,a7,l3,rfl,aq⟩:=am
    ·omega
    obtain⟨bl,bk⟩:=Jg (s:=s) F0 [c[i]] (inc refs c[i].toNat) nodes;have bh:=K4 a7;refine BB (i+1,Mn,_,_,l3) ⟨by show i+1<=c.length;omega,l.trans aM,?_,?_,?_,aq⟩
    ·grind [Cu,zI,wAr]
    ·grind [B6,F0,Dn]
    grind[Few,F0,Jh]
   refine gh ?_;refine lq (A0 (cs:=Al refs) rfl rfl rfl rfl (by rw[Ay];exact I) (λj v hv=>CJ.loc (by rw[N3 (i:=j) (by omega),List.getElem?_append_left (List.getElem?_eq_some_iff.1 hv).1];exact hv))) ?_;refine gh ?_;obtain rfl:i=c.length:=by omega
   rw[List.drop_length]at hI;refine Cy (α:=Nat) (λi=>[(1,pB X),(2,pB cb),(83,.agg (Al refs).toArray),(84,iL i)]) (λ_=>Mk) (λ_=>[(cb,cE (Cp g b d f (pB G) k refs nodes (.slice D acc.length C)) DX),(k,Bg lk),(b4,cE (Ri (B:Int) (.slice xa ys.length xc) p) wTr),(X,cE (PP g b d f o root next (.slice da dead.length dc)) wYb)]) (λi=>i<=256/\∀j,j<i->refs.getD j 0<=((s.now.getD j 0).toNat:Int)) (λi=>256-i) 0 ⟨zL,λj h=>aD h (by omega)⟩ ?_;rintro i ⟨hi,hJ⟩;try dsimp only at hi hJ⊢
   have ah:=aw.trans l;refine gj (λaQ=>?_) λaQ=>?_
   ·refine gh ?_;have E:i<256:=by omega
    refine lq (Xs (v:=iL (refs.getD i 0)) rfl rfl rfl rfl rfl (by omega) (by rw[mO,tN];simp[Al,getD,I,E])) ?_;refine gh ?_;obtain⟨na,nc,rfl,bj,aF⟩:=id h3;obtain⟨nb,no,e0,aE⟩:=aF.open (by intro e;have:=cA length e;rw[Ac,length_nil]at this;omega);subst e0;refine gh ?_;refine lq (Aw rfl rfl rfl rfl (((aE _ _ (by rw[mO];exact B5 (j:=i) (by omega))).mono ah).cj _)) ?_;refine lq (CZ rfl rfl rfl (by have:=(s.now.getD i 0).toNat_lt;omega)) ?_;refine gj (λaP=>?_) λaP=>?_
    ·refine gr ?_;refine⟨?_,rfl⟩;unfold TakeP;rw[Q1 Z K (by rw[tN];exact ab) (by rw[<-z,hI];rfl),iN (λh=>by have:=h i (by omega);omega)];try rfl
    refine gh ?_;refine BB (i+1) ⟨by omega,λj hj=>?_⟩;grind
   refine gh ?_;refine AD cb (by simp) ?_;intro Mf aN aX;refine gr ?_;refine⟨?_,rfl⟩;unfold TakeP;rw[Q1 Z K (by rw[tN];exact ab) (by rw[<-z,hI];rfl),iP (show enough s refs from λj hj=>hJ j (by omega))];exact⟨cb,g,b,d,f,_,k,D,C,rfl,aX,a5,ak.mono (U.trans (l.trans aN)),I,L.1⟩
  refine gr ?_;grind[Em,Zj,N4,TakeP,TW]
 refine Be [4,5] (by kernel_rfl) rfl ⟨?_,?_,trivial⟩
 ·refine sh rfl (hC (Lh s _ M ag (by omega) (by omega))) ?_;rintro v4 M4 _ ⟨F,R4,rfl,N,rfl⟩;refine aG (F) ?_;simp only[nil_append];obtain⟨G,_,_,_,_,rfl,_⟩:=id (N M4 (mR) F).ex;refine aO 5 ?_;refine sh rfl (Sy rfl rfl) ?_;rintro _ _ _ ⟨k,rfl,rfl,rfl⟩;refine aG (F) ?_;refine Er (i:=6) rfl (by kernel_rfl) (by kernel_rfl) rfl rfl (BC (cs:=Cp g b d f (pB G) k zI zI (sN)) rfl rfl rfl Ww) ?_;refine BZ (listed':=#[true,true,true,true,true,true,true,false,false]) (by kernel_rfl) (BT (kC (t:=1) rfl (kC (t:=29) rfl Keep.nil)) ?_);simp_all [MLe.refl]
 refine sh rfl (Sy rfl rfl) ?_;rintro _ _ _ ⟨k,rfl,rfl,rfl⟩;refine aG (mR) ?_;refine aO 4 ?_;refine sh rfl (hC (Lh s _ M ag (by omega) (by omega))) ?_;rintro v4 M4 _ ⟨F,R4,rfl,N,rfl⟩;refine aG (F) ?_;simp only[nil_append];obtain⟨G,_,_,_,_,rfl,_⟩:=id (N M4 (mR) F).ex;refine Er (i:=6) rfl (by kernel_rfl) (by kernel_rfl) rfl rfl (BC (cs:=Cp g b d f (pB G) k zI zI (sN)) rfl rfl rfl Ww) ?_;refine BZ (listed':=#[true,true,true,true,true,true,true,false,false]) (by kernel_rfl) (BT (kC (t:=1) rfl (kC (t:=29) rfl Keep.nil)) ?_);simp_all [MLe.refl]
structure Po where
 st:Sto
 gen:Int
 root:Int
 next:Int
 dead:List Int
def PT(M:Mem)(v:Value)(p:Po):Prop:=∃bv wv nv lw dv,v=.agg (PP bv wv nv lw p.gen p.root p.next dv).toArray/\LS M bv p.st.blocks/\WS M wv p.st.waits/\BS M nv p.st.now/\BS M lw p.st.last/\NI M dv p.dead
def AO(p:Po):Int:=match cens p.st p.root p.next p.dead with
 |none=>8
 |some _=>0
theorem Cv(p:Po)(v:Value)(M:Mem)(h:PT M v p)(a:p.dead.length<=1000000):Sg 19 #[v] M [] λu M' L'=>TakeP p.st p.root p.next p.dead u M'/\L'=[]:=by
 obtain⟨bv,wv,nv,lw,i,rfl,g,f,e,d,da,j,rfl,c,b⟩:=h;grind[wAw,da]
theorem TakeP.form{p:Po}(h:TakeP p.st p.root p.next p.dead u M'):∃a,u=.tuple #[.pointer a,iL (AO p)]:=by
 grind[TakeP,AO]
theorem FA(p:Po)(v:Value)(M:Mem)(h:PT M v p)(d:p.dead.length<=1000000):
  Sg 79 #[v] M [] λu M' L'=>u=iL (AO p)/\L'=[]:=by
 have c:=h;obtain⟨_,_,_,_,_,rfl,_⟩:=c;refine sB func79 ntmps79 ?_;intro W;refine ga λf=>?_;refine gc (Cv p _ M h d) ?_;rintro _ g e b;obtain⟨a,rfl⟩:=b.form;refine gr ?_;grind
end Go.Proofs.YtjheijhahehnmaaGreatDoor
