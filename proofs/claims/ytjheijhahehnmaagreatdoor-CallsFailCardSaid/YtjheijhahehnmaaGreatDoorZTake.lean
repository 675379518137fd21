/- Walks: whether a pool may be. -/
import Derived.Test.YtjheijhahehnmaaGreatDoorZHn
import Derived.Test.YtjheijhahehnmaaGreatDoorZCen
namespace Go.Proofs.YtjheijhahehnmaaGreatDoor
open Go.Proofs.Tryz
open List (append_assoc getD map_set length_cons length_nil cons_append nil_append length length_map getElem_mem replicate)
set_option linter.unusedSimpArgs false
set_option linter.unusedVariables false
set_option linter.unusedSectionVars false
set_option maxHeartbeats 40000000
set_option maxRecDepth 8000
open Go.RowKit
instance(priority:=low) Pick.both{R S L L1 L2:Lc}[h:Pick R L L1][h2:Pick S L1 L2]:Pick (R++S) L L2:=⟨h.perm.trans ((List.Perm.append_left R h2.perm).trans (by rw[append_assoc]))⟩
abbrev TV:TypeId:=98
abbrev Ct(bv wv nv lw pb:Value)(m:Nat)(refs nodes:List Int)(vs:Value):List Value:=C5 bv wv nv lw pb m (Al refs++(Al nodes++[vs]))
theorem Ay(xs:List Int):(Al xs).length=xs.length:=by simp[Al]
section
variable{bv wv nv lw pb vs:Value}{m:Nat}{refs nodes:List Int}
theorem HB(b:refs.length=256)(a:nodes.length=256):(Ct bv wv nv lw pb m refs nodes vs).length=519:=by simp_all [Ay]
theorem Pu{a b c d e f:Value}{r:List Value}{i j:Nat}(h:j=6+i):(a::b::c::d::e::f::r)[j]? =r[i]? :=by grind
theorem MJ(c:refs.length=256){i j:Nat}(b:i<256)(a:j=6+i):(Ct bv wv nv lw pb m refs nodes vs)[j]? =some (.int .i64 (refs.getD i 0)):=by
 rw[Pu a,List.getElem?_append_left (by rw[Ay];omega)];simp[Al,getD,c,b]
theorem UG(d:refs.length=256)(c:nodes.length=256){i j:Nat}(b:i<256)(a:j=262+i):(Ct bv wv nv lw pb m refs nodes vs)[j]? =some (.int .i64 (nodes.getD i 0)):=by
 grind[Pu,Ay,Al]
theorem Gn(b:refs.length=256)(a:nodes.length=256):(Ct bv wv nv lw pb m refs nodes vs)[518]? =some vs:=by
 grind[Pu,Ay]
theorem take_set{xs:List Value}{i:Nat}{v:Value}(h:i<xs.length):xs.take i++[v]++xs.drop (i+1)=xs.set i v:=by
 rw[List.set_eq_take_append_cons_drop,if_pos h];simp
theorem TW{a b c d e f v:Value}{r:List Value}{i j:Nat}(h:j=6+i):(a::b::c::d::e::f::r).set j v=a::b::c::d::e::f::r.set i v:=by subst h;rw[show 6+i=i+6 by omega];rfl
theorem Xz(c:refs.length=256)(b:nodes.length=256){i j:Nat}{v:Int}(d:i<256)(a:j=6+i):(Ct bv wv nv lw pb m refs nodes vs).take j++[.int .i64 v]++(Ct bv wv nv lw pb m refs nodes vs).drop (j+1)=Ct bv wv nv lw pb m (refs.set i v) nodes vs:=by
 rw[take_set (by rw[HB c b];omega),TW a,List.set_append_left _ _ (by rw[Ay];omega)];simp[Al,map_set]
theorem wRb(b:refs.length=256)(a:nodes.length=256){i j:Nat}{v:Int}(d:i<256)(c:j=262+i):(Ct bv wv nv lw pb m refs nodes vs).take j++[.int .i64 v]++(Ct bv wv nv lw pb m refs nodes vs).drop (j+1)=Ct bv wv nv lw pb m refs (nodes.set i v) vs:=by
 rw[take_set (by rw[HB b a];omega),TW (show j=6+(256+i)by omega),List.set_append_right _ _ (by rw[Ay];omega),Ay,show 256+i-refs.length=i by omega,List.set_append_left _ _ (by rw[Ay];omega)];simp[Al,map_set]
theorem wRa(b:refs.length=256)(a:nodes.length=256){v:Value}:(Ct bv wv nv lw pb m refs nodes vs).take 518++[v]++(Ct bv wv nv lw pb m refs nodes vs).drop (518+1)=Ct bv wv nv lw pb m refs nodes v:=by
 grind[take_set,HB,TW,Ay]
end
section
variable{P:Program}{ops:Array Oper}{N:Fs}{F:Fr}{E:Ent}{M:Mem}{L:Lc}{o:Oper}
theorem wVd{t e:TypeId}{x y:Operand}{b off a:Nat}{u:Value}{l d:List Value}{L':Lc}{z:List Value}(s:gd ops F o=some true)(m:o.op=.store t x y)(j:ev F x=some (.pointer (some ⟨b,off,none⟩)))(i:ev F y=some u)
  [n:Lay P t 1 a z] (w:u.cells=#[u]) (B:u.oneCell'=true) [h:At b (.cells l.toArray e (0,0)) L] (f:off<l.length) (g:l.take off++[u]++l.drop (off+1)=d)
  [k:PutAt b (.cells l.toArray e (0,0)) (.cells d.toArray e (0,0)) L L']:HF P ops N F E M L o (λ_ M' c=>M=M'/\c=L'):=by
 subst g;grind[Ns]
end
def wSe(x:It)(next:Int)(n:Nat):Prop:=Dz x/\x.key.id≠0/\x.key.id<next/\n≠16
instance(x:It)(next:Int)(n:Nat):Decidable (wSe x next n):=by unfold wSe;exact inferInstance
def A0(f:It->List Vo->Option (List Vo)):List It->List Vo->Option (List Vo)
 |[],acc=>some acc
 |x::xs,acc=>match f x acc with
  |some acc'=>A0 f xs acc'
  |none=>none
def MU(next:Int)(x:It)(acc:List Vo):Option (List Vo):=if wSe x next acc.length then some (acc++[CG x])else none
def C6(s:Sto)(next:Int):Nat->List It->List Vo->Option (List Vo)
 |0=>A0 (MU next)
 |l+1=>A0 (λx acc=>C6 s next l (kid s x) acc)
variable{acc:List Vo}{f:It->List Vo->Option (List Vo)}{k:Nat}{xs:List It}
theorem SD{a:List Vo}(hk:k<xs.length)(h:f xs[k] acc=some a):A0 f (xs.drop k) acc=A0 f (xs.drop (k+1)) a:=by
 rw[List.drop_eq_getElem_cons hk,A0,h]
theorem Fz(hk:k<xs.length)(h:f xs[k] acc=none):A0 f (xs.drop k) acc=none:=by
 rw[List.drop_eq_getElem_cons hk,A0,h]
theorem PM(hk:k=xs.length):A0 f (xs.drop k) acc=some acc:=by
 grind[A0]
abbrev Qh(bv wv nv lw:Value)(gen root next:Int)(dv:Value):List Value:=[bv,wv,nv,lw,.int .u32 gen,.int .i64 root,.int .u32 next,dv]
def Good(s:Sto)(l:List (Int×Value))(k:Int):Prop:=8<=k/\k<256/\(CU k l).isSome=true/\∃lv xs,Ak s k.toNat=some (lv,xs)/\(Cg s lv xs).is=true
variable{M:Mem}{l:List (Int×Value)}{s:Sto}
theorem Good.get{k:Int}(h:Good s l k)(g:MapI M s l):∃lv xs a c p,Ak s k.toNat=some (lv,xs)/\(Cg s lv xs).is=true/\NS M (.slice a xs.length c) xs/\CU k l=some (.agg (RX lv (.slice a xs.length c) p).toArray):=by
 obtain⟨w,u,m,lv,xs,j,o⟩:=h;obtain⟨v,f⟩:=Option.isSome_iff_exists.1 m;obtain⟨_,_,e,d,sl,b,i,rfl⟩:=g.ent k v f;rw[j]at b;cases b;obtain⟨a,c,n,rfl,_⟩:=id i;grind
variable{lv:Int}
theorem Yp(a:NdOk lv xs)(h:(Cg s lv xs).is=true)(e:0<lv){x:It}(b:x∈xs):(8<=x.ref/\x.ref<256)/\∃ys,Ak s x.ref.toNat=some (lv-1,ys)/\ys≠[]/\(Cg s (lv-1) ys).is=true:=by
 have c:xs≠[]:=List.ne_nil_of_mem b;unfold Cg at h;rw[if_neg c]at h;obtain⟨n,rfl⟩:∃n:Nat,lv=((n+1:Nat):Int):=⟨(lv-1).toNat,by omega⟩;rw[Int.toNat_natCast]at h;have d:=(GS h x b).1;obtain⟨ys,k,j,i⟩:=T4 d;have g:=a.ref x b;have f:=a.up e x b;grind[Cg]
theorem Good.kid{k:Int}(h:Good s l k)(j:MapI M s l)(a:Ak s k.toNat=some (lv,xs))(f:0<lv){x:It}(b:x∈xs):Good s l x.ref:=by
 obtain⟨w,u,o,i,g,e,d⟩:=h;rw[a]at e;cases e;obtain⟨c,ys,n,_,m⟩:=Yp (Ar a) d f b;exact⟨c.1,c.2,j.kid k lv xs o a d f x b,_,ys,n,m⟩
def VolsP(s:Sto)(cb m:Nat)(bv wv nv lw pb:Value)(refs nodes:List Int)(l:List (Int×Value))(r:Option (List Vo))(u:Value)(L':Lc):Prop:=match r with
 |none=>u=.int .i64 8/\L'=[]
 |some acc=>u=.int .i64 0/\∃vs Rv,L'=Rv++[(cb,cE (Ct bv wv nv lw pb m refs nodes vs) Ea),(m,Bi l)]/\Own vs Rv TV 4 acc.length (acc.flatMap DA)
def wCp(s:Sto)(cb m:Nat)(bv wv nv lw pb:Value)(refs nodes:List Int)(l:List (Int×Value))(pv:List Value)(next:Int)(lv:Nat):Prop:=∀(xs:List It)(sl:Value)(acc:List Vo)(vs:Value)(Rv:Lc)(M:Mem),MapI M s l->NS M sl xs->NdOk (lv:Int) xs->(0<lv->∀x∈xs,Good s l x.ref/\∃ys,Ak s x.ref.toNat=some ((lv:Int)-1,ys))->Own vs Rv TV 4 acc.length (acc.flatMap DA)->acc.length<=16->
 SpecL prog 44 #[pB cb,.agg pv.toArray,.agg #[.int .i64 lv,sl]] M (Rv++[(cb,cE (Ct bv wv nv lw pb m refs nodes vs) Ea),(m,Bi l)])
  λu M' L'=>VolsP s cb m bv wv nv lw pb refs nodes l (C6 s next lv xs acc) u L'
variable{L':Lc}{bv u:Value}{cb:Nat}{refs:List Int}
theorem VolsP.form{m:Nat}{a c d b:Value}{nodes:List Int}{r:Option (List Vo)}(h:VolsP s cb m bv a c d b refs nodes l r u L'):∃e,u=.int .i64 e/\((e=8/\r=none/\L'=[])\/(e=0/\∃acc vs f,r=some acc/\L'=f++[(cb,cE (Ct bv a c d b m refs nodes vs) Ea),(m,Bi l)]/\Own vs f TV 4 acc.length (acc.flatMap DA))):=by
 unfold VolsP at h;grind
variable{ys:List It}
theorem wNi{x:It}(h:Ak s x.ref.toNat=some (lv,ys)):kid s x=ys:=by grind[kid]
theorem MT(d:∀x acc a,f x acc=some a->acc.length<=16->a.length<=16):∀(xs:List It)(acc a:List Vo),A0 f xs acc=some a->acc.length<=16->a.length<=16
 |[],acc,a,h,c=>by cases h;exact c
 |x::xs,acc,a,h,c=>by
  unfold A0 at h;split at h
  ·rename_i b e;exact MT d xs b a h (d x acc b e c)
  cases h
theorem PL{next:Int}:∀(l:Nat)(xs:List It)(acc a:List Vo),C6 s next l xs acc=some a->acc.length<=16->a.length<=16
 |0=>MT λx acc a h b=>by
  unfold MU at h;split at h
  ·rename_i c;cases h;have:=c.2.2.2;rw[List.length_append,length_cons,length_nil];omega
  cases h
 |l+1=>MT λx acc a h b=>PL l _ acc a h b
theorem wCx(s:Sto)(H m:Nat)(bv J Q S P:Value)(d nodes:List Int)(o:d.length=256)(y:nodes.length=256)(l:List (Int×Value))(O K L N:Value)(Z root next:Int)(dv:Value)(xs:List It)(a:Option Addr)(c:Nat)(ps:List (It×Value))(b:List Vo)(C:Value)(I:Lc)(M:Mem)(av:MapI M s l)(hc:xs.length<=c)(hs:SM M a (ps.flatMap Ae))(hp:ps.map (·.1)=xs)(hb:∀p∈ps,BS M p.2 p.1.val)(g:NdOk ((0:Nat):Int) xs)(E:Own C I TV 4 b.length (b.flatMap DA))(F:b.length<=16):
  SpecL prog 44 #[pB H,.agg (Qh O K L N Z root next dv).toArray,.agg #[.int .i64 ((0:Nat):Int),.slice a xs.length c]] M (I++[(H,cE (Ct bv J Q S P m d nodes C) Ea),(m,Bi l)]) λu M' L'=>VolsP s H m bv J Q S P d nodes l (C6 s next 0 xs b) u L':=by
 have aw:=g.lev;have ap:=g.len;refine sB func44 ntmps44 ?_;intro W;refine Ke λb4 b5=>?_;refine CC (α:=Nat×Mem×List Vo×Value×Lc) (λx=>[(0,pB H),(4,pB b4),(5,pB b5),(13,.slice a xs.length c),(14,.int .i64 xs.length),(15,.int .i64 x.1)]) (λx=>x.2.1) (λx=>([(b5,cE [.int .i64 ((0:Nat):Int),.slice a xs.length c] TNd),(b4,cE (Qh O K L N Z root next dv) 32)]++(x.2.2.2.2++[(H,cE (Ct bv J Q S P m d nodes x.2.2.2.1) Ea),(m,Bi l)]))) (λx=>x.1<=xs.length/\MLe M x.2.1/\A0 (MU next) xs b=A0 (MU next) (xs.drop x.1) x.2.2.1/\Own x.2.2.2.1 x.2.2.2.2 TV 4 x.2.2.1.length (x.2.2.1.flatMap DA)/\x.2.2.1.length<=16) (λx=>xs.length-x.1) (0,M,b,C,I) ⟨Nat.zero_le _,MLe.refl _,rfl,E,F⟩ ?_;rintro⟨k,Mk,acc,vs,Rv⟩ ⟨hk,z,hI,n,X⟩;try dsimp only at hk z hI n X⊢
 simp only[cons_append,nil_append];have aj:=hs.mono z;have al:=λp hp=>(hb p hp).mono z;refine gj (λao=>?_) λao=>?_
 ·refine gh ?_;have U:k<xs.length:=by omega
  obtain⟨sb,so,e0,hx⟩:=aj.open (by intro e;have:=congrArg length e;rw[Aj Ae 5 Ag,length_nil]at this;have h2:=congrArg length hp;rw[length_map]at h2;omega);subst e0;obtain⟨va,vc,ak,ai,ag⟩:=Aw hx hp al U;refine gh ?_;refine lq (A1 (cs:=E1 xs[k] va vc) rfl rfl rfl rfl rfl (λi v T=>(ak i v T).cj _)) ?_;refine gA λb8=>?_;refine gt ?_;have ah:xs[k].val.length<=1000000:=by
   have h1:=(B5 g.ok xs[k] (getElem_mem U)).1;grind[BB]
  refine gc (Vi xs[k] va vc Mk ai ag ah) ?_;rintro _ Mn am ⟨v,rfl,j⟩;iterate 2 refine jp rfl ?_
  refine LZ rfl (λf=>?_) (λf=>?_)
  ·refine gA λaa=>?_;refine gj (λB=>?_) λB=>?_
   ·refine gr ?_;have g:¬wSe xs[k] next acc.length:=by intro V;rw[j (of_decide_eq_true f)]at B;exact V.2.1 B
    simp_all [VolsP,C6,A0,MU,Fz]
   refine gj (λG=>?_) λG=>?_
   ·refine gr ?_;have g:¬wSe xs[k] next acc.length:=by intro V;rw[j (of_decide_eq_true f)]at G;have h1:(CG xs[k]).id=xs[k].key.id:=rfl;have:=V.2.2.1;omega
    simp_all [VolsP,C6,A0,MU,Fz]
   refine gh ?_;obtain⟨af,ad,rfl⟩:=n.form;refine lq (Au rfl rfl rfl rfl (CJ.loc (Gn o y))) ?_;refine gj (λY=>?_) λY=>?_
   ·refine gr ?_;have g:¬wSe xs[k] next acc.length:=by intro V;exact V.2.2.2 (by omega)
    simp_all [VolsP,C6,A0,MU,Fz]
   refine gh ?_;refine Gt [10] [10] [0,1,2,3,4,5,106,107,8,9,110] Mn ([(aa,cE (DA v) TV),(H,cE (Ct bv J Q S P m d nodes (.slice af acc.length ad)) Ea)]) ([]) ?_;refine gh ?_;refine dq rfl (Au rfl rfl rfl rfl (CJ.loc (Gn o y))) ?_;refine gh ?_;refine GP rfl rfl rfl (Ab (cs:=[_,_,_,_]) rfl rfl rfl (by rfl) (by rfl) (by rfl)) ?_;rintro _ _ _ ⟨ax,rfl,rfl,rfl⟩;refine Cv (MLe.refl _) (λ_ h=>List.mem_cons_of_mem _ h) (by first|exact MLe.refl _|assumption) (by simp) ?_;refine dh rfl (AY (R:=Rv) (m:=1) rfl rfl rfl rfl n rfl (λi v T=>CJ.loc (by simpa using T)) rfl (by rfl) (by simp[Value.oneCell']) (by omega) (by omega)) ?_;rintro aq _ _ ⟨rfl,ab,rfl,D,_⟩;refine⟨MLe.refl _,by simp,?_⟩;obtain⟨ae,ac,rfl⟩:=D.form;refine gh ?_;refine Ho rfl rfl (wVd rfl rfl rfl rfl rfl rfl (by rw[HB o y];decide) (wRa o y)) ?_;rintro _ _ _ ⟨rfl,rfl⟩;refine⟨MLe.refl _,by simp,?_⟩;refine gh ?_;have au:wSe xs[k] next acc.length:=⟨of_decide_eq_true f,λe=>B (by rw[j (of_decide_eq_true f)];exact e),by have:=j (of_decide_eq_true f);rw[this]at G;show xs[k].key.id<next;have:(CG xs[k]).id=xs[k].key.id:=rfl;omega,λe=>Y (by omega)⟩;have T:=j (of_decide_eq_true f);subst T;refine BD (k+1,Mn,acc++[CG xs[k]],.slice ae (acc.length+1) ac,ab) ⟨by show k+1<=xs.length;omega,z.trans am,?_,?_,?_⟩ (hs:=λw h=>(h.perm (List.perm_append_comm_assoc ab [_,_,_,_,_] [_,_])).fewer (.cons _ (.cons _ (.cons _ (.refl _)))))
   ·grind [A0,CG,SD,MU]
   ·grind
   grind
  refine ga λaa=>?_;refine gr ?_;simp_all [wSe,VolsP,C6,A0,MU,Fz]
 refine gh ?_;refine AM (L':=Rv++[(H,cE (Ct bv J Q S P m d nodes vs) Ea),(m,Bi l)]) (λw h=>h.fewer (.cons _ (.cons _ (.refl _)))) ?_;refine FX rfl rfl ?_;unfold VolsP;rw[show C6 s next 0 xs b=some acc by rw[show C6 s next 0 xs b=A0 _ (xs.drop k) acc from hI];exact PM (by omega)];grind
theorem wCw(s:Sto)(G m:Nat)(U Q S T R:Value)(d nodes:List Int)(av:d.length=256)(aw:nodes.length=256)(l:List (Int×Value))(C o y B:Value)(D root next:Int)(dv:Value)(lv:Nat)(ih:wCp s G m U Q S T R d nodes l (Qh C o y B D root next dv) next lv)(xs:List It)(a:Option Addr)(c:Nat)(ps:List (It×Value))(b:List Vo)(H:Value)(P:Lc)(M:Mem)(L:MapI M s l)(hc:xs.length<=c)(hs:SM M a (ps.flatMap Ae))(hp:ps.map (·.1)=xs)(hb:∀p∈ps,BS M p.2 p.1.val)(Y:NdOk ((lv+1:Nat):Int) xs)(K:Own H P TV 4 b.length (b.flatMap DA))(O:b.length<=16)(Z:∀x∈xs,Good s l x.ref/\∃ys,Ak s x.ref.toNat=some ((lv:Int),ys)):
  SpecL prog 44 #[pB G,.agg (Qh C o y B D root next dv).toArray,.agg #[.int .i64 ((lv+1:Nat):Int),.slice a xs.length c]] M (P++[(G,cE (Ct U Q S T R m d nodes H) Ea),(m,Bi l)]) λu M' L'=>VolsP s G m U Q S T R d nodes l (C6 s next (lv+1) xs b) u L':=by
 have ax:=Y.lev;have ap:=Y.len;refine sB func44 ntmps44 ?_;intro W;refine Ke λb4 b5=>?_;refine CC (α:=Nat×Mem×List Vo×Value×Lc) (λx=>[(0,pB G),(4,pB b4),(5,pB b5),(13,.slice a xs.length c),(14,.int .i64 xs.length),(15,.int .i64 x.1)]) (λx=>x.2.1) (λx=>([(b5,cE [.int .i64 ((lv+1:Nat):Int),.slice a xs.length c] TNd),(b4,cE (Qh C o y B D root next dv) 32)]++(x.2.2.2.2++[(G,cE (Ct U Q S T R m d nodes x.2.2.2.1) Ea),(m,Bi l)]))) (λx=>x.1<=xs.length/\MLe M x.2.1/\A0 (λx acc=>C6 s next lv (kid s x) acc) xs b=A0 (λx acc=>C6 s next lv (kid s x) acc) (xs.drop x.1) x.2.2.1/\Own x.2.2.2.1 x.2.2.2.2 TV 4 x.2.2.1.length (x.2.2.1.flatMap DA)/\x.2.2.1.length<=16) (λx=>xs.length-x.1) (0,M,b,H,P) ⟨Nat.zero_le _,MLe.refl _,rfl,K,O⟩ ?_;rintro⟨k,Mk,acc,vs,Rv⟩ ⟨hk,f,hI,F,j⟩;try dsimp only at hk f hI F j⊢
 simp only[cons_append,nil_append];have ai:=hs.mono f;have ak:=λp hp=>(hb p hp).mono f;refine gj (λam=>?_) λam=>?_
 ·refine gh ?_;have aa:k<xs.length:=by omega
  obtain⟨sb,so,e0,hx⟩:=ai.open (by intro e;have:=congrArg length e;rw[Aj Ae 5 Ag,length_nil]at this;have h2:=congrArg length hp;rw[length_map]at h2;omega);subst e0;obtain⟨va,vc,aj,au,aq⟩:=Aw hx hp ak aa;refine gh ?_;refine lq (A1 (cs:=E1 xs[k] va vc) rfl rfl rfl rfl rfl (λi v hv=>(aj i v hv).cj _)) ?_;refine gA λb8=>?_;refine gt ?_;refine Gt [10] [10,11] [0,1,2,3,4,5,6,7,8,9,110,11] Mk ([(b8,cE (E1 xs[k] va vc) IT),(b4,cE (Qh C o y B D root next dv) 32),(G,cE (Ct U Q S T R m d nodes vs) Ea),(m,Bi l)]) ([]) ?_;refine gh ?_;obtain⟨g,n,N⟩:=Z xs[k] (getElem_mem aa);obtain⟨zl,zs,za,zc,zp,V,ag,af,ae⟩:=g.get (L.mono f);rw[N]at V;cases V;refine dq rfl (Bh (VZ (z:=.agg spnZ.toArray) rfl rfl rfl rfl (by kernel_rfl)) (v':=.agg (RX (lv:Int) (.slice za n.length zc) zp).toArray) (by rw[ae];rfl)) ?_;refine dq rfl (Bh (wAn rfl rfl rfl rfl) (v':=.agg #[.int .i64 (lv:Int),.slice za n.length zc]) rfl) ?_;have E:=Ar N;have I:0<lv->∀x∈n,Good s l x.ref/\∃ys,Ak s x.ref.toNat=some ((lv:Int)-1,ys):=λh0 x hx=>⟨g.kid (L.mono f) N (by omega) hx,by obtain⟨_,ys,h1,_⟩:=Yp E ag (by omega) hx;exact⟨ys,h1⟩⟩;refine jd_eh rfl rfl rfl (BV rfl rfl rfl rfl rfl (by kernel_rfl) (ih n _ acc vs Rv Mk (L.mono f) af E I F j)) ?_;rintro _ Mn _ ⟨ab,Rn,rfl,ah⟩;refine⟨ab,by simp,?_⟩;obtain⟨e,rfl,X⟩:=ah.form;refine gj (λal=>?_) λal=>?_
  ·refine gr ?_;simp_all [VolsP,C6,A0,kid,Fz,wNi]
  refine gh ?_;obtain⟨he,_⟩|⟨_,ac,ad,ao,hr,rfl,J⟩:=X
  ·omega
  refine BD (k+1,Mn,ac,ad,ao) ⟨by show k+1<=xs.length;omega,f.trans ab,?_,J,PL lv _ _ _ hr j⟩ (hs:=λw h=>(h.perm List.perm_append_comm).fewer (.cons _ (.refl _)));grind[A0,SD,wNi]
 refine gh ?_;refine AM (L':=Rv++[(G,cE (Ct U Q S T R m d nodes vs) Ea),(m,Bi l)]) (λw h=>h.fewer (.cons _ (.cons _ (.refl _)))) ?_;refine FX rfl rfl ?_;unfold VolsP;rw[show C6 s next (lv+1) xs b=some acc by rw[show C6 s next (lv+1) xs b=A0 _ (xs.drop k) acc from hI];exact PM (by omega)];grind
theorem SC(s:Sto)(F m:Nat)(G z C D B:Value)(b nodes:List Int)(n:b.length=256)(u:nodes.length=256)(l:List (Int×Value))(i f g h:Value)(j root next:Int)(E:Value):∀lv:Nat,wCp s F m G z C D B b nodes l (Qh i f g h j root next E) next lv
 |0=>λxs sl acc vs N M w k o _ d e=>by
  obtain⟨a,c,H,rfl,K,I,J,L⟩:=k;exact wCx s F m G z C D B b nodes n u l i f g h j root next E xs a c H acc vs N M w K I J L o d e
 |lv+1=>λxs sl acc vs N M w k o y d e=>by
  obtain⟨a,c,H,rfl,K,I,J,L⟩:=k;exact wCw s F m G z C D B b nodes n u l i f g h j root next E lv (SC s F m G z C D B b nodes n u l i f g h j root next E lv) xs a c H acc vs N M w K I J L o d e
   (λx O=>by obtain⟨Q,ys,P⟩:=y (by omega) x O;exact⟨Q,ys,by rw[P];congr 2;omega⟩)
def inc(r:List Int)(k:Nat):List Int:=r.set k (IntKind.i64.wrap (r.getD k 0+1))
def Cm(lv:Int)(acc:List Int×List Int)(x:It):List Int×List Int:=if x.ref=0 then acc else (inc acc.1 x.ref.toNat,if 0<lv then acc.2++[x.ref]else acc.2)
def Cb(s:Sto):Nat->List Int->List Int->List Int->List Int×List Int
 |0,_,refs,nodes=>(refs,nodes)
 |f+1,st,refs,nodes=>match st.getLast? with
  |none=>(refs,nodes)
  |some k=>if 1<(inc nodes k.toNat).getD k.toNat 0 then Cb s f st.dropLast refs (inc nodes k.toNat)else match Ak s k.toNat with
   |none=>Cb s f st.dropLast refs (inc nodes k.toNat)
   |some (lv,xs)=>Cb s f (xs.foldl (Cm lv) (refs,st.dropLast)).2 (xs.foldl (Cm lv) (refs,st.dropLast)).1 (inc nodes k.toNat)
def F0:Nat:=1600
def EC(s:Sto)(k:Int):Bool:=match Qz s k (-1)with
 |none=>false
 |some (lv,xs)=>(Cg s lv xs).is
theorem Dv(r:List Int)(k:Nat):(inc r k).length=r.length:=by simp[inc]
variable{f:Nat}{nodes refs:List Int}{s:Sto}
theorem SE:Cb s f [] refs nodes=(refs,nodes):=by cases f<;>rfl
variable{k:Int}
theorem NM{st:List Int}(h:1<(inc nodes k.toNat).getD k.toNat 0):Cb s (f+1) (st++[k]) refs nodes=Cb s f st refs (inc nodes k.toNat):=by
 grind[Cb]
variable{lv:Int}{xs:List It}
theorem PR{st:List Int}(h:¬1<(inc nodes k.toNat).getD k.toNat 0)(a:Ak s k.toNat=some (lv,xs)):Cb s (f+1) (st++[k]) refs nodes=Cb s f (xs.foldl (Cm lv) (refs,st)).2 (xs.foldl (Cm lv) (refs,st)).1 (inc nodes k.toNat):=by
 grind[Cb]
def XS(nodes:List Int):Nat:=nodes.countP (λx=>decide (x=0))
theorem Ln:∀{nodes:List Int}{k:Nat}{v:Int},k<nodes.length->XS (nodes.set k v)+(if nodes.getD k 0=0 then 1 else 0)=XS nodes+(if v=0 then 1 else 0)
 |[],_,_,h=>by cases h
 |x::xs,0,v,_=>by simp[XS,List.countP_cons];omega
 |x::xs,k+1,v,h=>by
  have:=Ln (nodes:=xs) (k:=k) (v:=v) (by simpa using h);simp only[XS,List.set_cons_succ,List.countP_cons,List.getD_cons_succ]at this⊢;omega
def Few(f:Nat)(nodes:List Int):Prop:=nodes.length=256/\∀k,0<=nodes.getD k 0/\nodes.getD k 0+f<=4000000000000000000
theorem Few.inc(h:Few (f+1) nodes){k:Nat}(hk:k<256):Few f (inc nodes k)/\(Go.Proofs.YtjheijhahehnmaaGreatDoor.inc nodes k).getD k 0=nodes.getD k 0+1:=by
 have e:=(h.2 k).1;have d:=(h.2 k).2;have a:IntKind.i64.wrap (nodes.getD k 0+1)=nodes.getD k 0+1:=IntWalk.i64_in _ (by omega);have c:(Go.Proofs.YtjheijhahehnmaaGreatDoor.inc nodes k).getD k 0=nodes.getD k 0+1:=by unfold Go.Proofs.YtjheijhahehnmaaGreatDoor.inc;rw[a];simp[getD,h.1,hk]
 refine⟨⟨by rw[Dv];exact h.1,λj=>?_⟩,c⟩;by_cases b:j=k
 ·grind
 have:(Go.Proofs.YtjheijhahehnmaaGreatDoor.inc nodes k).getD j 0=nodes.getD j 0:=by unfold Go.Proofs.YtjheijhahehnmaaGreatDoor.inc;simp[getD,List.getElem?_set_ne (Ne.symm b)]
 rw[this];have:=h.2 j;omega
theorem Few.less{g:Nat}(h:Few f nodes)(a:g<=f):Few g nodes:=⟨h.1,λk=>by have:=h.2 k;omega⟩
variable{a:List Int×List Int}{j:Nat}
theorem Nt(h:j<xs.length):(xs.take (j+1)).foldl (Cm lv) a=Cm lv ((xs.take j).foldl (Cm lv) a) xs[j]:=by
 rw[List.take_succ_eq_append_getElem h,List.foldl_append];rfl
theorem wKi(a:List Int×List Int)(x:It):(Cm lv a x).1.length=a.1.length/\(Cm lv a x).2.length<=a.2.length+1:=by
 grind[Cm,Dv]
theorem Rh:∀(xs:List It)(a:List Int×List Int),(xs.foldl (Cm lv) a).1.length=a.1.length/\(xs.foldl (Cm lv) a).2.length<=a.2.length+xs.length
 |[],a=>⟨rfl,Nat.le_refl _⟩
 |x::xs,a=>by
  obtain⟨c,e⟩:=Rh xs (Cm lv a x);obtain⟨b,d⟩:=wKi (lv:=lv) a x;rw[List.foldl_cons,c,b,length_cons];exact⟨rfl,by omega⟩
theorem JK{s:Sto}:∀(f:Nat)(st refs nodes:List Int),(Cb s f st refs nodes).1.length=refs.length/\(Cb s f st refs nodes).2.length=nodes.length
 |0,st,refs,nodes=>⟨rfl,rfl⟩
 |f+1,st,refs,nodes=>by
  rw[Cb];split
  ·exact ⟨rfl,rfl⟩
  split
  ·have:=JK (s:=s) f st.dropLast refs (inc nodes ?_);rw[Dv]at this;exact this
  split
  ·have:=JK (s:=s) f st.dropLast refs (inc nodes ?_);rw[Dv]at this;exact this
  rename_i k _ _ _ lv xs _;have:=JK (s:=s) f (xs.foldl (Cm lv) (refs,st.dropLast)).2 (xs.foldl (Cm lv) (refs,st.dropLast)).1 (inc nodes k.toNat);rw[Dv,(Rh xs _).1]at this;exact this
theorem JM:∀(f:Nat){g:Nat}(st refs nodes:List Int),(∀k∈st,8<=k/\k<256)->Few (g+f) nodes->Few g (Cb s f st refs nodes).2
 |0,g,st,refs,nodes,_,h=>h
 |f+1,g,st,refs,nodes,d,h=>by
  have c:∀k∈st.dropLast,8<=k/\k<256:=λk l=>d k (List.dropLast_subset _ l);rw[Cb];split
  ·exact h.less (by omega)
  rename_i k l;have u:=d k (List.mem_of_getLast? l);have m:=(Few.inc (f:=g+f) h (k:=k.toNat) (by omega)).1;split
  ·exact JM f _ _ _ c m
  split
  ·exact JM f _ _ _ c m
  rename_i lv xs j;refine JM f _ _ _ ?_ m;have i:=Ar j;have:∀(ys:List It)(a:List Int×List Int),(∀y∈ys,y∈xs)->(∀k∈a.2,8<=k/\k<256)->∀k∈(ys.foldl (Cm lv) a).2,8<=k/\k<256:=by
   intro ys;induction ys with
   |nil=>intro a _ e;exact e
   |cons y ys o=>
    intro a n e
    refine o _ (λz b=>n z (List.mem_cons_of_mem _ b)) ?_
    unfold Cm
    split
    ·exact e
    rename_i w
    split
    ·intro z b
     rcases List.mem_append.1 b with b|b
     ·exact e z b
     rw[List.mem_singleton.1 b];have:=i.ref y (n y (by simp));omega
    exact e
  exact this xs _ (λ_ h=>h) c
variable{R:Lc}{e:TypeId}{m:Nat}
theorem Own.cut{v:Value}{a:Option Addr}{n c:Nat}{xs b:List Value}(h:Own v R e 1 n xs)(o:v=.slice a n c)(s:m<=n)(d:b=xs.take m):Own (.slice a m c) R e 1 m b:=by
 subst d;refine⟨by have:=h.1;rw[List.length_take];omega,?_⟩;rcases h.2 with⟨j,i,f⟩|⟨g,l,k,j,i,f,y,w,u⟩
 ·grind
 grind
theorem wAj(h:Qz s k (-1)=none):EC s k=false:=by grind[EC]
theorem Pv(h:Qz s k (-1)=some (lv,xs)):EC s k=(Cg s lv xs).is:=by grind[EC]
def TreeP(s:Sto)(cb m:Nat)(bv wv nv lw pb vs:Value)(refs nodes:List Int)(l:List (Int×Value))(k:Int)(u:Value)(M':Mem)(L':Lc):Prop:=
 if EC s k=true then u=.int .i64 0/\∃l',L'=[(cb,cE (Ct bv wv nv lw pb m (Cb s F0 [k] (inc refs k.toNat) nodes).1 (Cb s F0 [k] (inc refs k.toNat) nodes).2 vs) Ea),(m,Bi l')]/\MapI M' s l'/\Ext l l'
 else u=.int .i64 8/\L'=[]
theorem wDh(s:Sto)(a4:Av s)(K m:Nat)(bv V T Y S vs:Value)(d b:List Int)(B:d.length=256)(Q:Few F0 b)(J:Int)(M:Mem)(l:List (Int×Value))(aD:CN M s T S)(a7:MapI M s l):
  SpecL prog 45 #[pB K,.int .i64 J] M [(K,cE (Ct bv V T Y S m d b vs) Ea),(m,Bi l)] λu M' L'=>TreeP s K m bv V T Y S vs d b l J u M' L':=by
 have Z:=Q.1;refine sB func45 ntmps45 ?_;intro W;refine gC (QE s a4 K m bv V T Y S (Al d++(Al b++[vs])) (-1) J M l aD a7) ?_;rintro _ M1 _ aX ⟨l2,rfl,ae,aC,a8⟩;obtain⟨xl,xa,xn,xc,p,rfl,af⟩:=a8.form;simp only[cons_append,nil_append];refine BP rfl rfl (wLi rfl rfl rfl rfl rfl) (λI=>?_) (λI=>?_)
 ·refine gh ?_;have a5:EC s J=true:=by
   rcases af with⟨_,h2⟩|⟨ys,h1,_,_,h2,_⟩
   ·rw [h2]at I;cases I
   grind[Pv]
  have al:Good s l2 J:=by
   rcases af with⟨_,h2⟩|⟨ys,h1,_,_,h2,h3⟩
   ·rw [h2]at I;cases I
   obtain⟨h4,h5,h6,_⟩:=Ue h1;exact⟨h4,h5,h3,xl,ys,h6,by rw[<-h2];exact I⟩
  have aJ:=al.1;have ax:=al.2.1;refine Gt [10] [10] [0,1,2,3,4,5,6,7,8,9,110] M1 ([(K,cE (Ct bv V T Y S m d b vs) Ea)]) ([]) ?_;refine gh ?_;refine dq rfl (F7 rfl rfl rfl rfl (by omega)) ?_;refine dq rfl (Au rfl rfl rfl rfl (CJ.loc (MJ B (i:=J.toNat) (by omega) (by omega)))) ?_;refine dq rfl (qP rfl rfl) ?_;refine gh ?_;refine dq rfl (F7 rfl rfl rfl rfl (by omega)) ?_;refine Ho rfl rfl (wVd rfl rfl rfl rfl rfl rfl (by rw[HB B Z];omega) (Xz B Z (i:=J.toNat) (by omega) (by omega))) ?_;rintro _ _ _ ⟨rfl,rfl⟩;refine⟨MLe.refl _,by simp,?_⟩;refine gh ?_;refine lh (Ab (cs:=[_]) rfl rfl rfl (by rfl) (by rfl) (by rfl)) ?_;rintro _ _ _ ⟨ao,rfl,rfl,rfl⟩;refine gh ?_;have aW:F0=1600:=rfl;refine CC (α:=Nat×List Int×List Int×List Int×Value×Lc) (λx=>[(0,pB K),(5,x.2.2.2.2.1)]) (λ_=>M1) (λx=>(x.2.2.2.2.2++[(K,cE (Ct bv V T Y S m x.2.1 x.2.2.1 vs) Ea),(m,Bi l2)])) (λx=>Cb s F0 [J] (inc d J.toNat) b=Cb s x.1 x.2.2.2.1 x.2.1 x.2.2.1/\x.2.2.2.1.length+6*XS x.2.2.1<=x.1/\x.1<=F0/\x.2.1.length=256/\Few x.1 x.2.2.1/\(∀y∈x.2.2.2.1,Good s l2 y)/\Own x.2.2.2.2.1 x.2.2.2.2.2 3 1 x.2.2.2.1.length (Al x.2.2.2.1)) (λx=>x.1) (F0,inc d J.toNat,b,[J],.slice (some ⟨ao,0,none⟩) 1 1,[(ao,cE [Value.int .i64 J] 3)]) ⟨rfl,by have:XS b<=b.length:=List.countP_le_length;rw[Z]at this;show 1+6*XS b<=F0;omega,Nat.le_refl _,by rw[Dv];exact B,Q,λy U=>by rw[List.mem_singleton.1 U];exact al,⟨rfl,.inr ⟨ao,1,_,rfl,rfl,Nat.le_refl _,by decide,rfl,rfl⟩⟩⟩ ?_;rintro⟨f,refs,nodes,st,v,R⟩ ⟨hI,a6,aB,B,o,ab,E⟩;try dsimp only at hI a6 aB B o ab E⊢
  have Z:=o.1;obtain⟨aK,X,rfl⟩:=E.form;refine gj (λam=>?_) λam=>?_
  ·refine Ai (jT (EF rfl (Co (jT (Dm (Ah (Af ?_)))))));iterate 2 refine jp rfl ?_
   refine lq (FY rfl rfl rfl) ?_;obtain⟨st0,k,rfl⟩:∃st0 k,st=st0++[k]:=⟨st.dropLast,st.getLast (λe=>by rw[e]at am;exact absurd am (by decide)),(List.dropLast_concat_getLast _).symm⟩;have N:(st0++[k]).length=st0.length+1:=by simp
   obtain⟨sg,aI,L,e0,e1,aT,_⟩:=E.open (by omega);cases e0;cases e1;have aa:=ab k (by simp);have aU:=aa.1;have a9:=aa.2.1;obtain⟨f,rfl⟩:∃f0,f=f0+1:=⟨f-1,by omega⟩;obtain⟨P,aV⟩:=o.inc (k:=k.toNat) (by omega);have ak:=o.1;refine lq (Bh (qA rfl rfl rfl rfl rfl (by simp only[N];omega)) (v':=.int .i64 (st0.length:Int)) (by rw[N];congr 1;omega)) ?_;refine lq (EV rfl rfl rfl rfl (by rw[N];omega)) ?_;refine lq (Au rfl rfl rfl rfl (by rw[Nat.zero_add,Nat.mul_one];exact E.cj (by simp) (u:=.int .i64 k) (by simp[Al]))) ?_;refine jp rfl ?_;refine Ai (jT (Ah (Af ?_)));iterate 2 refine jp rfl ?_
   refine lq (FY rfl rfl rfl) ?_;refine lq (Bh (qA rfl rfl rfl rfl rfl (by simp only[N];omega)) (v':=.int .i64 (st0.length:Int)) (by rw[N];congr 1;omega)) ?_;refine lq (Bh (CL rfl rfl rfl (.no _) (.of (v:=st0.length) rfl (by omega) (by omega)) (.no _) (by omega) (by simp)) (v':=.slice (some ⟨sg,0,none⟩) st0.length X) (by rw[AU];rfl)) ?_;refine gh ?_;refine Gt [10] [10] [0,1,2,3,4,5,6,7,8,9,110] M1 ([(K,cE (Ct bv V T Y S m refs nodes vs) Ea)]) ([]) ?_;refine gh ?_;refine dq rfl (F7 rfl rfl rfl rfl (by omega)) ?_;refine dq rfl (Au rfl rfl rfl rfl (CJ.loc (UG B ak (i:=k.toNat) (by omega) (by omega)))) ?_;refine dq rfl (qP rfl rfl) ?_;refine gh ?_;refine dq rfl (F7 rfl rfl rfl rfl (by omega)) ?_;refine Ho rfl rfl (wVd rfl rfl rfl rfl rfl rfl (by rw[HB B ak];omega) (wRb B ak (i:=k.toNat) (by omega) (by omega))) ?_;rintro _ _ _ ⟨rfl,rfl⟩;refine⟨MLe.refl _,by simp,?_⟩;rw[show nodes.set k.toNat (IntKind.i64.wrap (nodes.getD k.toNat 0+1))=inc nodes k.toNat from rfl];have aj:(inc nodes k.toNat).length=256:=by grind[Dv]
   have O:Own (.slice (some ⟨sg,0,none⟩) st0.length X) [(sg,.cells L 3 (0,0))] 3 1 st0.length (Al st0):=E.cut rfl (by omega) (by simp[Al]);refine gh ?_;refine lq (F7 rfl rfl rfl rfl (by omega)) ?_;refine lq (Au rfl rfl rfl rfl (CJ.loc (UG B aj (i:=k.toNat) (by omega) (by omega)))) ?_;refine gj (λaH=>?_) λaH=>?_
   ·refine gh ?_;have hz:=Ln (nodes:=nodes) (k:=k.toNat) (v:=IntKind.i64.wrap (nodes.getD k.toNat 0+1)) (by omega);refine BD (f,refs,inc nodes k.toNat,st0,.slice (some ⟨sg,0,none⟩) st0.length X,[(sg,.cells L 3 (0,0))]) ⟨?_,?_,by show f<=F0;omega,B,P,λy U=>ab y (List.mem_append_left _ U),O⟩
    ·show _=Cb s f st0 refs (inc nodes k.toNat);grind[NM]
    have aw:=(o.2 k.toNat).1;have hw:IntKind.i64.wrap (nodes.getD k.toNat 0+1)=nodes.getD k.toNat 0+1:=IntWalk.i64_in _ (by have:=(o.2 k.toNat).2;omega);rw[hw,if_neg (by omega),if_neg (by omega)]at hz;show st0.length+6*XS (nodes.set k.toNat _)<=f;grind
   refine gh ?_;obtain⟨lv,zs,za,zc,zp,aq,aN,a3,a2⟩:=aa.get ae;have av:=Ar aq;have aL:=av.len;refine lq (Bh (VZ (z:=.agg spnZ.toArray) rfl rfl rfl rfl (by kernel_rfl)) (v':=.agg (RX lv (.slice za zs.length zc) zp).toArray) (by rw[a2];rfl)) ?_;refine lq (Bh (wAn rfl rfl rfl rfl) (v':=.agg #[.int .i64 lv,.slice za zs.length zc]) rfl) ?_;refine ga λb7=>?_;refine CC (α:=Nat×List Int×List Int×Value×Lc) (λx=>[(0,pB K),(5,x.2.2.2.1),(7,pB b7),(66,.slice za zs.length zc),(67,.int .i64 zs.length),(68,.int .i64 x.1)]) (λ_=>M1) (λx=>((b7,cE [.int .i64 lv,.slice za zs.length zc] TNd)::(x.2.2.2.2++[(K,cE (Ct bv V T Y S m x.2.1 (inc nodes k.toNat) vs) Ea),(m,Bi l2)]))) (λx=>x.1<=zs.length/\(x.2.1,x.2.2.1)=(zs.take x.1).foldl (Cm lv) (refs,st0)/\x.2.1.length=256/\(∀y∈x.2.2.1,Good s l2 y)/\x.2.2.1.length<=st0.length+x.1/\Own x.2.2.2.1 x.2.2.2.2 3 1 x.2.2.1.length (Al x.2.2.1)) (λx=>zs.length-x.1) (0,refs,st0,.slice (some ⟨sg,0,none⟩) st0.length X,[(sg,.cells L 3 (0,0))]) ⟨Nat.zero_le _,rfl,B,λy U=>ab y (List.mem_append_left _ U),Nat.le_refl _,O⟩ ?_;rintro⟨j,c,C,v2,R⟩ ⟨hj,n,G,F,au,D⟩;try dsimp only at hj n G F au D⊢
   obtain⟨ah,ag,rfl⟩:=D.form;refine gj (λaF=>?_) λaF=>?_
   ·refine gh ?_;have H:j<zs.length:=by omega
    obtain⟨qa,qc,ps,e0,aM,a0,ap,a1⟩:=id a3;cases e0;obtain⟨sb,so,e0,hx⟩:=a0.open (by intro e;have:=congrArg length e;rw[Aj Ae 5 Ag,length_nil]at this;have h2:=congrArg length ap;rw[length_map]at h2;omega);subst e0;obtain⟨va,vc,aE,aS,aQ⟩:=Aw hx ap a1 H;have aP:=av.ref zs[j] (getElem_mem H);refine gh ?_;refine lq (A1 (cs:=E1 zs[j] va vc) rfl rfl rfl rfl rfl (λi v hv=>(aE i v hv).cj _)) ?_;refine gA λb9=>?_;refine gj (λad=>?_) λad=>?_
    ·refine gh ?_;have g:=Nt (lv:=lv) (a:=(refs,st0)) H;rw[<-n]at g;unfold Cm at g;rw[if_pos ad]at g;refine BD (j+1,c,C,.slice ah C.length ag,R) ⟨by show j+1<=zs.length;omega,g.symm,?_,?_,?_,?_⟩
     ·exact G
     ·exact F
     ·grind
     omega
    refine gh ?_;refine Gt [11] [11] [0,1,2,3,4,5,6,7,8,9,10,111] M1 ([(b9,cE (E1 zs[j] va vc) IT),(K,cE (Ct bv V T Y S m c (inc nodes k.toNat) vs) Ea)]) ([]) ?_;refine gh ?_;refine dq rfl (F7 rfl rfl rfl rfl (by omega)) ?_;refine dq rfl (Au rfl rfl rfl rfl (CJ.loc (MJ G (i:=zs[j].ref.toNat) (by omega) (by omega)))) ?_;refine dq rfl (qP rfl rfl) ?_;refine gh ?_;refine dq rfl (F7 rfl rfl rfl rfl (by omega)) ?_;refine Ho rfl rfl (wVd rfl rfl rfl rfl rfl rfl (by rw[HB G aj];omega) (Xz G aj (i:=zs[j].ref.toNat) (by omega) (by omega))) ?_;rintro _ _ _ ⟨rfl,rfl⟩;refine⟨MLe.refl _,by simp,?_⟩;rw[show c.set zs[j].ref.toNat (IntKind.i64.wrap (c.getD zs[j].ref.toNat 0+1))=inc c zs[j].ref.toNat from rfl];refine gj (λac=>?_) λac=>?_
    ·refine gh ?_;refine lh (Ab (cs:=[_]) rfl rfl rfl (by rfl) (by rfl) (by rfl)) ?_;rintro _ _ _ ⟨aY,rfl,rfl,rfl⟩;refine lh (AY (R:=R) (m:=1) rfl rfl rfl rfl D rfl (λi v hv=>CJ.loc (by simpa using hv)) rfl (by rfl) (by simp[Value.oneCell']) (by omega) (by omega)) ?_;rintro v3 _ _ ⟨rfl,R3,rfl,ai,_⟩;obtain⟨az,ay,rfl⟩:=ai.form;refine gh ?_;have g:=Nt (lv:=lv) (a:=(refs,st0)) H;rw[<-n]at g;unfold Cm at g;rw[if_neg ad,if_pos ac]at g;refine BD (j+1,inc c zs[j].ref.toNat,C++[zs[j].ref],.slice az (C.length+1) ay,R3) ⟨by show j+1<=zs.length;omega,g.symm,?_,?_,?_,?_⟩ (hs:=λw h=>(h.perm (List.perm_append_comm_assoc R3 [_,_,_] [_,_])).fewer (.cons _ (.cons _ (.refl _))))
     ·grind [inc,Dv]
     ·show ∀y∈C++[zs[j].ref],Good s l2 y;intro y U;rcases List.mem_append.1 U with U|U
      ·grind
      rw[List.mem_singleton.1 U];exact aa.kid ae aq ac (getElem_mem H)
     ·grind
     grind[Own,Al]
    refine gh ?_;have g:=Nt (lv:=lv) (a:=(refs,st0)) H;rw[<-n]at g;unfold Cm at g;rw[if_neg ad,if_neg ac]at g;refine BD (j+1,inc c zs[j].ref.toNat,C,.slice ah C.length ag,R) ⟨by show j+1<=zs.length;omega,g.symm,?_,?_,?_,?_⟩
    ·grind [inc,Dv]
    ·exact F
    ·grind
    omega
   refine gh ?_;obtain rfl:j=zs.length:=by omega
   rw[List.take_length]at n;have hz:=Ln (nodes:=nodes) (k:=k.toNat) (v:=IntKind.i64.wrap (nodes.getD k.toNat 0+1)) (by omega);have aA:=(Rh (lv:=lv) zs (refs,st0)).2;rw[<-n]at aA;refine BD (f,c,inc nodes k.toNat,C,.slice ah C.length ag,R) ⟨?_,?_,by show f<=F0;omega,G,P,F,D⟩
   ·grind [Cb,inc,PR]
   have aw:=(o.2 k.toNat).1;have hw:IntKind.i64.wrap (nodes.getD k.toNat 0+1)=nodes.getD k.toNat 0+1:=IntWalk.i64_in _ (by have:=(o.2 k.toNat).2;omega);rw[hw,if_pos (by omega),if_neg (by omega)]at hz;show C.length+6*XS (nodes.set k.toNat _)<=f;grind
  refine gh ?_;obtain rfl:st=[]:=List.eq_nil_of_length_eq_zero (by omega);rw[SE]at hI;refine AM (L':=[(K,cE (Ct bv V T Y S m refs nodes vs) Ea),(m,Bi l2)]) (λw h=>h.fewer (List.sublist_append_right _ _)) ?_;refine FX rfl rfl ?_;grind[TreeP]
 refine gr ?_;grind[TreeP,wAj,Pv]
abbrev X0:TypeId:=32
def zI:List Int:=replicate 256 0
def Cy(s:Sto):List Int->List Int->List Int->Option (List Int×List Int)
 |[],refs,nodes=>some (refs,nodes)
 |r::rs,refs,nodes=>if EC s r=true then Cy s rs (Cb s F0 [r] (inc refs r.toNat) nodes).1 (Cb s F0 [r] (inc refs r.toNat) nodes).2 else none
def enough(s:Sto)(refs:List Int):Prop:=∀i,i<256->refs.getD i 0<=((s.now.getD i 0).toNat:Int)
instance(s:Sto)(refs:List Int):Decidable (enough s refs):=by unfold enough;exact inferInstance
def Ec(root:Int)(dead:List Int)(vs:List Vo):List Int:=(root::dead)++vs.map (·.root)
def Cc(s:Sto)(root next:Int)(dead:List Int):Option (List Vo×List Int×List Int):=
 if Av s/\dead.length<=40/\EC s root=true then match Qz s root (-1)with
  |none=>none
  |some (lv,xs)=>match C6 s next lv.toNat xs []with
   |none=>none
   |some vs=>match Cy s (Ec root dead vs) zI zI with
    |none=>none
    |some (refs,nodes)=>if enough s refs then some (vs,refs,nodes)else none
 else none
variable{s:Sto}
theorem UE{root next:Int}{dead:List Int}(h:¬(Av s/\dead.length<=40/\EC s root=true)):Cc s root next dead=none:=by grind[Cc]
variable{lv:Int}{xs:List It}
theorem wJa{root next:Int}{dead:List Int}(h:Av s/\dead.length<=40/\EC s root=true)(b:Qz s root (-1)=some (lv,xs))(a:C6 s next lv.toNat xs []=none):Cc s root next dead=none:=by
 grind[Cc]
variable{vs:List Vo}
theorem ZS{root next:Int}{dead:List Int}(h:Av s/\dead.length<=40/\EC s root=true)(c:Qz s root (-1)=some (lv,xs))(b:C6 s next lv.toNat xs []=some vs)(a:Cy s (Ec root dead vs) zI zI=none):Cc s root next dead=none:=by
 grind[Cc]
theorem RJ{root next:Int}{dead:List Int}{r n:List Int}(h:Av s/\dead.length<=40/\EC s root=true)(c:Qz s root (-1)=some (lv,xs))(b:C6 s next lv.toNat xs []=some vs)(a:Cy s (Ec root dead vs) zI zI=some (r,n)):Cc s root next dead=if enough s r then some (vs,r,n)else none:=by
 grind[Cc]
variable{i:Nat}{nodes refs rs:List Int}
theorem wDg(a:i<rs.length)(h:EC s rs[i]=true):Cy s (rs.drop i) refs nodes=Cy s (rs.drop (i+1)) (Cb s F0 [rs[i]] (inc refs rs[i].toNat) nodes).1 (Cb s F0 [rs[i]] (inc refs rs[i].toNat) nodes).2:=by
 rw[List.drop_eq_getElem_cons a,Cy,if_pos h]
theorem XZ(a:i<rs.length)(h:EC s rs[i]=false):Cy s (rs.drop i) refs nodes=none:=by
 rw[List.drop_eq_getElem_cons a,Cy,if_neg (by rw[h];decide)]
variable{k:Int}
theorem LE(h:EC s k=true):8<=k/\k<256/\∃lv xs,Qz s k (-1)=some (lv,xs)/\Ak s k.toNat=some (lv,xs)/\(Cg s lv xs).is=true:=by
 unfold EC at h;split at h
 ·cases h
 rename_i lv xs a;obtain⟨d,c,b,_⟩:=Ue a;grind
variable{L':Lc}{M':Mem}{bv u:Value}{cb m:Nat}{l:List (Int×Value)}
theorem TreeP.form{a c d b vs:Value}(h:TreeP s cb m bv a c d b vs refs nodes l k u M' L'):∃e,u=.int .i64 e/\((e=8/\EC s k=false/\L'=[])\/(e=0/\EC s k=true/\∃f,L'=[(cb,cE (Ct bv a c d b m (Cb s F0 [k] (inc refs k.toNat) nodes).1 (Cb s F0 [k] (inc refs k.toNat) nodes).2 vs) Ea),(m,Bi f)]/\MapI M' s f)):=by
 grind[TreeP]
theorem KB:zI.length=256:=List.length_replicate
theorem wJn(f:Nat)(a:f<=1000000):Few f zI:=⟨KB,λk=>by
 have:zI.getD k 0=0:=by unfold zI;rw[getD,List.getElem?_replicate];split<;>rfl
 rw[this];omega⟩
section
variable{P:Program}{ops:Array Oper}{N:Fs}{F:Fr}{E:Ent}{M:Mem}{L:Lc}{o:Oper}
theorem Yu{x j:Operand}{t e:TypeId}{n g f:Nat}{z cs:List Value}{k:IntKind}{i:Int}{d:TypeDesc}{v:Value}(D:gd ops F o=some true)(y:o.op=.index t x j)(l:ev F x=some (.agg cs.toArray))(C:ev F j=some (.int k i))[s:Und P t (.array n e)][E:Und P e d][B:Lay P e g f z](G:HR d=false)
  (h:0<=i/\i<n) (m:cs[i.toNat*g]? =some v):QF P ops N F M L o v:=
 Bv D λJ a w I=>by
  obtain⟨H,u,c,b,_⟩:=B.info
  simp[execOp,y,a.ev l,a.ev C,Instr.index,asIntOf,run_underlying s.h,h,sizeOf,typeInfo,c,b,part,C1 E.h,G,m]
end
theorem XB{a b c:Value}{p:Option Addr}:Gl ([(0,4),(4,1),(5,1),(6,256),(262,256),(518,1)][·]?) ([.slice none 0 0,.slice none 0 0,.slice none 0 0,.slice none 0 0,.pointer none,.map none]++(replicate 512 (.int .i64 0)++([.slice none 0 0]))) [(0,.agg #[bv,a,b,c]),(1,.pointer p),(2,.map (some m))]=some (Ct bv a b c (.pointer p) m zI zI (.slice none 0 0)):=by
 have h:(replicate 512 (Value.int .i64 0)++[Value.slice none 0 0])=Al zI++(Al zI++[.slice none 0 0]):=by
  simp_all [zI,Al]
 rw[h];have d:(Al zI++(Al zI++[Value.slice none 0 0])).length=513:=by grind
 show _=some (bv::a::b::c::.pointer p::.map (some m)::(Al zI++(Al zI++[Value.slice none 0 0])));generalize Al zI++(Al zI++[Value.slice none 0 0])=r at d;simp[Gl,Value.cells,d];rfl
def NI(M:Mem)(v:Value)(xs:List Int):Prop:=∃a c,v=.slice a xs.length c/\xs.length<=c/\SM M a (Al xs)
variable{M:Mem}
theorem NI.mono{v:Value}{xs:List Int}(h:NI M v xs)(b:MLe M M'):NI M' v xs:=by
 obtain⟨a,c,f,e,d⟩:=h;exact⟨a,c,f,e,d.mono b⟩
theorem DU(xs:List Int):∀v∈Al xs,v.oneCell'=true:=by
 intro v a;obtain⟨x,_,rfl⟩:=List.mem_map.1 a;rfl
variable{R:Lc}{e:TypeId}
theorem Own.cast{v:Value}{size n n':Nat}{xs xs':List Value}(h:Own v R e size n xs)(b:n=n')(a:xs=xs'):Own v R e size n' xs':=by grind
def TakeP(s:Sto)(root next:Int)(dead:List Int)(u:Value)(M':Mem):Prop:=match Cc s root next dead with
 |none=>u=.tuple #[.pointer none,.int .i64 8]
 |some (vs,refs,nodes)=>∃cb bv wv nv lw pb m a c,u=.tuple #[pB cb,.int .i64 0]/\M' cb=some (cE (Ct bv wv nv lw pb m refs nodes (.slice a vs.length c)) Ea)/\vs.length<=c/\SM M' a (vs.flatMap DA)/\refs.length=256/\nodes.length=256
theorem wDk(s:Sto)(f b c d:Value)(l root next:Int)(da:Option Addr)(Z:Nat)(dead:List Int)(M:Mem)(h1:LS M f s.blocks)(h2:WS M b s.waits)(h3:BS M c s.now)(h4:BS M d s.last)(bm:dead.length<=Z)(aK:SM M da (Al dead))(bl:dead.length<=1000000):
  SpecL prog 19 #[.agg (Qh f b c d l root next (.slice da dead.length Z)).toArray] M [] λu M' L'=>TakeP s root next dead u M'/\L'=[]:=by
 have ag:ST M (.agg #[f,b,c,d]) s:=⟨_,_,_,_,rfl,h1,h2,h3,h4⟩;refine sB func19 ntmps19 ?_;intro W;refine ga λV=>?_;refine gQ (CK s _ M ag) ?_;refine gj (λaj=>?_) λaj=>?_
 ·refine gr ?_;refine⟨?_,rfl⟩;unfold TakeP;rw[UE (λh=>absurd (if_pos h.1) aj)];try rfl
 refine gj (λaV=>?_) λaV=>?_
 ·refine gr ?_;grind[TakeP,UE]
 refine gh ?_;have G:Av s:=Classical.byContradiction λh=>aj (by unfold DJ;rw[if_neg h];decide);have ba:s.now.length=256:=G.2.1.1;have be:s.waits.length<=4096:=G.1.2.1;refine AV ([(V,cE (Qh f b c d l root next (.slice da dead.length Z)) X0)]) (by kernel_rfl) (by simp) ?_;refine gk [0,1,2,3] ?_;refine Eg (α:=Mem×Nat×Nat) (λy=>MLe M y.1/\BN y.1 (.pointer (some ⟨y.2.1,0,none⟩)) s) (λy=>[(1,pB V),(29,.agg (Ct f b c d (.pointer (some ⟨y.2.1,0,none⟩)) y.2.2 zI zI (.slice none 0 0)).toArray)]) (λy=>y.1) (λy=>[(y.2.2,Bi []),(V,cE (Qh f b c d l root next (.slice da dead.length Z)) X0)]) 2 #[true,true,true,true,true,true,true,false,false] ?_ (λaY=>?_)
 ·rintro ⟨M1,F,g⟩ ⟨O,N⟩;try dsimp only at O N⊢
  refine aO 7 ?_;refine sh rfl (Bt (cs:=Ct f b c d (pB F) g zI zI (.slice none 0 0)) rfl rfl rfl rfl) ?_;rintro _ _ _ ⟨cb,rfl,rfl,rfl⟩;refine aG (O) ?_;refine gk [8] ?_;refine FP (by kernel_rfl) ?_;refine gC (QE s G cb g f b c d (pB F) (Al zI++(Al zI++[.slice none 0 0])) (-1) root M1 [] ⟨h3.mono O,N⟩ MapI.nil) ?_;rintro _ M2 _ ai ⟨l2,rfl,I,aJ,aF⟩;obtain⟨xl,xa,xn,xc,p,rfl,au⟩:=aF.form;simp only[cons_append,nil_append];refine gA λb4=>?_;refine BP rfl rfl (Au rfl rfl rfl rfl (CJ.loc rfl)) (λP=>?_) (λP=>?_)
  ·refine gh ?_;obtain⟨_,aC⟩|⟨ys,J,rfl,a3,ao,aH⟩:=au
   ·rw [aC]at P;cases P
   obtain⟨aA,ad,ae,_⟩:=Ue J;have aa:=Ar ae;have ac:EC s root=true:=by grind[Pv]
   have Y:Av s/\dead.length<=40/\EC s root=true:=⟨G,by omega,ac⟩;have aI:Good s l2 root:=⟨aA,ad,aH,xl,ys,ae,by rw[<-ao];exact P⟩;have aZ:=aa.lev;obtain⟨z,rfl⟩:∃n:Nat,xl=(n:Int):=⟨xl.toNat,by omega⟩;have af:0<z->∀x∈ys,Good s l2 x.ref/\∃zs,Ak s x.ref.toNat=some ((z:Int)-1,zs):=λh0 x hx=>⟨aI.kid I ae (by omega) hx,by obtain⟨_,zs,h1,_⟩:=Yp aa (by rw[<-ao];exact P) (by omega) hx;exact⟨zs,h1⟩⟩;refine gC (SC s cb g f b c d (pB F) zI zI KB KB l2 f b c d l root next (.slice da dead.length Z) z ys _ [] (.slice none 0 0) [] M2 I a3 aa af (Own.nil _ _) (by simp)) ?_;rintro _ M3 bp U a4;obtain⟨e,rfl,al⟩:=a4.form;refine gj (λaU=>?_) λaU=>?_
   ·refine gr ?_;grind[TakeP,wJa]
   refine gh ?_;obtain⟨he,_⟩|⟨_,acc,bb,Rv,ab,rfl,ap⟩:=al
   ·omega
   simp only[append_assoc,cons_append,nil_append];refine Hn ap (by simp) ?_;intro Mv C B S ev a5 ak;subst ev;have ay:=PL _ _ _ _ ab (by simp);refine gh ?_;refine lh (Ab (cs:=[_]) rfl rfl rfl (by rfl) (by rfl) (by rfl)) ?_;rintro _ _ _ ⟨ax,rfl,rfl,rfl⟩;refine gh ?_;refine lh (Eh (R:=[(ax,cE [Value.int .i64 root] 3)]) (xs:=[.int .i64 root]) (news:=Al dead) (n:=1) rfl rfl rfl rfl ⟨rfl,.inr ⟨ax,1,_,rfl,rfl,Nat.le_refl _,by decide,rfl,rfl⟩⟩ (by rw[Ay,Nat.mul_one]) (aK.mono (O.trans (ai.trans (U.trans S)))) (by rfl) (DU _) (by omega) (by omega)) ?_;rintro bd _ _ ⟨rfl,aX,rfl,a⟩;obtain⟨a2,a0,rfl⟩:=a.form;refine jp rfl ?_;refine Ai (jT (Ah (Ah (Af ?_))));refine jp rfl ?_;refine lq (BY rfl rfl rfl) ?_;refine lq (Ac rfl rfl rfl rfl rfl) ?_;refine lq (Au rfl rfl rfl rfl (CJ.loc (Gn KB KB))) ?_;refine gh ?_;refine CC (α:=Nat×Lc×Value) (λx=>[(1,pB V),(2,pB cb),(5,x.2.2),(55,(.slice C acc.length B)),(56,.int .i64 acc.length),(57,.int .i64 x.1)]) (λ_=>Mv) (λx=>(x.2.1++[(cb,cE (Ct f b c d (pB F) g zI zI (.slice C acc.length B)) Ea),(g,Bi l2),(b4,cE (RX (z:Int) (.slice xa ys.length xc) p) wWk),(V,cE (Qh f b c d l root next (.slice da dead.length Z)) X0)])) (λx=>x.1<=acc.length/\Own x.2.2 x.2.1 3 1 ((root::dead)++(acc.take x.1).map (·.root)).length (Al ((root::dead)++(acc.take x.1).map (·.root)))) (λx=>acc.length-x.1) (0,aX,.slice a2 (1+dead.length) a0) ⟨Nat.zero_le _,a.cast (by simp;omega) (by simp[Al])⟩ ?_;rintro⟨i,R,rv⟩ ⟨hi,a⟩;try dsimp only at hi a⊢
   refine gj (λaT=>?_) λaT=>?_
   ·refine gh ?_;have D:i<acc.length:=by omega
    obtain⟨sb,so,e0,hx⟩:=ak.open (by intro e;have:=congrArg length e;rw[Aj DA 4 (λ_=>rfl),length_nil]at this;omega);subst e0;refine gh ?_;refine lq (A1 (cs:=DA acc[i]) rfl rfl rfl rfl rfl (λj v hv=>(Bs DA 4 (λ_=>rfl) hx (show acc[i]? =some acc[i]by simp[D]) j v hv).cj _)) ?_;refine ga λb7=>?_;refine lh (Ab (cs:=[_]) rfl rfl rfl (by rfl) (by rfl) (by rfl)) ?_;rintro _ _ _ ⟨bo,rfl,rfl,rfl⟩;refine lh (AY (R:=R) (m:=1) rfl rfl rfl rfl a rfl (λi v hv=>CJ.loc (by simpa using hv)) rfl (by rfl) (by simp[Value.oneCell']) (by simp only[List.length_append,length_cons,length_map,List.length_take];omega) (by omega)) ?_;rintro bc _ _ ⟨rfl,R2,rfl,Q,_⟩;obtain⟨a1,az,rfl⟩:=Q.form;refine gh ?_;refine BD (i+1,R2,.slice a1 _ az) ⟨by show i+1<=acc.length;omega,?_⟩ (hs:=λw h=>(h.perm (List.perm_append_comm_assoc R2 [_,_] [_,_,_,_])).fewer (.cons _ (.cons _ (.refl _))));show Own _ _ _ _ ((root::dead)++(acc.take (i+1)).map (·.root)).length (Al ((root::dead)++(acc.take (i+1)).map (·.root)));rw[List.take_succ_eq_append_getElem D,List.map_append,<-append_assoc];grind[Al]
   refine gh ?_;obtain rfl:i=acc.length:=by omega
   rw[List.take_length]at a;obtain⟨rs,o⟩:∃rs,rs=Ec root dead acc:=⟨_,rfl⟩;have a9:rs.length=1+dead.length+acc.length:=by grind[Ec]
   replace a:=a.cast (n':=rs.length) (xs':=Al rs) (by rw[o];rfl) (by rw[o];rfl);refine Hn a (by simp) ?_;intro Mr ra rc T er bg a8;subst er;have aw:=O.trans (ai.trans (U.trans (S.trans T)));have av:=ai.trans (U.trans (S.trans T));refine gh ?_;refine CC (α:=Nat×Mem×List Int×List Int×List (Int×Value)) (λx=>[(1,pB V),(2,pB cb),(67,.slice ra rs.length rc),(68,.int .i64 rs.length),(69,.int .i64 x.1)]) (λx=>x.2.1) (λx=>[(cb,cE (Ct f b c d (pB F) g x.2.2.1 x.2.2.2.1 (.slice C acc.length B)) Ea),(g,Bi x.2.2.2.2),(b4,cE (RX (z:Int) (.slice xa ys.length xc) p) wWk),(V,cE (Qh f b c d l root next (.slice da dead.length Z)) X0)]) (λx=>x.1<=rs.length/\MLe Mr x.2.1/\Cy s rs zI zI=Cy s (rs.drop x.1) x.2.2.1 x.2.2.2.1/\x.2.2.1.length=256/\Few (F0*(rs.length-x.1)) x.2.2.2.1/\MapI x.2.1 s x.2.2.2.2) (λx=>rs.length-x.1) (0,Mr,zI,zI,l2) ⟨Nat.zero_le _,MLe.refl _,rfl,KB,wJn _ (by have hf:F0=1600:=rfl;rw[hf,a9];simp only[Nat.sub_zero];omega),I.mono (U.trans (S.trans T))⟩ ?_;rintro⟨i,Mk,refs,nodes,lk⟩ ⟨hi,k,hI,H,K,X⟩;try dsimp only at hi k hI H K X⊢
   refine gj (λaS=>?_) λaS=>?_
   ·refine gh ?_;have D:i<rs.length:=by omega
    obtain⟨qb,qo,e0,aB⟩:=a8.open (by intro e;have:=congrArg length e;rw[Ay,length_nil]at this;omega);subst e0;refine gh ?_;refine lq (Au rfl rfl rfl rfl (((aB _ (.int .i64 rs[i]) (by rw[Nat.mul_one];simp[Al,D])).mono k).cj _)) ?_;refine gC (wDh s G cb g f b c d (pB F) (.slice C acc.length B) refs nodes H (K.less (by have:F0*1<=F0*(rs.length-i):=Nat.mul_le_mul_left _ (by omega);omega)) rs[i] Mk lk (⟨h3.mono (aw.trans k),N.mono (av.trans k)⟩) X) ?_;rintro _ Mn Rt aL a6;obtain⟨e2,rfl,am⟩:=a6.form;refine gj (λaQ=>?_) λaQ=>?_
    ·refine gr ?_;grind[TakeP,ZS,XZ]
    refine gh ?_;obtain⟨bk,_⟩|⟨_,a7,l3,rfl,aq⟩:=am
    ·omega
    obtain⟨bj,bi⟩:=JK (s:=s) F0 [rs[i]] (inc refs rs[i].toNat) nodes;have bf:=LE a7;refine BD (i+1,Mn,_,_,l3) ⟨by show i+1<=rs.length;omega,k.trans aL,?_,?_,?_,aq⟩
    ·grind [Cy,zI,wDg]
    ·grind [Cb,F0,Dv]
    grind[Few,F0,JM]
   refine gh ?_;refine lq (A1 (cs:=Al refs) rfl rfl rfl rfl (by rw[Ay];exact H) (λj v hv=>CJ.loc (by rw[Pu (i:=j) (by omega),List.getElem?_append_left (List.getElem?_eq_some_iff.1 hv).1];exact hv))) ?_;refine gh ?_;obtain rfl:i=rs.length:=by omega
   rw[List.drop_length]at hI;refine CC (α:=Nat) (λi=>[(1,pB V),(2,pB cb),(83,.agg (Al refs).toArray),(84,.int .i64 i)]) (λ_=>Mk) (λ_=>[(cb,cE (Ct f b c d (pB F) g refs nodes (.slice C acc.length B)) Ea),(g,Bi lk),(b4,cE (RX (z:Int) (.slice xa ys.length xc) p) wWk),(V,cE (Qh f b c d l root next (.slice da dead.length Z)) X0)]) (λi=>i<=256/\∀j,j<i->refs.getD j 0<=((s.now.getD j 0).toNat:Int)) (λi=>256-i) 0 ⟨Nat.zero_le _,λj h=>absurd h (by omega)⟩ ?_;rintro i ⟨hi,hJ⟩;try dsimp only at hi hJ⊢
   have ah:=aw.trans k;refine gj (λaP=>?_) λaP=>?_
   ·refine gh ?_;have D:i<256:=by omega
    refine lq (Yu (v:=.int .i64 (refs.getD i 0)) rfl rfl rfl rfl rfl (by omega) (by rw[Nat.mul_one,Int.toNat_natCast];simp[Al,getD,H,D])) ?_;refine gh ?_;obtain⟨na,nc,rfl,bh,aE⟩:=id h3;obtain⟨nb,no,e0,aD⟩:=aE.open (by intro e;have:=congrArg length e;rw[Ad,length_nil]at this;omega);subst e0;refine gh ?_;refine lq (Au rfl rfl rfl rfl (((aD _ _ (by rw[Nat.mul_one];exact Ca (j:=i) (by omega))).mono ah).cj _)) ?_;refine lq (C7 rfl rfl rfl (by have:=(s.now.getD i 0).toNat_lt;omega)) ?_;refine gj (λaN=>?_) λaN=>?_
    ·refine gr ?_;refine⟨?_,rfl⟩;unfold TakeP;rw[RJ Y J (by rw[Int.toNat_natCast];exact ab) (by rw[<-o,hI];rfl),if_neg (λh=>by have:=h i (by omega);omega)];try rfl
    refine gh ?_;refine BD (i+1) ⟨by omega,λj hj=>?_⟩;grind
   refine gh ?_;refine AF cb (by simp) ?_;intro Mf aM aW;refine gr ?_;refine⟨?_,rfl⟩;unfold TakeP;rw[RJ Y J (by rw[Int.toNat_natCast];exact ab) (by rw[<-o,hI];rfl),if_pos (show enough s refs from λj hj=>hJ j (by omega))];exact⟨cb,f,b,c,d,_,g,C,B,rfl,aW,a5,ak.mono (T.trans (k.trans aM)),H,K.1⟩
  refine gr ?_;grind[EC,wAj,Pv,TakeP,UE]
 refine Bf [4,5] (by kernel_rfl) rfl ⟨?_,?_,trivial⟩
 ·refine sh rfl (hC (LJ s _ M ag (by omega) (by omega))) ?_;rintro v4 M4 _ ⟨E,R4,rfl,L,rfl⟩;refine aG (E) ?_;simp only[nil_append];obtain⟨F,_,_,_,_,rfl,_⟩:=id (L M4 (MLe.refl _) E).ex;refine aO 5 ?_;refine sh rfl (Tj rfl rfl) ?_;rintro _ _ _ ⟨g,rfl,rfl,rfl⟩;refine aG (E) ?_;refine Et (i:=6) rfl (by kernel_rfl) (by kernel_rfl) rfl rfl (BF (cs:=Ct f b c d (pB F) g zI zI (.slice none 0 0)) rfl rfl rfl XB) ?_;refine B3 (listed':=#[true,true,true,true,true,true,true,false,false]) (by kernel_rfl) (BZ (Keep.cons (t:=1) rfl (Keep.cons (t:=29) rfl Keep.nil)) ?_);simp_all [MLe.refl]
 refine sh rfl (Tj rfl rfl) ?_;rintro _ _ _ ⟨g,rfl,rfl,rfl⟩;refine aG (MLe.refl _) ?_;refine aO 4 ?_;refine sh rfl (hC (LJ s _ M ag (by omega) (by omega))) ?_;rintro v4 M4 _ ⟨E,R4,rfl,L,rfl⟩;refine aG (E) ?_;simp only[nil_append];obtain⟨F,_,_,_,_,rfl,_⟩:=id (L M4 (MLe.refl _) E).ex;refine Et (i:=6) rfl (by kernel_rfl) (by kernel_rfl) rfl rfl (BF (cs:=Ct f b c d (pB F) g zI zI (.slice none 0 0)) rfl rfl rfl XB) ?_;refine B3 (listed':=#[true,true,true,true,true,true,true,false,false]) (by kernel_rfl) (BZ (Keep.cons (t:=1) rfl (Keep.cons (t:=29) rfl Keep.nil)) ?_);simp_all [MLe.refl]
structure Po where
 st:Sto
 gen:Int
 root:Int
 next:Int
 dead:List Int
def PT(M:Mem)(v:Value)(p:Po):Prop:=∃bv wv nv lw dv,v=.agg (Qh bv wv nv lw p.gen p.root p.next dv).toArray/\LS M bv p.st.blocks/\WS M wv p.st.waits/\BS M nv p.st.now/\BS M lw p.st.last/\NI M dv p.dead
def AN(p:Po):Int:=match Cc p.st p.root p.next p.dead with
 |none=>8
 |some _=>0
theorem Cz(p:Po)(v:Value)(M:Mem)(h:PT M v p)(a:p.dead.length<=1000000):SpecL prog 19 #[v] M [] λu M' L'=>TakeP p.st p.root p.next p.dead u M'/\L'=[]:=by
 obtain⟨bv,wv,nv,lw,i,rfl,g,f,e,d,da,j,rfl,c,b⟩:=h;grind[wDk,da]
theorem TakeP.form{p:Po}(h:TakeP p.st p.root p.next p.dead u M'):∃a,u=.tuple #[.pointer a,.int .i64 (AN p)]:=by
 grind[TakeP,AN]
theorem FS(p:Po)(v:Value)(M:Mem)(h:PT M v p)(d:p.dead.length<=1000000):
  SpecL prog 79 #[v] M [] λu M' L'=>u=.int .i64 (AN p)/\L'=[]:=by
 have c:=h;obtain⟨_,_,_,_,_,rfl,_⟩:=c;refine sB func79 ntmps79 ?_;intro W;refine ga λf=>?_;refine gc (Cz p _ M h d) ?_;rintro _ g e b;obtain⟨a,rfl⟩:=b.form;refine gr ?_;grind
end Go.Proofs.YtjheijhahehnmaaGreatDoor
