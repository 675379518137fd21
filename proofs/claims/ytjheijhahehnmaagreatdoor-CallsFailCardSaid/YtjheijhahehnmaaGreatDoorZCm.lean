/- Walks: name.inside and Rename. No statement of the seat is proved here. -/
import Derived.Test.YtjheijhahehnmaaGreatDoorZHm
import Derived.Test.YtjheijhahehnmaaGreatDoorZCl
import Derived.MapKept
import Derived.Maps.RangeRun
import Derived.Laws.IdiomRangeMap
namespace Go.Proofs.YtjheijhahehnmaaGreatDoor
open Go.Proofs.Tryz
open List (length_cons length_take length_nil map_append length map_cons)
set_option linter.unusedSimpArgs false
set_option linter.unusedVariables false
set_option linter.unusedSectionVars false
set_option maxHeartbeats 40000000
set_option maxRecDepth 8000
open Go.RowKit Go.Shelf Go.Sort
structure TabsW(w:World):Prop where
 mx:∃m,w.cell? ⟨cutA_ren.g 1,0,none⟩=some (.int .i64 m)
 e1:∃ev,w.cell? ⟨atoiA_ren.g 15,0,none⟩=some ev/\(ev=.nilIface\/∃te pe,ev=.iface te pe)
 e2:∃ev,w.cell? ⟨atoiA_ren.g 16,0,none⟩=some ev/\(ev=.nilIface\/∃te pe,ev=.iface te pe)
 p10 : Lib.TabIs prog w "internal/strconv.uint64pow10" .u64 Lib.pow10Tab
def Tabs(M:Mem):Prop:=∀w:World,(∀b o,M b=some o->w.heap[b]? =some o)->TabsW w
variable{M:Mem}
theorem Tabs.mono{M':Mem}(h:Tabs M)(d:MLe M M'):Tabs M':=λw a=>h w λb o c=>a b o (d b o c)
def UB(l:List By):List By×List By×Bool:=Lib.cut l [47]
theorem PY(l:List By):(AD l).data.toList=l:=by simp[AD]
theorem wAd(l:List By):(AD l).size=l.length:=by simp[AD,ByteArray.size]
theorem SN(l:List By)(M:Mem)(d:Tabs M)(hs:l.length<=1000000):
  SpecL prog 51 #[.string (AD l),.string (AD [47])] M [] λu f g=>(M=f/\u=.tuple #[.string (AD (UB l).1),.string (AD (UB l).2.1),.bool (UB l).2.2])/\g=[]:=by
 intro w a;obtain⟨m,b⟩:=(d w a.agree).mx;have h:=Any.strings_Cut cutA (AD l) (AD [47]) m w (by rw[wAd];omega) b;change Calls prog 51 _ _ _ at h;rw[PY,PY]at h;refine h.mono ?_;rintro e i ⟨rfl,n,rfl⟩;have c:Below w.heap.size w (w.drewN n):=⟨rfl,rfl,rfl,by simp[World.drewN],λj k=>by simp[World.drewN]⟩;exact⟨_,M,_,rfl,⟨⟨rfl,rfl⟩,rfl⟩,St.closed _ _ _ _ _ a c⟩
theorem Yh(l:List By)(M:Mem):
  SpecL prog 50 #[.string (AD l),.string (AD [47])] M [] λu b c=>(M=b/\u=.tuple #[.string (AD (Lib.trimPrefix l [47])),.bool (Lib.hasPrefix l [47])])/\c=[]:=by
 intro w a;have h:=Any.strings_CutPrefix cutpA (AD l) (AD [47]) w;change Calls prog 50 _ _ _ at h;rw[PY,PY]at h;refine h.mono ?_;rintro e d ⟨rfl,rfl⟩;exact⟨_,M,_,rfl,⟨⟨rfl,rfl⟩,rfl⟩,a⟩
theorem wGi(n:Int)(M:Mem)(g:Tabs M)(b: -9223372036854775808<=n/\n<=9223372036854775807):
  SpecL prog 53 #[.int .i64 n] M [] λu _ _=>u=.string (AD (Lib.itoa n)):=by
 intro w a;have h:=Any.strconv_Itoa itoaA n b.1 b.2 w (g w a.agree).p10;change Calls prog 53 _ _ _ at h;refine h.mono ?_;rintro e i ⟨rfl,k,c,rfl⟩;have f:Below w.heap.size w (grow (w.drewN k) c):=⟨rfl,rfl,rfl,by simp[grow,World.drewN],λj d=>by simp[grow,World.drewN,Array.getElem?_append_left d]⟩;exact⟨_,M,[],rfl,rfl,St.closed _ _ _ _ _ a f⟩
def T6(s:List By):Option Int:=match Lib.atoiAll s with
 |.ok v=>some v
 |_=>none
def NumR(r:Option Int)(u:Value):Prop:=(∃v,r=some v/\u=.tuple #[.int .i64 v,.nilIface])\/(r=none/\∃v t a,u=.tuple #[.int .i64 v,.iface t a])
theorem wJe(l:List By)(M:Mem)(k:Tabs M)(hs:l.length<=1000000):
  SpecL prog 52 #[.string (AD l)] M [] λu o m=>NumR (T6 l) u/\m=[]:=by
 intro w a;have d:=PY l;have n:(AD l).size<=1000000:=by rw[wAd];exact hs
 rcases b:Lib.atoiAll l with v|_|_
 ·have h:=Any.strconv_Atoi_ok wRs (AD l) (by omega) v (by rw[d];exact b) w;change Calls prog 52 _ _ _ at h;refine h.mono ?_;rintro e j ⟨rfl,c⟩;refine⟨_,M,[],rfl,⟨.inl ⟨v,by unfold T6;rw[b],rfl⟩,rfl⟩,?_⟩;rcases c with rfl|⟨t,rfl⟩
  ·exact a
  exact St.closed _ _ _ _ _ a (Lib.bytesWorld_below w _ t)
 ·obtain ⟨ev,i,g⟩:=(k w a.agree).e1;have h:=Any.strconv_Atoi_syntax wRs (AD l) (by omega) (by rw[d];exact b) ev w i g;change Calls prog 52 _ _ _ at h;refine h.mono ?_;rintro e j ⟨N,rfl,_,_,f⟩;exact⟨_,M,[],rfl,⟨.inr ⟨by unfold T6;rw[b],_,_,_,rfl⟩,rfl⟩,St.closed _ _ _ _ _ a f⟩
 obtain⟨ev,i,g⟩:=(k w a.agree).e2;have h:=Any.strconv_Atoi_range wRs (AD l) (by omega) (by rw[d];exact b) ev w i g;change Calls prog 52 _ _ _ at h;refine h.mono ?_;rintro e j ⟨N,rfl,_,_,f⟩;exact⟨_,M,[],rfl,⟨.inr ⟨by unfold T6;rw[b],_,_,_,rfl⟩,rfl⟩,St.closed _ _ _ _ _ a f⟩
variable{l:List By}
theorem wUf{v:Int}(h:T6 l=some v): -9223372036854775808<=v/\v<=9223372036854775807:=by
 unfold T6 at h;rcases a:Lib.atoiAll l with x|_|_<;>rw[a]at h<;>cases h;exact Lib.atoiAll_bounds a
theorem QT{v:Int}(c:0<=v)(h:(Lib.itoa v).length<=9):v<1000000000:=by
 have e:Lib.itoa v=Lib.decDigits v.toNat:=by unfold Lib.itoa;rw[if_neg (by omega)]
 rw[e,Lib.decDigits_length]at h;have b:=Lib.lt_pow_nDigits v.toNat;have a:10 ^ Lib.nDigits v.toNat<=10 ^ 9:=Nat.pow_le_pow_right (by decide) h;omega
theorem wQo(h:(UB l).2.2=true):(UB l).2.1.length+1<=l.length/\(UB l).1.length<=l.length:=by
 unfold UB Lib.cut at h⊢;split at h
 ·rename_i c;rw[if_pos c];have e:Lib.index l [47]<=l.length:=Lib.index_le l [47];by_cases a:Lib.index l [47]=l.length
  ·exfalso;rw[Lib.index_one]at a;have:∀l:List By,Lib.indexByte l 47≠l.length:=λl=>by
    induction l with
    |nil=>decide
    |cons b l d=>
     unfold Lib.indexByte
     split
     ·simp only[length_cons];omega
     simp only[length_cons];split<;>omega
   exact this l a
  simp only[List.length_drop,length_take,length_cons,length_nil];omega
 cases h
theorem wCh(l:List By):(UB l).1.length<=l.length/\(UB l).2.1.length<=l.length:=by
 unfold UB Lib.cut;split
 ·simp only[List.length_drop,length_take];omega
 simp
def SP:Nat->Bool->List By->Option (List (List By))
 |_,false,_=>some []
 |0,true,_=>none
 |k+1,true,r=>if wSf (UB r).1=0 then (SP k (UB r).2.2 (UB r).2.1).map ((UB r).1::·)else none
def WL(c:List By×List By×Bool):Option (Int×List (List By)):=match T6 c.1 with
 |some v=>if 0<=v/\c.1.length<=9/\Lib.itoa v=c.1 then (SP 65 c.2.2 c.2.1).map (v,·)else none
 |none=>none
def DY(s:List By):Option (Int×List (List By)):=if Lib.hasPrefix s [47]=true/\s.length<=64 then WL (UB (Lib.trimPrefix s [47]))else none
abbrev Lt(l:List (List By)):List Value:=l.map λs=>.string (AD s)
def PtR(r:Option (Int×List (List By)))(u:Value)(M':Mem):Prop:=∃v l a c e,u=.tuple #[.int .u32 v,.slice a l.length c,.int .i64 e]/\u32 v/\l.length<=c/\l.length<=65/\SM M' a (Lt l)/\(e≠0->l=[])/\Rs r e ((v,l)=·)
variable{e:Int}
theorem PtR.no{r:Option (Int×List (List By))}(h:e≠0)(a:r=none):PtR r (.tuple #[.int .u32 0,.slice none 0 0,.int .i64 e]) M:=⟨0,[],none,0,e,rfl,HX,Nat.le_refl _,Nat.zero_le _,SM.nil,λ_=>rfl,.no h a⟩
structure PtS where
 l:List (List By)
 r:List By
 b:Bool
 k:Nat
 v:Value
 R:Lc
 M:Mem
section
variable{P:Program}{ops:Array Oper}{N:Fs}{F:Fr}{E:Ent}{M:Mem}{L:Lc}{o:Oper}
theorem wYs{x:Operand}{t a:TypeId}(e:gd ops F o=some true)(d:o.op=.binOp .neq t x (.const .nilIface) a)(b:ev F x=some .nilIface)(c:P.underlying t=some (.interface (P.methodsAt t))):QF P ops N F M L o (.bool false):=Bv e λg f w _=>by
 have:=run_neq_nil_nil (P:=P) w t c
 simp only[execOp,d,f.ev b,show g.eval (.const .nilIface)=.nilIface from rfl]
 simp[eqGuard,this]
theorem wYt{x:Operand}{t a u:TypeId}{p:Value}(e:gd ops F o=some true)(d:o.op=.binOp .neq t x (.const .nilIface) a)(b:ev F x=some (.iface u p))(c:P.underlying t=some (.interface (P.methodsAt t))):QF P ops N F M L o (.bool true):=Bv e λg f w _=>by
 have:=run_neq_held_nil (P:=P) w t u p c
 simp only[execOp,d,f.ev b,show g.eval (.const .nilIface)=.nilIface from rfl]
 simp[eqGuard,this]
theorem wYo{x y:Operand}{t d:TypeId}{a b:List By}(h:gd ops F o=some true)(g:o.op=.binOp .neq t x y d)(f:ev F x=some (.string (AD a)))(e:ev F y=some (.string (AD b)))[i:Und P t .string]:QF P ops N F M L o (.bool (decide (a≠b))):=Bh (v:=.bool (!decide (a=b))) (Bv h λj c w _=>by
 have:(binOp .neq t (.string (AD a)) (.string (AD b))).run P w=.ok (.bool (!decide (a=b))) w:=by rw[show decide (a=b)=decide (AD a=AD b)by simp[Vt]];simp[binOp,Op.stringOp,<-PU]
 simp only[execOp,g,c.ev f,c.ev e]
 simp[eqGuard,this]) (by simp)
end
theorem GJ(s:List By)(M:Mem)(E:Tabs M)(hs:s.length<=1000000):SpecL prog 25 #[.string (AD s)] M [] λu M' L'=>PtR (DY s) u M'/\L'=[]:=by
 refine sB func25 ntmps25 ?_;intro W;refine gc (Yh s M) ?_;rintro _ _ _ ⟨rfl,rfl⟩;have H:(Lib.trimPrefix s [47]).length<=s.length:=by unfold Lib.trimPrefix;split<;>simp
 unfold DY;generalize Lib.trimPrefix s [47]=F at H⊢;cases T:Lib.hasPrefix s [47]with
 |false=>
  refine gr ?_
  exact⟨.no (by decide) (if_neg λk=>by cases k.1),rfl⟩
 |true=>
 refine gg ?_;refine lq (SR rfl rfl rfl) ?_;refine gj (λO=>?_) λO=>?_
 ·refine gr ?_;exact⟨.no (by decide) (if_neg λk=>by omega),rfl⟩
 rw[if_pos ⟨rfl,by omega⟩];refine gc (SN F M E (by omega)) ?_;rintro _ _ _ ⟨rfl,rfl⟩;have d:=wCh F;generalize UB F=c at d⊢;obtain⟨c1,V,U⟩:=c;dsimp only at d⊢;unfold WL;dsimp only;refine gc (wJe c1 M E (by omega)) ?_;rintro _ S B y;rcases y with⟨v,C,rfl⟩|⟨C,v,t,ad,rfl⟩;rotate_left
 ·refine gg ?_;refine lq (wYt rfl rfl rfl (by kernel_rfl)) ?_;refine gr ?_;exact⟨.no (by decide) (by rw[C]),rfl⟩
 have G:=wUf C;rw[C];dsimp only;refine gg ?_;refine lq (wYs rfl rfl rfl (by kernel_rfl)) ?_;refine gj (λN=>?_) λN=>?_
 ·refine gr ?_;exact⟨.no (by decide) (if_neg λk=>by omega),rfl⟩
 refine gg ?_;refine lq (SR rfl rfl rfl) ?_;refine gj (λL=>?_) λL=>?_
 ·refine gr ?_;exact⟨.no (by decide) (if_neg λk=>by omega),rfl⟩
 refine gQ (wGi v S (E.mono B) G) ?_;refine BP rfl rfl (wYo rfl rfl rfl rfl) (λa=>?_) (λa=>?_)
 ·refine gr ?_;exact⟨.no (by decide) (if_neg λk=>of_decide_eq_true a k.2.2),rfl⟩
 have a:=Classical.not_not.1 (of_decide_eq_false a);rw[if_pos ⟨by omega,by omega,a⟩];have aa:v<1000000000:=QT (by omega) (by rw[a];omega);refine gh ?_;refine CC (α:=PtS) (λz=>[(3,z.v),(5,.string (AD z.r)),(8,.bool z.b),(9,.int .i64 v)]) (λz=>z.M) (λz=>z.R) (λz=>SP 65 U V=(SP z.k z.b z.r).map (z.l++·)/\(z.b=true->z.r.length<z.k)/\z.r.length<=64/\z.l.length+z.k=65/\Own z.v z.R 9 1 z.l.length (Lt z.l)/\MLe S z.M) (λz=>z.k+(if z.b then 1 else 0)) ⟨[],V,U,65,.slice none 0 0,[],S⟩ ⟨by simp,λ_=>by dsimp only;omega,by dsimp only;omega,by simp,Own.nil _ _,MLe.refl _⟩ ?_;rintro⟨l,r,b,k,sv,R,Q⟩ ⟨e,f,o,J,D,j⟩;try dsimp only at e f o J D j⊢
 obtain⟨Z,Y,rfl⟩:=D.form;cases b with
 |true=>
  have f:=f rfl
  obtain⟨k,rfl⟩:∃k',k=k'+1:=⟨k-1,by omega⟩
  refine gc (SN r Q (E.mono (B.trans j)) (by omega)) ?_;rintro _ _ _ ⟨rfl,rfl⟩
  have d:=wCh r
  have g:=wQo (l:=r)
  rw[SP]at e
  generalize UB r=c at e d g⊢
  obtain⟨P,d2,d3⟩:=c
  dsimp only at e d g⊢
  refine gQ (MI P Q) ?_
  refine gj (λn=>?_) λn=>?_
  ·refine gr ?_
   exact⟨.no (by decide) (by rw[e,if_neg n];rfl),rfl⟩
  rw[if_pos (Classical.not_not.1 n)]at e
  refine gg ?_
  refine lh (Ab (cs:=[_]) rfl rfl rfl (by rfl) (by rfl) (by rfl)) ?_;rintro _ _ _ ⟨ac,rfl,rfl,rfl⟩
  refine gh ?_
  refine lh (AY (R:=R) (m:=1) (news:=[.string (AD P)]) rfl rfl rfl rfl D rfl (λi v h=>CJ.loc (by simpa using h)) rfl rfl (by simp[Value.oneCell']) (by omega) (by decide)) ?_;rintro X _ _ ⟨rfl,S2,rfl,w,_⟩
  refine gh ?_
  refine BD ⟨l++[P],d2,d3,k,X,S2,Q⟩ ⟨by rw[e,Option.map_map];congr 1;funext x;simp,λh3=>by have:=g h3;dsimp only;omega,by dsimp only;omega,by simp;omega,by dsimp only;rw[List.length_append];unfold Lt at w ⊢;rw[map_append];exact w,j⟩ (by dsimp only;split<;>simp<;>omega)
 |false=>
  refine gg ?_
  refine lq (ED rfl rfl rfl (by rw[IntKind.wrap_u32];omega)) ?_
  refine gg ?_
  refine BK D (by simp) ?_
  intro M4 a4 c4 ab e4 K I;cases e4
  refine gr ?_
  exact⟨⟨v,l,Z,Y,0,rfl,by unfold u32;omega,K,by omega,I,λk=>absurd rfl k,.yes _ (by rw[e,SP];simp) rfl⟩,rfl⟩
structure WkS where
 k:Nat
 y:Ino
 e:Int
 M:Mem
theorem InR.no{r:Option Ino}(h:e≠0)(a:r=none):InR r (.tuple #[.agg (Sa ⟨0,false,0,0⟩).toArray,.int .i64 e]):=⟨_,e,rfl,.no h a⟩
variable{z:Ino}
theorem Nr{p:Po}{v i:Int}(h:De p v i=some z):u32 z.id:=by
 have:=GR (L5 h).1;unfold u32;omega
theorem Vd(p:Po)(x:V5)(M:Mem)(h:PW M x p)(v:Int)(l:List (List By))(a:Option Addr)(c:Nat)(hs:SM M a (Lt l))(hn:l.length<=1000):SpecL prog 116 #[DH p x,.int .u32 v,.slice a l.length c] M [] λu M' L'=>InR (Fa p v l) u/\L'=[]:=by
 refine sB func116 ntmps116 ?_;intro W;refine Mo λX V=>?_;refine gc (Dx p x M h.pt h.dead v) ?_;rintro _ M1 w rfl;refine gj (λo=>?_) λo=>?_
 ·refine gr ?_;exact⟨.no o (if_neg o),rfl⟩
 have J:Fa p v l=l.foldl (Vf p v) (De p v 1):=if_pos (Classical.not_not.1 o);refine gc (EG p x M1 (h.mono w) v 1) ?_;rintro _ Z E ⟨y0,P,rfl,C⟩;have T:=h.mono (w.trans E);refine gg ?_;refine CC (α:=WkS) (λz=>[(1,.int .u32 v),(3,pB X),(6,pB V),(7,.int .i64 z.e),(25,.slice a l.length c),(26,.int .i64 l.length),(27,.int .i64 z.k)]) (λz=>z.M) (λz=>[(V,cE (Sa z.y) 43),GG X x p.gen p.root p.next]) (λz=>z.k<=l.length/\Rs ((l.take z.k).foldl (Vf p v) (De p v 1)) z.e (z.y=·)/\(z.e=0->u32 z.y.id)/\MLe Z z.M) (λz=>l.length-z.k) ⟨0,y0,P,Z⟩ ⟨Nat.zero_le _,C,λk=>by obtain⟨_,_,I,rfl⟩:=C.val (λj=>j k);exact Nr I,MLe.refl _⟩ ?_;rintro⟨k,⟨z1,zd,H,G⟩,e,Mk⟩ ⟨hk,F,Q,b⟩;try dsimp only at hk F Q b⊢
 refine gj (λO=>?_) λO=>?_
 ·have g:k<l.length:=by omega
  have K:=hs.mono ((w.trans E).trans b);obtain⟨sb,so,e1,hx⟩:=K.open (by intro e;have:=congrArg length e;rw[List.length_map,length_nil]at this;omega);cases e1;refine gg ?_;refine lq (Au rfl rfl rfl rfl ((hx _ (.string (AD l[k])) (by rw[Nat.mul_one];simp[g])).cj _)) ?_;refine gj (λm=>?_) λm=>?_
  ·refine gr ?_;exact⟨.no m (by rw[J];exact Fj (λ_=>rfl) g (by rw[F.err m];rfl)),rfl⟩
  obtain⟨P,_,S,rfl⟩:=F.val m;have D:(l.take (k+1)).foldl (Vf p v) (De p v 1)=Vf p v (some ⟨z1,zd,H,G⟩) l[k]:=by rw[E4 g,S]
  cases zd with
  |false=>
   refine gg ?_
   refine lq (Au rfl rfl rfl rfl (CJ.loc rfl)) ?_
   refine gr ?_
   exact⟨.no (by decide) (by rw[J];exact Fj (λ_=>rfl) g (by rw[S];rfl)),rfl⟩
  |true=>
   refine gg ?_
   refine lq (Au rfl rfl rfl rfl (CJ.loc rfl)) ?_
   refine gc (RB p x Mk (T.mono b) v z1 (Q P) l[k]) ?_;rintro _ Y s ⟨n,e2,rfl,R⟩
   refine gj (λf=>?_) λf=>?_
   ·obtain ⟨_,_,L,rfl⟩:=R.val (λj=>j f)
    refine gc (EG p x Y (T.mono (b.trans s)) v n) ?_;rintro _ M4 N ⟨y2,U,rfl,d⟩
    refine gh ?_
    refine BD ⟨k+1,y2,U,M4⟩ ⟨by show k+1<=l.length;omega,by rw[D];show Rs ((LN p v z1 l[k]).bind λi=>De p v i) U _;rw[L];exact d,λk=>by obtain⟨_,_,I,rfl⟩:=d.val (λj=>j k);exact Nr I,(b.trans s).trans N⟩
   refine gh ?_
   refine BD ⟨k+1,⟨z1,true,H,G⟩,e2,Y⟩ ⟨by show k+1<=l.length;omega,by rw[D];exact .no f (by show ((LN p v z1 l[k]).bind λi=>De p v i)=none;rw[R.err f];rfl),λk=>absurd k f,b.trans s⟩
 have d:Rs (Fa p v l) e (Ino.mk z1 zd H G=·):=by rw[J,Hu (k:=k) (by omega) rfl];exact F
 refine gj (λB=>?_) λB=>?_
 ·refine gr ?_;exact⟨.no B (d.err B),rfl⟩
 refine gr ?_;exact⟨⟨_,e,rfl,d⟩,rfl⟩
def Eb(p:Po)(s:List By):Option (Int×Ino):=(DY s).bind λc=>(Fa p c.1 c.2).map (c.1,·)
def WaR(r:Option (Int×Ino))(u:Value):Prop:=∃v i y e,u=.tuple #[Gs v i,.agg (Sa y).toArray,.int .i64 e]/\u32 v/\u32 i/\Rs r e λc=>c=(v,y)/\i=y.id
theorem WaR.no{r:Option (Int×Ino)}(h:e≠0)(a:r=none):WaR r (.tuple #[Gs 0 0,.agg (Sa ⟨0,false,0,0⟩).toArray,.int .i64 e]):=⟨0,0,_,e,rfl,HX,HX,.no h a⟩
theorem TJ{p:Po}{v:Int}{l:List (List By)}(h:Fa p v l=some z):∃i,De p v i=some z:=by
 unfold Fa at h;split at h
 ·have:∀(l:List (List By))(a:Option Ino),(∀z,a=some z->∃i,De p v i=some z)->∀z,l.foldl (Vf p v) a=some z->∃i,De p v i=some z:=λl=>by
   induction l with
   |nil=>intro a d z b;exact d z b
   |cons s l e=>
    intro a d z b
    refine e (Vf p v a s) (λz b=>?_) z b
    unfold Vf at b
    obtain⟨w,_,c⟩:=Option.bind_eq_some_iff.1 b
    split at c
    ·obtain ⟨i,_,f⟩:=Option.bind_eq_some_iff.1 c
     exact⟨i,f⟩
    cases c
  exact this l _ (λz b=>⟨1,b⟩) z h
 cases h
theorem Dg(p:Po)(x:V5)(M:Mem)(h:PW M x p)(s:List By)(C:Tabs M)(hs:s.length<=1000000):SpecL prog 65 #[DH p x,.string (AD s)] M [] λu P G=>WaR (Eb p s) u/\G=[]:=by
 refine sB func65 ntmps65 ?_;intro W;refine Zh λN L E=>?_;refine gc (GJ s M C hs) ?_;rintro _ F k ⟨v,l,a,c,e,rfl,w,J,H,g,I,o⟩;refine gj (λd=>?_) λd=>?_
 ·obtain ⟨_,_,z,rfl⟩:=o.val (λj=>j d);have f:Eb p s=(Fa p v l).map (v,·):=by unfold Eb;rw[z];rfl
  refine gc (Vd p x F (h.mono k) v l a c g (by omega)) ?_;rintro _ O D ⟨y,K,rfl,n⟩;refine gj (λb=>?_) λb=>?_
  ·refine gr ?_;exact⟨.no b (by rw[f,n.err b];rfl),rfl⟩
  obtain⟨_,_,m,rfl⟩:=n.val b;refine gg ?_;refine D7 [0,1,2,3,4,105,106,7] [(E,cE (Sa y) 43)] ?_;refine gg ?_;refine gr ?_;exact⟨⟨v,y.id,y,0,rfl,w,by obtain⟨i,B⟩:=TJ m;exact Nr B,.yes _ (by rw[f,m];rfl) ⟨rfl,rfl⟩⟩,rfl⟩
 refine gj (λb=>?_) λb=>?_
 ·refine gr ?_;exact⟨.no b (by unfold Eb;rw[o.err b];rfl),rfl⟩
 exact absurd (Classical.not_not.1 b) d
def Bm(p:Po)(s:List By):Option (Int×Int×List By):=(DY s).bind λc=>if c.2=[]then none else (Fa p c.1 c.2.dropLast).bind λy=>if y.dir then some (c.1,y.id,c.2.getLastD [])else none
def PaR(r:Option (Int×Int×List By))(u:Value):Prop:=∃v i s e,u=.tuple #[Gs v i,.string (AD s),.int .i64 e]/\u32 v/\u32 i/\(e≠0->s=[])/\Rs r e ((v,i,s)=·)
theorem PaR.no{r:Option (Int×Int×List By)}(h:e≠0)(a:r=none):PaR r (.tuple #[Gs 0 0,.string (AD []),.int .i64 e]):=⟨0,0,[],e,rfl,HX,HX,λ_=>rfl,.no h a⟩
theorem Ds(p:Po)(x:V5)(M:Mem)(h:PW M x p)(s:List By)(Y:Tabs M)(hs:s.length<=1000000):SpecL prog 62 #[DH p x,.string (AD s)] M [] λu P L'=>PaR (Bm p s) u/\L'=[]:=by
 refine sB func62 ntmps62 ?_;intro W;refine Mo λb2 b4=>?_;refine gc (GJ s M Y hs) ?_;rintro _ M1 I ⟨v,l,a,c,e,rfl,U,hc,hl,m,he,N⟩;refine gj (λf=>?_) λf=>?_
 ·refine gr ?_;exact⟨.no f (by unfold Bm;rw[N.err f];rfl),rfl⟩
 obtain⟨_,_,V,rfl⟩:=N.val f;have b:Bm p s=if l=[]then none else (Fa p v l.dropLast).bind λy=>if y.dir then some (v,y.id,l.getLastD [])else none:=by unfold Bm;rw[V];rfl
 refine gj (λJ=>?_) λJ=>?_
 ·have g:l=[]:=List.length_eq_zero_iff.1 (by omega);refine gr ?_;exact⟨.no (by decide) (by rw[b,if_pos g]),rfl⟩
 obtain⟨n,w⟩:∃n,l.length=n+1:=⟨l.length-1,by omega⟩;have g:l≠[]:=by rintro rfl;simp at w
 rw[if_neg g]at b;have G:l.dropLast=l.take n:=by rw[List.dropLast_eq_take,w];rfl
 have F:(l.take n).length=n:=by rw[length_take];omega
 have E:l.getLastD []=l[n]:=by
  rw[List.getLastD_eq_getLast?,List.getLast?_eq_getElem?,show l.length-1=n by omega];simp[w]
 rw[show (l.length:Int)-1=n by omega];refine gh ?_;refine AV [GG b2 x p.gen p.root p.next] (by kernel_rfl) (by simp) ?_;refine gk [0,1,2,3] ?_;refine Et (i:=4) rfl (by kernel_rfl) (by kernel_rfl) rfl rfl (Bh (CL rfl rfl rfl (.no _) (.of (v:=n) rfl (by omega) rfl) (.no _) (by omega) (by simp)) (v':=.slice a (l.take n).length c) (by rw[AU,F];rfl)) ?_;refine wNk 5 9 [6,7,8] [110,11] (λP O=>Vd p x P (h.mono (I.trans O)) v (l.take n) a c (by have:=(m.mono O).take n;unfold Lt at this ⊢;rw[List.map_take];exact this) (by omega)) ?_;rintro _ M2 H ⟨y,e,rfl,C⟩;rw[<-G]at C;obtain⟨z,Q,S,R⟩:=y;refine gz λK=>?_;refine gg ?_;have D:e≠0->Bm p s=none:=λk=>by rw[b,C.err k];rfl
 by_cases d:e=0
 ·subst d;obtain⟨_,_,L,rfl⟩:=C.val (λj=>j rfl);have B:u32 z:=by obtain⟨i,X⟩:=TJ L;exact Nr X
  rw[L,Option.bind_some]at b;cases Q with
  |false=>
   refine gr ?_
   exact⟨.no (by decide) (by rw[b];rfl),rfl⟩
  |true=>
   refine gh ?_
   obtain⟨sb,so,Z,T⟩:=(m.mono H).open (by intro e;have:=congrArg length e;rw[List.length_map,length_nil]at this;omega)
   cases Z
   refine D7 [0,1,2,3,4,5,6,7,108,9,10] [(K,cE (Sa ⟨z,true,S,R⟩) 43)] ?_
   refine gg ?_
   refine dq rfl (Au rfl rfl rfl rfl (by rw[Int.toNat_natCast,Nat.mul_one];exact(T n (.string (AD l[n])) (by simp[w])).cj _)) ?_
   refine gg ?_
   refine gr ?_
   exact⟨⟨v,z,l[n],0,rfl,U,B,λk=>absurd rfl k,.yes _ (by rw[b,E];rfl) rfl⟩,rfl⟩
 refine gj (λh=>absurd h d) λ_=>?_;refine gj (λo=>?_) λo=>?_
 ·refine gr ?_;exact⟨.no d (D d),rfl⟩
 exact absurd d o
section
open Go.MapKept
section
variable{κ α β:Type}[DecidableEq κ]
def E3(k:κ):List (κ×α)->Option α
 |[]=>none
 |p::l=>if k=p.1 then some p.2 else E3 k l
def LF(k:κ)(v:α):List (κ×α)->List (κ×α)
 |[]=>[(k,v)]
 |p::l=>if k=p.1 then (k,v)::l else p::LF k v l
abbrev LQ(l:List (κ×α)):List κ:=l.map (·.1)
theorem getA_none{k:κ}:∀{l:List (κ×α)},E3 k l=none↔k∉LQ l
 |[]=>by simp[E3]
 |p::l=>by
  rw[E3];by_cases h:k=p.1
  ·simp [h]
  rw[if_neg h,getA_none (l:=l)];simp[h]
theorem Un{k:κ}{v:α}:∀{l:List (κ×α)},(LQ l).Nodup->(k,v)∈l->E3 k l=some v
 |p::l,a,h=>by
  simp only[LQ,map_cons,List.nodup_cons]at a;rw[E3];rcases List.mem_cons.1 h with rfl|h
  ·rw [if_pos rfl]
  have:k≠p.1:=λe=>a.1 (by rw[<-e];exact List.mem_map.2 ⟨_,h,rfl⟩);rw[if_neg this];exact Un a.2 h
theorem Q5{k:κ}{v:α}:∀{l:List (κ×α)},E3 k l=some v->∃A B,l=A++(k,v)::B/\k∉LQ A
 |[],h=>by cases h
 |p::l,h=>by
  rw[E3]at h;split at h
  ·rename_i e;cases h;exact⟨[],l,by rw[e];rfl,by simp⟩
  rename_i e;obtain⟨A,B,rfl,a⟩:=Q5 h;exact⟨p::A,B,rfl,by simp[e];simpa using a⟩
theorem V6{k:κ}{u v:α}:∀{A B:List (κ×α)},k∉LQ A->LF k v (A++(k,u)::B)=A++(k,v)::B
 |[],B,_=>by simp[LF]
 |p::A,B,h=>by
  simp only[map_cons,List.mem_cons,not_or]at h;rw[List.cons_append,LF,if_neg h.1,V6 h.2];rfl
theorem V4{k:κ}{v:α}:∀{l:List (κ×α)},k∉LQ l->LF k v l=l++[(k,v)]
 |[],_=>rfl
 |p::l,h=>by
  simp only[map_cons,List.mem_cons,not_or]at h;rw[LF,if_neg h.1,V4 h.2];rfl
theorem W3{k x:κ}{v:α}:∀{l:List (κ×α)},E3 x (LF k v l)=if x=k then some v else E3 x l
 |[]=>by simp[LF,E3]
 |p::l=>by
  rw[LF];by_cases h:k=p.1
  ·rw [if_pos h,E3,E3];by_cases a:x=k
   ·simp [a]
   simp[a,<-h]
  rw[if_neg h,E3,E3,W3];by_cases a:x=p.1
  ·rw [if_pos a,if_pos a,if_neg (λe=>h (by rw[<-e,a]))]
  rw[if_neg a,if_neg a]
end
structure KT(κ:Type) where
 K:κ->Value
 d:TypeDesc
 ok:∀a,IsKey d (K a)
 inj:∀a b,K a=K b->a=b
abbrev kU:KT Int:={ K:=λn=>.int .u32 n,d:=.int .u32,ok:=λ_=>rfl,inj:=λa b h=>by simpa using h }
variable{κ:Type}
def GY(T:KT κ)(l:List (κ×Value)):List (Value×Value):=l.map λp=>(T.K p.1,p.2)
abbrev kv(e:MapEntry):Value×Value:=(e.key,e.val)
def MapOf(T:KT κ)(o:Obj)(l:List (κ×Value)):Prop:=∃es clock,o=.map es clock/\Stamped es clock/\(∀x∈es.toList,IsKey T.d x.key)/\(es.toList.map kv).Perm (GY T l)
variable{T:KT κ}
theorem MapOf.empty:MapOf T (.map #[] 0) []:=⟨#[],0,rfl,stamped_empty _,by simp,by simp[GY]⟩
variable{clock:Nat}{es:Array MapEntry}{l:List (κ×Value)}
theorem KW(hs:Stamped es clock)(c:(es.toList.map kv).Perm (GY T l)):(LQ l).Nodup:=by
 have b:((es.toList.map kv).map (·.1)).Perm ((GY T l).map (·.1)):=c.map _;simp only[List.map_map]at b;have d:(es.toList.map ((·.1)∘kv)).Nodup:=hs.2.2;have a:=b.nodup_iff.1 d;have e:(GY T l).map (·.1)=(LQ l).map T.K:=by simp[GY]
 rw[e]at a;exact(List.pairwise_map.1 a).imp λh e=>h (by rw[e])
theorem Xi[DecidableEq κ](hs:Stamped es clock)(hk:∀x∈es.toList,IsKey T.d x.key)(f:(es.toList.map kv).Perm (GY T l))(k:κ):
  (Instr.findNow T.d (T.K k) es.toList 0=some none/\E3 k l=none/\∀x∈es.toList,x.key≠T.K k)\/∃j e,Instr.findNow T.d (T.K k) es.toList 0=some (some (j,e.val))/\es.toList[j]? =some e/\e.key=T.K k/\E3 k l=some e.val:=by
 rcases findNow_spec (T.ok k) es.toList 0 hk with⟨h,b⟩|⟨j,e,h,b,i⟩
 ·refine .inl ⟨h,getA_none.2 λg=>?_,b⟩;obtain⟨p,a,rfl⟩:=List.mem_map.1 g;have:(T.K p.1,p.2)∈es.toList.map kv:=f.mem_iff.2 (List.mem_map.2 ⟨p,a,rfl⟩);obtain⟨x,m,c⟩:=List.mem_map.1 this;exact b x m (congrArg Prod.fst c)
 refine .inr ⟨j,e,by simpa using h,b,i,?_⟩;have g:kv e∈GY T l:=f.mem_iff.1 (List.mem_map.2 ⟨e,List.mem_of_getElem? b,rfl⟩);obtain⟨p,a,c⟩:=List.mem_map.1 g;have s:T.K p.1=T.K k:=(congrArg Prod.fst c).trans i;have o:p.2=e.val:=congrArg Prod.snd c;have n:=T.inj _ _ s;refine Un (KW hs f) ?_;rw[<-n,<-o];exact a
variable{k:κ}
theorem Wb[DecidableEq κ]{es a:List MapEntry}{v:Value}(s:(LQ l).Nodup)(c:(es.map kv).Perm (GY T l))
  (h:(E3 k l=none/\a.map kv=es.map kv++[(T.K k,v)])\/∃(j:Nat)(e:MapEntry),es[j]? =some e/\e.key=T.K k/\a.map kv=(es.map kv).set j (T.K k,v)):(a.map kv).Perm (GY T (LF k v l)):=by
 rcases h with⟨b,i⟩|⟨j,e,b,i,D⟩
 ·rw [i,V4 (getA_none.1 b)];simp only[GY,map_append,map_cons,List.map_nil];exact c.append_right _
 have w:j<(es.map kv).length:=by simpa using (List.getElem?_eq_some_iff.1 b).1
 have u:kv e∈GY T l:=c.mem_iff.1 (List.mem_map.2 ⟨e,List.mem_of_getElem? b,rfl⟩);obtain⟨p,d,m⟩:=List.mem_map.1 u;have n:p.1=k:=T.inj _ _ ((congrArg Prod.fst m).trans i);obtain⟨o,p2⟩:=p;simp only at n;subst n;obtain⟨A,B,F,y⟩:=Q5 (Un s d);rw[F]at c⊢;rw[V6 y,D,List.set_eq_take_append_cons_drop,if_pos w];have E:es.map kv=(es.map kv).take j++kv e::(es.map kv).drop (j+1):=by
  have f:(es.map kv)[j]=kv e:=by
   have:=(List.getElem?_eq_some_iff.1 b).2;simp[this]
  rw[<-f,List.getElem_cons_drop,List.take_append_drop]
 have g:(T.K o,p2)=kv e:=m;have C:((es.map kv).take j++kv e::(es.map kv).drop (j+1)).Perm (GY T A++kv e::GY T B):=by
  rw[<-E];refine c.trans ?_;simp only[GY,map_append,map_cons,g];exact List.Perm.refl _
 have z:((es.map kv).take j++(es.map kv).drop (j+1)).Perm (GY T A++GY T B):=(List.perm_middle.symm.trans (C.trans List.perm_middle)).cons_inv;refine List.perm_middle.trans ((List.Perm.cons _ z).trans ?_);simp only[GY,map_append,map_cons];exact List.perm_middle.symm
variable{e:MapEntry}{f:MapEntry->MapEntry}{j:Nat}
theorem YL(h:es[j]? =some e):(es.modify j f).toList.map kv=(es.toList.map kv).set j (kv (f e)):=by
 apply List.ext_getElem?;intro i;rw[List.getElem?_set];simp only[List.getElem?_map,Array.getElem?_toList,Array.getElem?_modify];by_cases a:j=i
 ·subst a;obtain⟨c,b⟩:=Array.getElem?_eq_some_iff.1 h;simp[c,b]
 simp[a]
theorem MapOf.lay[DecidableEq κ]{v:Value}(hs:Stamped es clock)(hk:∀x∈es.toList,IsKey T.d x.key)(c:(es.toList.map kv).Perm (GY T l))(b:E3 k l=none)(e:∀x∈es.toList,x.key≠T.K k):
  MapOf T (.map (es.push { key:=T.K k,val:=v,born:=clock }) (clock+1)) (LF k v l):=by
 refine⟨_,_,rfl,stamped_push hs e,?_,Wb (KW hs c) c (.inl ⟨b,by simp⟩)⟩;intro x a;simp only[Array.toList_push,List.mem_append,List.mem_singleton]at a;rcases a with a|rfl
 ·exact hk x a
 exact T.ok k
theorem MapOf.turn[DecidableEq κ]{v:Value}(hs:Stamped es clock)(hk:∀x∈es.toList,IsKey T.d x.key)(i:(es.toList.map kv).Perm (GY T l))(h:es[j]? =some e)(m:e.key=T.K k)
  (n:∀x,(f x).born=x.born) (g:kv (f e)=(T.K k,v)):MapOf T (.map (es.modify j f) clock) (LF k v l):=by
 have b:∀c,es[j]? =some c->(f c).key=c.key:=λc a=>by rw[h]at a;cases a;rw[m];exact congrArg Prod.fst g
 refine⟨_,_,rfl,stamped_modify hs _ _ (λx _=>n x) (λc _ a=>b c a),isKey_modify hk _ _ b,Wb (KW hs i) i (.inr ⟨j,e,by simpa using h,m,?_⟩)⟩;rw[YL h,g]
def OJ(M:Mem)(L:Lc)(b:Nat)(o:Obj):Prop:=M b=some o\/(b,o)∈L
variable{L:Lc}{M:Mem}{b:Nat}{o:Obj}{w:World}
theorem OJ.heap(h:OJ M L b o)(a:Js M L w):w.heap[b]? =some o:=h.elim (a.agree _ _) (a.locs (b,o))
theorem OJ.of[h:At b o L]:OJ M L b o:=.inr h.mem
section
variable{P:Program}{ops:Array Oper}{N:Fs}{F:Fr}{E:Ent}{M:Mem}{L:Lc}{o:Oper}
theorem wCq{c:TypeId}{z:Value}(a:(P.info? c).bind (·.zero)=some z)(w:World):(zeroValue c).run P w=.ok z w:=by
 cases b:P.info? c with
 |none=>rw[b]at a;cases a
 |some d=>
  rw[b]at a
  have e:d.zero=some z:=a
  simp[zeroValue,typeInfo,b,e]
theorem VF[DecidableEq κ](T:KT κ){t g n:TypeId}(h:P.underlying t=some (.map g n))(hk:P.underlying g=some T.d){z:Value}{w:World}(o:(zeroValue n).run P w=.ok z w){b:Nat}{f:Obj}{l:List (κ×Value)}(u:w.heap[b]? =some f)(s:MapOf T f l)(k:κ)(c:Bool):
  (Instr.lookup t (.map (some b)) (T.K k) c).run P w=.ok (if c then .tuple #[(E3 k l).getD z,.bool (E3 k l).isSome]else (E3 k l).getD z) w:=by
 obtain⟨es,clock,rfl,C,B,y⟩:=s;have i:=MapKept.run_getObj_map (P:=P) (w:=w) (r:=b) u;rcases Xi C B y k with⟨a,m,_⟩|⟨j,e,a,m,E,D⟩
 ·cases c<;>simp[Instr.lookup,run_underlying h,i,run_checkKey hk (T.ok k),run_findKey hk a,Result.andThen,o,m]
 cases c<;>simp[Instr.lookup,run_underlying h,i,run_checkKey hk (T.ok k),run_findKey hk a,Result.andThen,D]
theorem wLh[DecidableEq κ](T:KT κ){t e g:TypeId}{x y:Operand}{b:Nat}{k:κ}{c:Obj}{l:List (κ×Value)}{z:Value}(B:gd ops F o=some true)(s:o.op=.lookup t x y false)(j:ev F x=some (.map (some b)))(i:ev F y=some (T.K k))
  [n:Und P t (.map e g)] [hk:Und P e T.d] (C:(P.info? g).bind (·.zero)=some z) (D:OJ M L b c) (u:MapOf T c l):QF P ops N F M L o ((E3 k l).getD z):=Bv B λa f w m=>by
 have:=VF (P:=P) T n.h hk.h (wCq C w) (D.heap m) u k false
 simp only[Bool.false_eq_true,if_false]at this
 simp[execOp,s,f.ev j,f.ev i,this]
theorem wGr{t:TypeId}(e:gd ops F o=some true)(d:o.op=.makeMap t none):
  HF P ops N F E M L o (λv f g=>∃b,v=.map (some b)/\M=f/\g=(b,.map #[] 0)::L):=CP e λa w h c=>
 ⟨_,_,M,_,.inl (by simp[execOp,d,Instr.makeMap,newObj];rfl),c.alloc (.map #[] 0),_,rfl,rfl,rfl⟩
theorem St.setRm{b:Nat}{c mo':Obj}{L2:Lc}[f:Rm b c L L2]{w:World}(e:St E M L w):w.heap[b]? =some c/\St E M ((b,mo')::L2) { w with heap:=w.heap.setIfInBounds b mo' }:=by
 have a:=e.perm f.perm;have d:w.heap[b]? =some c:=(a.locs (b,c) (by simp)).1;exact⟨d,St.setObj (A:=[]) (B:=L2) a rfl rfl rfl (by simp) (heap_set d).1 (λk g=>(heap_set d).2 k g)⟩
theorem wPd[DecidableEq κ](T:KT κ){t H V:TypeId}{x y z:Operand}{b:Nat}{k:κ}{v:Value}{G:Obj}{l:List (κ×Value)}{L2:Lc}(U:gd ops F o=some true)(c:o.op=.mapUpdate t x y z\/o.op=.insert t x y z)(O:ev F x=some (.map (some b)))(J:ev F y=some (T.K k))(I:ev F z=some v)
  [Q:Und P t (.map H V)] [hk:Und P H T.d] [Y:Rm b G L L2] (S:MapOf T G l):HF P ops N F E M L o (λ_ W X=>M=W/\∃mo',X=(b,mo')::L2/\MapOf T mo' (LF k v l)):=CP U λa w f m=>by
 obtain⟨es,clock,rfl,B,u,s⟩:=S
 have n:=(m.setRm (b:=b) (mo':=.map es clock)).1
 have g:=MapKept.run_getObj_map (P:=P) (w:=w) (r:=b) n
 rcases Xi B u s k with⟨D,C,i⟩|⟨j,e,D,C,i,Z⟩
 ·refine ⟨undef,_,M,_,.inr ⟨rfl,?_⟩,(m.setRm (b:=b) (mo':=.map (es.push { key:=T.K k,val:=v,born:=clock }) (clock+1))).2,rfl,_,rfl,MapOf.lay B u s C i⟩
  have:(Instr.mapUpdate t (.map (some b)) (T.K k) v).run P w=.ok () { w with heap:=w.heap.setIfInBounds b (.map (es.push { key:=T.K k,val:=v,born:=clock }) (clock+1)) }:=by
   simp[Instr.mapUpdate,run_underlying Q.h,g,run_checkKey hk.h (T.ok k),run_findKey hk.h D,Result.andThen,run_setObj_map _ n]
  rcases c with c|c<;>simp[execOp,c,f.ev O,f.ev J,f.ev I,this]
 have R:es[j]? =some e:=by simpa using C
 refine⟨undef,_,M,_,.inr ⟨rfl,?_⟩,(m.setRm (b:=b) (mo':=.map (es.modify j λe=>{ e with key:=T.K k,val:=v }) clock)).2,rfl,_,rfl,MapOf.turn B u s R i (λ_=>rfl) rfl⟩
 have:(Instr.mapUpdate t (.map (some b)) (T.K k) v).run P w=.ok () { w with heap:=w.heap.setIfInBounds b (.map (es.modify j λe=>{ e with key:=T.K k,val:=v }) clock) }:=by
  simp[Instr.mapUpdate,run_underlying Q.h,g,run_checkKey hk.h (T.ok k),run_findKey hk.h D,Result.andThen,R,i,run_keyThatStays (T.ok k),run_setObj_map _ n]
 rcases c with c|c<;>simp[execOp,c,f.ev O,f.ev J,f.ev I,this]
end
end
section
open Go.MapKept
theorem S5:∀(n:Nat)(l:List Int),l.Nodup->(∀x∈l,1<=x/\x<=n)->l.length<=n
 |0,[],_,_=>Nat.le_refl _
 |0,x::l,_,h=>by have:=h x (by simp);omega
 |n+1,l,a,h=>by
  have d:=S5 n (l.erase ((n:Int)+1)) (a.erase _) (λx e=>by
   have c:=(List.Nodup.mem_erase_iff a).1 e;have f:=h x c.2;have:x≠(n:Int)+1:=c.1;omega)
  by_cases b:((n:Int)+1)∈l
  ·rw [List.length_erase_of_mem b]at d;omega
  rw[List.erase_of_not_mem b]at d;omega
def stI(p:Po)(v:Int)(rec:Int->List Int->Option (Bool×List Int))(a:Option (Bool×List Int))(y:MN):Option (Bool×List Int):=a.bind λa=>if a.1=true then some a else (De p v y.2).bind λz=>if z.dir then rec y.2 a.2 else some a
def WI(p:Po)(v id:Int):Nat->Int->List Int->Option (Bool×List Int)
 |0,_,_=>none
 |n+1,f,seen=>if id=f\/f∈seen then some (decide (id=f),seen)else (DT p v f).bind λl=>l.1.foldl (stI p v (WI p v id n)) (some (false,f::seen))
variable{rec:Int->List Int->Option (Bool×List Int)}{s:List Int}
theorem Vv{p:Po}{v:Int}:∀(l:List MN),l.foldl (stI p v rec) (some (true,s))=some (true,s)
 |[]=>rfl
 |y::l=>by rw[List.foldl_cons];exact Vv l
def MpS(mo:Obj)(seen:List Int):Prop:=∃l,MapOf kU mo l/\∀k,E3 k l=if k∈seen then some (.bool true)else none
variable{f:Int}{l:List (Int×Value)}{mo:Obj}{seen:List Int}
theorem MpS.put(h:MapOf kU mo (LF f (.bool true) l))(a:∀k,E3 k l=if k∈seen then some (.bool true)else none):MpS mo (f::seen):=⟨_,h,λk=>by
 rw[W3,a]
 by_cases e:k=f
 ·simp [e]
 simp[e]⟩
structure SeO(seen:List Int):Prop where
 nd:seen.Nodup
 bd:∀k∈seen,1<=k/\k<=1048576
structure InI where
 k:Nat
 seen:List Int
 mo:Obj
 M:Mem
theorem wFj{p:Po}{v i:Int}{r:List MN×List Int}(h:DT p v i=some r):∀y∈r.1,1<=y.2/\y.2<=1048576:=by
 unfold DT at h;obtain⟨z,_,h⟩:=Option.bind_eq_some_iff.1 h;split at h
 ·obtain ⟨l,_,h⟩:=Option.bind_eq_some_iff.1 h;have:∀(l:List It)(a:Option (List MN×List Int)),(∀r,a=some r->∀y∈r.1,1<=y.2/\y.2<=1048576)->∀r,l.foldl XQ a=some r->∀y∈r.1,1<=y.2/\y.2<=1048576:=λl=>by
   induction l with
   |nil=>intro a e r b;exact e r b
   |cons s l j=>
    intro a e r b
    refine j (XQ a s) (λr b=>?_) r b
    unfold XQ at b
    obtain⟨w,k,m⟩:=Option.bind_eq_some_iff.1 b
    obtain⟨n,c,f⟩:=Option.bind_eq_some_iff.1 m
    split at f
    ·cases f
    cases f
    intro y d
    rcases List.mem_append.1 d with d|d
    ·exact e w k y d
    rw[List.mem_singleton.1 d]
    unfold ZA at c
    split at c
    ·cases c
    dsimp only at c
    split at c
    ·rename_i g;cases c;exact⟨g.1,g.2.1⟩
    cases c
  exact this l _ (λr b=>by cases b;simp) r h
 cases h
theorem wMf(p:Po)(x:V5)(v J:Int)(n:Nat):∀(f:Int)(seen:List Int)(M:Mem)(b:Nat)(mo:Obj),PW M x p->MpS mo seen->SeO seen->1<=f/\f<=1048576->1048576<n+seen.length->
  SpecL prog 142 #[DH p x,.int .u32 v,.int .u32 J,.int .u32 f,.map (some b)] M [(b,mo)] λu M' L'=>∃(is:Bool)(e:Int)(R:Obj),u=.tuple #[.bool is,.int .i64 e]/\L'=[(b,R)]/\Rs (WI p v J n f seen) e λr=>r.1=is/\MpS R r.2/\SeO r.2/\seen.length<=r.2.length:=by
 induction n with
 |zero=>
  intro f seen M b mo h hm L hf hn
  have:=S5 1048576 seen L.nd L.bd
  omega
 |succ n ih=>
 intro f seen M b mo h hm L hf hn;obtain⟨l0,X,G⟩:=_root_.id hm;refine sB func142 ntmps142 ?_;intro W;refine gA λb5=>?_;rw[WI];by_cases I:J=f
 ·refine gj (λ_=>?_) λh2=>absurd I h2;refine gh ?_;refine zd [(b,mo)] rfl ?_;exact⟨true,0,mo,by rw[decide_eq_true I];rfl,rfl,.yes _ (if_pos (.inl I)) ⟨decide_eq_true I,hm,L,Nat.le_refl _⟩⟩
 refine gj (λh2=>absurd h2 I) λ_=>?_;refine gg ?_;refine lq (wLh kU (k:=f) (z:=.bool false) rfl rfl rfl rfl (by kernel_rfl) OJ.of X) ?_;rw[G];by_cases h3:f∈seen
 ·rw [if_pos h3,Option.getD_some];refine gh ?_;refine zd [(b,mo)] rfl ?_;exact⟨false,0,mo,by rw[decide_eq_false I];rfl,rfl,.yes _ (if_pos (.inr h3)) ⟨decide_eq_false I,hm,L,Nat.le_refl _⟩⟩
 rw[if_neg h3,Option.getD_none];rw[if_neg (λk=>k.elim I h3)];refine gg ?_;refine DE rfl (wPd kU (k:=f) rfl (.inl rfl) rfl rfl rfl X) ?_;rintro _ _ _ ⟨rfl,B,rfl,V⟩;have ag:MpS B (f::seen):=MpS.put V G;have ae:SeO (f::seen):=⟨List.nodup_cons.2 ⟨h3,L.nd⟩,λk hk=>(List.mem_cons.1 hk).elim (λe=>by rw[e];exact hf) (L.bd k)⟩;refine gh ?_;refine gc (Hx p x M h v f (by unfold u32;omega)) ?_;rintro _ M2 ab ⟨l,sl,w,e,rfl,⟨w2,hw⟩,hr⟩;obtain⟨a,c,a2,c2,rfl,rfl,hc,ap,af,al,hl,ao,am⟩:=hw;refine gj (λF=>?_) λF=>?_
 ·refine gh ?_;refine zd [(b,B)] rfl ?_;exact⟨false,e,B,rfl,rfl,.no F (by rw[hr.err F];rfl)⟩
 obtain⟨rfl,_,U,rfl⟩:=hr.val F;rw[U,Option.bind_some];have H:=wFj U;dsimp only at H⊢;refine gg ?_;refine CC (α:=InI) (λz=>[(1,.int .u32 v),(2,.int .u32 J),(4,.map (some b)),(5,pB b5),(43,.slice a l.length c),(44,.int .i64 l.length),(45,.int .i64 z.k)]) (λz=>z.M) (λz=>[(b,z.mo),GG b5 x p.gen p.root p.next]) (λz=>z.k<=l.length/\(l.take z.k).foldl (stI p v (WI p v J n)) (some (false,f::seen))=some (false,z.seen)/\MpS z.mo z.seen/\SeO z.seen/\seen.length+1<=z.seen.length/\MLe M2 z.M) (λz=>l.length-z.k) ⟨0,f::seen,B,M2⟩ ⟨Nat.zero_le _,rfl,ag,ae,by simp,MLe.refl _⟩ ?_;rintro⟨k,Q,mk,Mk⟩ ⟨hk,O,D,C,Y,o⟩;try dsimp only at hk O D C Y o⊢
 refine gj (λak=>?_) λak=>?_
 ·have g:k<l.length:=by omega
  obtain⟨sb,so,e0,hx⟩:=(af.mono o).open (by intro e;have:=congrArg length e;rw[Aj H6 2 Gb,length_nil]at this;omega);cases e0;have aa:=Bs H6 2 Gb hx (List.getElem?_eq_getElem g);have Z:=H l[k] (List.getElem_mem g);have d:(l.take (k+1)).foldl (stI p v (WI p v J n)) (some (false,f::seen))=(De p v l[k].2).bind λz=>if z.dir then WI p v J n l[k].2 Q else some (false,Q):=by
   rw[E4 g,O];rfl
  generalize l[k]=nk at aa Z d;obtain⟨n1,n2⟩:=nk;refine gg ?_;refine lq (A1 (cs:=H6 (n1,n2)) rfl rfl rfl rfl rfl (λi v hv=>(aa i v hv).cj _)) ?_;refine gA λau=>?_;refine gc (EG p x Mk (h.mono (ab.trans o)) v n2) ?_;rintro _ M3 P ⟨y,e,rfl,hy⟩;refine gA λaq=>?_;refine gj (λE=>?_) λE=>?_
  ·refine gh ?_;refine zd [(b,mk)] rfl ?_;exact⟨false,e,mk,rfl,rfl,.no E (Fj (λ_=>rfl) g ((E4 g).symm.trans (d.trans (by rw[hy.err E];rfl))))⟩
  obtain⟨rfl,_,ad,rfl⟩:=hy.val E;rw[ad,Option.bind_some]at d;obtain⟨y1,yd,y3,y4⟩:=y;cases yd with
  |false=>
   refine gg ?_
   refine lq (Au rfl rfl rfl rfl (CJ.loc rfl)) ?_
   refine gh ?_
   refine BD ⟨k+1,Q,mk,M3⟩ ⟨by show k+1<=l.length;omega,d,D,C,Y,o.trans P⟩
  |true=>
  rw[if_pos rfl]at d;refine gg ?_;refine lq (Au rfl rfl rfl rfl (CJ.loc rfl)) ?_;refine gC (ih n2 Q M3 b mk (h.mono ((ab.trans o).trans P)) D C Z (by omega)) ?_;rintro _ M4 _ aj ⟨is,e2,m,rfl,rfl,S⟩;by_cases s:e2=0
  ·subst s;obtain⟨_,⟨i2,s2⟩,ai,e5,N,K,ah⟩:=S.val (λj=>j rfl);dsimp only at e5 N K ah;subst e5;rw[ai]at d;cases i2 with
   |true=>
    refine gh ?_
    refine zd [(b,m)] rfl ?_
    exact⟨true,0,m,rfl,rfl,.yes (true,s2) (by rw[<-List.take_append_drop (k+1) l,List.foldl_append,d,Vv]) ⟨rfl,N,K,by show _<=s2.length;omega⟩⟩
   |false=>
    refine gh ?_
    refine BD ⟨k+1,s2,m,M4⟩ ⟨by show k+1<=l.length;omega,d,N,K,by show _<=s2.length;omega,(o.trans P).trans aj⟩
  have T:=S.err s;cases is with
  |true=>
   refine gh ?_
   refine zd [(b,m)] rfl ?_
   exact⟨true,e2,m,rfl,rfl,.no s (Fj (λ_=>rfl) g ((E4 g).symm.trans (d.trans T)))⟩
  |false=>
   refine gj (λac=>?_) λac=>absurd s ac
   refine gh ?_
   refine zd [(b,m)] rfl ?_
   exact⟨false,e2,m,rfl,rfl,.no s (Fj (λ_=>rfl) g ((E4 g).symm.trans (d.trans T)))⟩
 refine gh ?_;refine zd [(b,mk)] rfl ?_;exact⟨false,0,mk,rfl,rfl,.yes (false,Q) (Hu (k:=k) (by omega) O) ⟨rfl,D,C,by show _<=Q.length;omega⟩⟩
def VO(p:Po)(v i:Int)(s:List By)(w j:Int)(t:List By):Option Po:=(Gv p v i s).bind λx=>if Fe p w j t (decide (v=w/\i=j))=true/\v=w/\(x.dir=true->(WI p v j 1048577 x.id []).map (·.1)=some false)then (Ey p v i s).bind λq=>HC q w j t x.id else none
theorem wFc(p:Po)(x:V5)(M:Mem)(h:PW M x p)(v i:Int)(hv:u32 v)(Y:u32 i)(s:List By)(w j:Int)(hw:u32 w)(X:u32 j)(t:List By):SpecL prog 73 #[DH p x,Gs v i,.string (AD s),Gs w j,.string (AD t)] M [] λu M' L'=>PoR (VO p v i s w j t) u M'/\L'=[]:=by
 refine sB func73 ntmps73 ?_;intro W;refine ga4 λb5 b6 b8 ac=>?_;refine gc (Jn p x M h v i Y s) ?_;rintro _ M1 C ⟨z,e,rfl,hz⟩;refine gA λT=>?_;refine gj (λm=>?_) λm=>?_;rotate_left
 ·refine gj (λl=>?_) λl=>absurd m l;refine gr ?_;exact⟨.no m (by unfold VO;rw[hz.err m];rfl),rfl⟩
 obtain⟨_,_,I,rfl⟩:=hz.val (λk=>k m);subst m;have H:=GR (Rg I);have d:VO p v i s w j t=if Fe p w j t (decide (v=w/\i=j))=true/\v=w/\(z.dir=true->(WI p v j 1048577 z.id []).map (·.1)=some false)then (Ey p v i s).bind λq=>HC q w j t z.id else none:=by unfold VO;rw[I];rfl
 refine gg ?_;refine D7 [0,1,2,3,4,5,106,7] [GG b5 x p.gen p.root p.next,(b6,cE [.int .u32 v,.int .u32 i] 123),(b8,cE [.int .u32 w,.int .u32 j] 123)] ?_;refine gg ?_;refine dq rfl (wYu (ns:=[v,i]) (ms:=[w,j]) rfl rfl rfl rfl rfl rfl ⟨rfl,rfl⟩) ?_;refine gg ?_;refine dh rfl (hC (Jj p x M1 (h.mono C) w j X t (decide ([v,i]=[w,j])))) ?_;rintro _ M2 _ ⟨B,R,rfl,⟨e,rfl,Z⟩,rfl⟩;rw[show decide ([v,i]=[w,j])=decide (v=w/\i=j)by simp]at Z;refine⟨B,by simp,?_⟩;refine gg ?_;refine gj (λl=>?_) λl=>?_
 ·refine gr ?_;exact⟨.no l (by rw[d,if_neg λk=>l (Z.2 k.1)]),rfl⟩
 have N:=Z.1 (Classical.not_not.1 l);refine gj (λG=>?_) λG=>?_
 ·refine gr ?_;exact⟨.no (by decide) (by rw[d,if_neg λk=>G k.2.1]),rfl⟩
 have J:v=w:=Classical.not_not.1 G;obtain⟨z1,zd,z3,z4⟩:=z;dsimp only at H;cases zd with
 |false=>
  rw[if_pos ⟨N,J,λk=>by cases k⟩]at d
  refine gg ?_
  refine lq (Au rfl rfl rfl rfl (CJ.loc rfl)) ?_
  refine gg ?_
  refine D7 [0,1,2,4,5,6,7,103,108,109,110,11,12,113,14] [GG b5 x p.gen p.root p.next,(b6,cE [.int .u32 v,.int .u32 i] 123),(b8,cE [.int .u32 w,.int .u32 j] 123),(T,cE [.int .u32 z1,.bool false,.int .i64 z3,.int .i64 z4] 43)] ?_
  refine gg ?_
  refine dh rfl (hC (FI v i hv Y s M2)) ?_;rintro _ M4 _ ⟨y,R,rfl,n,rfl⟩
  refine⟨y,by simp,?_⟩
  obtain⟨P,S,rfl⟩:=n.form
  refine dh rfl (hC (J4 w j hw X t z1 M4)) ?_;rintro _ M5 _ ⟨f,R,rfl,c,rfl⟩
  refine⟨f,by simp,?_⟩
  obtain⟨O,Q,rfl⟩:=c.form
  refine dh rfl (HF.fz1 (K:=λw b U=>w=.slice (some ⟨b,0,none⟩) 2 2/\U=cE [.func (.func P) #[] S,.func (.func O) #[] Q] 200) (HF.imp (Ab (cs:=[_,_]) rfl rfl rfl (by rfl) (by rfl) (by rfl)) λv M' L' ⟨b,h1,h2,h3⟩=>⟨b,_,⟨h1,rfl⟩,h2,h3⟩)) ?_;rintro _ M6 _ ⟨a,rfl,bs,_,⟨rfl,rfl⟩,es⟩
  refine⟨a,by simp,?_⟩
  refine dh rfl (hC (EK p x M6 (h.mono ((((C.trans B).trans y).trans f).trans a)) [(.func (.func P) #[] S,λp=>Ey p v i s),(.func (.func O) #[] Q,λp=>HC p w j t z1)] (some ⟨bs,0,none⟩) 2 (SM.of_block es) (par2' (n.mono (f.trans a)) (c.mono a)) (by simp))) ?_;rintro u M7 _ ⟨F,R,rfl,o,rfl⟩
  refine⟨F,by simp,?_⟩
  obtain⟨y2,g,r1,n1,e,rfl,V⟩:=id o
  refine gr ?_
  exact⟨by rw[d];exact o,rfl⟩
 |true=>
  refine gg ?_
  refine lq (Au rfl rfl rfl rfl (CJ.loc rfl)) ?_
  refine gh ?_
  refine lh (wGr rfl rfl) ?_;rintro _ _ _ ⟨bm,rfl,rfl,rfl⟩
  refine gC (wMf p x v j 1048577 z1 [] M2 bm (.map #[] 0) (h.mono (C.trans B)) ⟨[],MapOf.empty,λk=>by simp[E3]⟩ ⟨List.nodup_nil,λk hk=>by cases hk⟩ H.1 (by simp)) ?_;rintro _ M3 _ aa ⟨is,e2,ab,rfl,rfl,hr⟩
  refine gj (λD=>?_) λD=>?_
  ·refine gr ?_
   exact⟨.no D (by rw[d,if_neg];rintro⟨_,_,k⟩;have:=k rfl;rw[hr.err D]at this;cases this),rfl⟩
  obtain⟨rfl,r,E,rfl,_,_,_⟩:=hr.val D
  cases L:r.1 with
  |true=>
   refine gr ?_
   exact⟨.no (by decide) (by rw[d,if_neg];rintro⟨_,_,k⟩;have:=k rfl;dsimp only at this;rw[E,Option.map_some,L]at this;cases this),rfl⟩
  |false=>
  rw[if_pos ⟨N,J,λ_=>by dsimp only;rw[E,Option.map_some,L]⟩]at d
  refine gg ?_
  refine D7 [0,1,2,4,5,6,7,103,108,109,110,11,12,113,14] [GG b5 x p.gen p.root p.next,(b6,cE [.int .u32 v,.int .u32 i] 123),(b8,cE [.int .u32 w,.int .u32 j] 123),(T,cE [.int .u32 z1,.bool true,.int .i64 z3,.int .i64 z4] 43)] ?_
  refine gg ?_
  refine dh rfl (hC (FI v i hv Y s M3)) ?_;rintro _ M4 _ ⟨y,R,rfl,n,rfl⟩
  refine⟨y,by simp,?_⟩
  obtain⟨P,S,rfl⟩:=n.form
  refine dh rfl (hC (J4 w j hw X t z1 M4)) ?_;rintro _ M5 _ ⟨f,R,rfl,c,rfl⟩
  refine⟨f,by simp,?_⟩
  obtain⟨O,Q,rfl⟩:=c.form
  refine dh rfl (HF.fz1 (K:=λw b U=>w=.slice (some ⟨b,0,none⟩) 2 2/\U=cE [.func (.func P) #[] S,.func (.func O) #[] Q] 200) (HF.imp (Ab (cs:=[_,_]) rfl rfl rfl (by rfl) (by rfl) (by rfl)) λv M' L' ⟨b,h1,h2,h3⟩=>⟨b,_,⟨h1,rfl⟩,h2,h3⟩)) ?_;rintro _ M6 _ ⟨a,rfl,bs,_,⟨rfl,rfl⟩,es⟩
  refine⟨a,by simp,?_⟩
  refine dh rfl (hC (EK p x M6 (h.mono (((((C.trans B).trans aa).trans y).trans f).trans a)) [(.func (.func P) #[] S,λp=>Ey p v i s),(.func (.func O) #[] Q,λp=>HC p w j t z1)] (some ⟨bs,0,none⟩) 2 (SM.of_block es) (par2' (n.mono (f.trans a)) (c.mono a)) (by simp))) ?_;rintro u M7 _ ⟨F,R,rfl,o,rfl⟩
  refine⟨F,by simp,?_⟩
  obtain⟨y2,g,r1,n1,e,rfl,V⟩:=id o
  refine gr ?_
  exact⟨by rw[d];exact o,rfl⟩
end
end Go.Proofs.YtjheijhahehnmaaGreatDoor
