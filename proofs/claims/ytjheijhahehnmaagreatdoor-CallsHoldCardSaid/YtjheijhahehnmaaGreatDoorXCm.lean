/- Lemmas. -/
import Derived.Test.YtjheijhahehnmaaGreatDoorXCl
import Derived.Maps.RangeRun
import Derived.Laws.IdiomRangeMap
namespace Go.Proofs.YtjheijhahehnmaaGreatDoor
open Go.Proofs.Tryz
open List (length_cons length_take length_nil map_append length map_cons)
set_option linter.unusedSimpArgs false
set_option linter.unusedVariables false
set_option linter.unusedSectionVars false
set_option maxHeartbeats 40000000
set_option maxRecDepth 8000
open Go.RowKit Go.Shelf Go.Sort
structure TabsW(w:World):Prop where
 mx:∃m,w.cell? ⟨cutA_ren.g 1,0,none⟩=some (iL m)
 e1:∃ev,w.cell? ⟨atoiA_ren.g 15,0,none⟩=some ev/\(ev=.nilIface\/∃te pe,ev=.iface te pe)
 e2:∃ev,w.cell? ⟨atoiA_ren.g 16,0,none⟩=some ev/\(ev=.nilIface\/∃te pe,ev=.iface te pe)
 p10 : Lib.TabIs prog w "internal/strconv.uint64pow10" .u64 Lib.pow10Tab
def Tabs(M:Mem):Prop:=∀w:World,(∀b o,M b=some o->w.heap[b]? =some o)->TabsW w
variable{M:Mem}
theorem Tabs.mono{M':Mem}(h:Tabs M)(d:MLe M M'):Tabs M':=λw a=>h w λb o c=>a b o (d b o c)
def Uh(l:List By):List By×List By×Bool:=Lib.cut l [47]
theorem PB(l:List By):(AK l).data.toList=l:=by simp[AK]
theorem Zd(l:List By):(AK l).size=l.length:=by simp[AK,ByteArray.size]
theorem RW(l:List By)(M:Mem)(d:Tabs M)(hs:l.length<=1000000):
  Sg 51 #[.string (AK l),.string (AK [47])] M [] λu f g=>(M=f/\u=.tuple #[.string (AK (Uh l).1),.string (AK (Uh l).2.1),.bool (Uh l).2.2])/\g=[]:=by
 intro w a;obtain⟨m,b⟩:=(d w a.agree).mx;have h:=Any.strings_Cut cutA (AK l) (AK [47]) m w (by rw[Zd];omega) b;change Calls prog 51 _ _ _ at h;rw[PB,PB]at h;refine h.mono ?_;rintro e i ⟨rfl,n,rfl⟩;have c:Below w.heap.size w (w.drewN n):=⟨rfl,rfl,rfl,by simp[World.drewN],λj k=>by simp[World.drewN]⟩;exact⟨_,M,_,rfl,⟨⟨rfl,rfl⟩,rfl⟩,St.closed _ _ _ _ _ a c⟩
theorem Xe(l:List By)(M:Mem):
  Sg 50 #[.string (AK l),.string (AK [47])] M [] λu b c=>(M=b/\u=.tuple #[.string (AK (Lib.trimPrefix l [47])),.bool (Lib.hasPrefix l [47])])/\c=[]:=by
 intro w a;have h:=Any.strings_CutPrefix cutpA (AK l) (AK [47]) w;change Calls prog 50 _ _ _ at h;rw[PB,PB]at h;refine h.mono ?_;rintro e d ⟨rfl,rfl⟩;exact⟨_,M,_,rfl,⟨⟨rfl,rfl⟩,rfl⟩,a⟩
theorem wDu(n:Int)(M:Mem)(g:Tabs M)(b: -9223372036854775808<=n/\n<=9223372036854775807):
  Sg 53 #[iL n] M [] λu _ _=>u=.string (AK (Lib.itoa n)):=by
 intro w a;have h:=Any.strconv_Itoa itoaA n b.1 b.2 w (g w a.agree).p10;change Calls prog 53 _ _ _ at h;refine h.mono ?_;rintro e i ⟨rfl,k,c,rfl⟩;have f:Below w.heap.size w (grow (w.drewN k) c):=⟨rfl,rfl,rfl,by simp[grow,World.drewN],λj d=>by simp[grow,World.drewN,Array.getElem?_append_left d]⟩;exact⟨_,M,[],rfl,rfl,St.closed _ _ _ _ _ a f⟩
def Vg(s:List By):Option Int:=match Lib.atoiAll s with
 |.ok v=>some v
 |_=>none
def NumR(r:Option Int)(u:Value):Prop:=(∃v,r=some v/\u=.tuple #[iL v,.nilIface])\/(r=none/\∃v t a,u=.tuple #[iL v,.iface t a])
theorem wFq(l:List By)(M:Mem)(k:Tabs M)(hs:l.length<=1000000):
  Sg 52 #[.string (AK l)] M [] λu o m=>NumR (Vg l) u/\m=[]:=by
 intro w a;have d:=PB l;have n:(AK l).size<=1000000:=by rw[Zd];exact hs
 rcases b:Lib.atoiAll l with v|_|_
 ·have h:=Any.strconv_Atoi_ok wNw (AK l) (by omega) v (by rw[d];exact b) w;change Calls prog 52 _ _ _ at h;refine h.mono ?_;rintro e j ⟨rfl,c⟩;refine⟨_,M,[],rfl,⟨.inl ⟨v,by unfold Vg;rw[b],rfl⟩,rfl⟩,?_⟩;rcases c with rfl|⟨t,rfl⟩
  ·exact a
  exact St.closed _ _ _ _ _ a (Lib.bytesWorld_below w _ t)
 ·obtain ⟨ev,i,g⟩:=(k w a.agree).e1;have h:=Any.strconv_Atoi_syntax wNw (AK l) (by omega) (by rw[d];exact b) ev w i g;change Calls prog 52 _ _ _ at h;refine h.mono ?_;rintro e j ⟨N,rfl,_,_,f⟩;exact⟨_,M,[],rfl,⟨.inr ⟨by unfold Vg;rw[b],_,_,_,rfl⟩,rfl⟩,St.closed _ _ _ _ _ a f⟩
 obtain⟨ev,i,g⟩:=(k w a.agree).e2;have h:=Any.strconv_Atoi_range wNw (AK l) (by omega) (by rw[d];exact b) ev w i g;change Calls prog 52 _ _ _ at h;refine h.mono ?_;rintro e j ⟨N,rfl,_,_,f⟩;exact⟨_,M,[],rfl,⟨.inr ⟨by unfold Vg;rw[b],_,_,_,rfl⟩,rfl⟩,St.closed _ _ _ _ _ a f⟩
variable{l:List By}
theorem wRn{v:Int}(h:Vg l=some v): -9223372036854775808<=v/\v<=9223372036854775807:=by
 unfold Vg at h;rcases a:Lib.atoiAll l with x|_|_<;>rw[a]at h<;>cases h;exact Lib.atoiAll_bounds a
theorem Qr{v:Int}(c:0<=v)(h:(Lib.itoa v).length<=9):v<1000000000:=by
 have e:Lib.itoa v=Lib.decDigits v.toNat:=by unfold Lib.itoa;rw[iN (by omega)]
 rw[e,Lib.decDigits_length]at h;have b:=Lib.lt_pow_nDigits v.toNat;have a:10 ^ Lib.nDigits v.toNat<=10 ^ 9:=Nat.pow_le_pow_right (by decide) h;omega
theorem wMt(h:(Uh l).2.2=true):(Uh l).2.1.length+1<=l.length/\(Uh l).1.length<=l.length:=by
 unfold Uh Lib.cut at h⊢;split at h
 ·rename_i c;rw[iP c];have e:Lib.index l [47]<=l.length:=Lib.index_le l [47];by_cases a:Lib.index l [47]=l.length
  ·exfalso;rw[Lib.index_one]at a;have:∀l:List By,Lib.indexByte l 47≠l.length:=λl=>by
    induction l with
    |nil=>decide
    |cons b l d=>
     unfold Lib.indexByte
     split
     ·simp only[length_cons];omega
     simp only[length_cons];split<;>omega
   exact this l a
  simp only[List.length_drop,length_take,length_cons,length_nil];omega
 cases h
theorem Z3(l:List By):(Uh l).1.length<=l.length/\(Uh l).2.1.length<=l.length:=by
 unfold Uh Lib.cut;split
 ·simp only[List.length_drop,length_take];omega
 simp
def RY:Nat->Bool->List By->Option (List (List By))
 |_,false,_=>some []
 |0,true,_=>none
 |k+1,true,r=>if wPi (Uh r).1=0 then (RY k (Uh r).2.2 (Uh r).2.1).map ((Uh r).1::·)else none
def ZM(c:List By×List By×Bool):Option (Int×List (List By)):=match Vg c.1 with
 |some v=>if 0<=v/\c.1.length<=9/\Lib.itoa v=c.1 then (RY 65 c.2.2 c.2.1).map (v,·)else none
 |none=>none
def Fk(s:List By):Option (Int×List (List By)):=if Lib.hasPrefix s [47]=true/\s.length<=64 then ZM (Uh (Lib.trimPrefix s [47]))else none
abbrev KU(l:List (List By)):List Value:=l.map λs=>.string (AK s)
def PtR(r:Option (Int×List (List By)))(u:Value)(M':Mem):Prop:=∃v l a c e,u=.tuple #[iU v,.slice a l.length c,iL e]/\u32 v/\l.length<=c/\l.length<=65/\SM M' a (KU l)/\(e≠0->l=[])/\Rs r e ((v,l)=·)
variable{e:Int}
theorem PtR.no{r:Option (Int×List (List By))}(h:e≠0)(a:r=none):PtR r (.tuple #[iU 0,sN,iL e]) M:=⟨0,[],none,0,e,rfl,Hz,lR,zL,SM.nil,λ_=>rfl,.no h a⟩
structure PtS where
 l:List (List By)
 r:List By
 b:Bool
 k:Nat
 v:Value
 R:Lc
 M:Mem
section
variable{P:Program}{ops:Array Oper}{N:Fs}{F:Fr}{E:Ent}{M:Mem}{L:Lc}{o:Oper}
theorem wVv{x:Operand}{t a:TypeId}(e:gd ops F o=some true)(d:o.op=.binOp .neq t x (.const .nilIface) a)(b:ev F x=some .nilIface)(c:P.underlying t=some (.interface (P.methodsAt t))):QF P ops N F M L o (.bool false):=Br e λg f w _=>by
 have:=run_neq_nil_nil (P:=P) w t c
 simp only[execOp,d,f.ev b,show g.eval (.const .nilIface)=.nilIface from rfl]
 simp[eqGuard,this]
theorem wVw{x:Operand}{t a u:TypeId}{p:Value}(e:gd ops F o=some true)(d:o.op=.binOp .neq t x (.const .nilIface) a)(b:ev F x=some (.iface u p))(c:P.underlying t=some (.interface (P.methodsAt t))):QF P ops N F M L o (.bool true):=Br e λg f w _=>by
 have:=run_neq_held_nil (P:=P) w t u p c
 simp only[execOp,d,f.ev b,show g.eval (.const .nilIface)=.nilIface from rfl]
 simp[eqGuard,this]
theorem wVq{x y:Operand}{t d:TypeId}{a b:List By}(h:gd ops F o=some true)(g:o.op=.binOp .neq t x y d)(f:ev F x=some (.string (AK a)))(e:ev F y=some (.string (AK b)))[i:Und P t .string]:QF P ops N F M L o (.bool (decide (a≠b))):=Bo (v:=.bool (!decide (a=b))) (Br h λj c w _=>by
 have:(binOp .neq t (.string (AK a)) (.string (AK b))).run P w=.ok (.bool (!decide (a=b))) w:=by rw[show decide (a=b)=decide (AK a=AK b)by simp[Uz]];simp[binOp,Op.stringOp,<-Py]
 simp only[execOp,g,c.ev f,c.ev e]
 simp[eqGuard,this]) (by simp)
end
theorem Jv(s:List By)(M:Mem)(E:Tabs M)(hs:s.length<=1000000):Sg 25 #[.string (AK s)] M [] λu M' L'=>PtR (Fk s) u M'/\L'=[]:=by
 refine sB func25 ntmps25 ?_;intro W;refine gc (Xe s M) ?_;rintro _ _ _ ⟨rfl,rfl⟩;have H:(Lib.trimPrefix s [47]).length<=s.length:=by unfold Lib.trimPrefix;split<;>simp
 unfold Fk;generalize Lib.trimPrefix s [47]=F at H⊢;cases T:Lib.hasPrefix s [47]with
 |false=>
  refine gr ?_
  exact⟨.no (by decide) (iN λk=>by cases k.1),rfl⟩
 |true=>
 refine gg ?_;refine lq (Sb rfl rfl rfl) ?_;refine gj (λO=>?_) λO=>?_
 ·refine gr ?_;exact⟨.no (by decide) (iN λk=>by omega),rfl⟩
 rw[iP ⟨rfl,by omega⟩];refine gc (RW F M E (by omega)) ?_;rintro _ _ _ ⟨rfl,rfl⟩;have d:=Z3 F;generalize Uh F=c at d⊢;obtain⟨c1,V,U⟩:=c;dsimp only at d⊢;unfold ZM;dsimp only;refine gc (wFq c1 M E (by omega)) ?_;rintro _ S B y;rcases y with⟨v,C,rfl⟩|⟨C,v,t,ad,rfl⟩;rotate_left
 ·refine gg ?_;refine lq (wVw rfl rfl rfl (by kernel_rfl)) ?_;refine gr ?_;exact⟨.no (by decide) (by rw[C]),rfl⟩
 have G:=wRn C;rw[C];dsimp only;refine gg ?_;refine lq (wVv rfl rfl rfl (by kernel_rfl)) ?_;refine gj (λN=>?_) λN=>?_
 ·refine gr ?_;exact⟨.no (by decide) (iN λk=>by omega),rfl⟩
 refine gg ?_;refine lq (Sb rfl rfl rfl) ?_;refine gj (λL=>?_) λL=>?_
 ·refine gr ?_;exact⟨.no (by decide) (iN λk=>by omega),rfl⟩
 refine gQ (wDu v S (E.mono B) G) ?_;refine BK rfl rfl (wVq rfl rfl rfl rfl) (λa=>?_) (λa=>?_)
 ·refine gr ?_;exact⟨.no (by decide) (iN λk=>oT a k.2.2),rfl⟩
 have a:=nN (oF a);rw[iP ⟨by omega,by omega,a⟩];have aa:v<1000000000:=Qr (by omega) (by rw[a];omega);refine gh ?_;refine Cy (α:=PtS) (λz=>[(3,z.v),(5,.string (AK z.r)),(8,.bool z.b),(9,iL v)]) (λz=>z.M) (λz=>z.R) (λz=>RY 65 U V=(RY z.k z.b z.r).map (z.l++·)/\(z.b=true->z.r.length<z.k)/\z.r.length<=64/\z.l.length+z.k=65/\Own z.v z.R 9 1 z.l.length (KU z.l)/\MLe S z.M) (λz=>z.k+(if z.b then 1 else 0)) ⟨[],V,U,65,sN,[],S⟩ ⟨by simp,λ_=>by dsimp only;omega,by dsimp only;omega,by simp,Own.nil _ _,mR⟩ ?_;rintro⟨l,r,b,k,sv,R,Q⟩ ⟨e,f,o,J,D,j⟩;try dsimp only at e f o J D j⊢
 obtain⟨Z,Y,rfl⟩:=D.form;cases b with
 |true=>
  have f:=f rfl
  obtain⟨k,rfl⟩:∃k',k=k'+1:=⟨k-1,by omega⟩
  refine gc (RW r Q (E.mono (B.trans j)) (by omega)) ?_;rintro _ _ _ ⟨rfl,rfl⟩
  have d:=Z3 r
  have g:=wMt (l:=r)
  rw[RY]at e
  generalize Uh r=c at e d g⊢
  obtain⟨P,d2,d3⟩:=c
  dsimp only at e d g⊢
  refine gQ (LT P Q) ?_
  refine gj (λn=>?_) λn=>?_
  ·refine gr ?_
   exact⟨.no (by decide) (by rw[e,iN n];rfl),rfl⟩
  rw[iP (nN n)]at e
  refine gg ?_
  refine lh (Ab (cs:=[_]) rfl rfl rfl (by rfl) (by rfl) (by rfl)) ?_;rintro _ _ _ ⟨ac,rfl,rfl,rfl⟩
  refine gh ?_
  refine lh (AY (R:=R) (m:=1) (news:=[.string (AK P)]) rfl rfl rfl rfl D rfl (λi v h=>CJ.loc (by simpa using h)) rfl rfl (by simp[Value.oneCell']) (by omega) (by decide)) ?_;rintro X _ _ ⟨rfl,S2,rfl,w,_⟩
  refine gh ?_
  refine BB ⟨l++[P],d2,d3,k,X,S2,Q⟩ ⟨by rw[e,Option.map_map];congr 1;funext x;simp,λh3=>by have:=g h3;dsimp only;omega,by dsimp only;omega,by simp;omega,by dsimp only;rw[List.length_append];unfold KU at w ⊢;rw[map_append];exact w,j⟩ (by dsimp only;split<;>simp<;>omega)
 |false=>
  refine gg ?_
  refine lq (Eo rfl rfl rfl (by rw[IntKind.wrap_u32];omega)) ?_
  refine gg ?_
  refine BF D (by simp) ?_
  intro M4 a4 c4 ab e4 K I;cases e4
  refine gr ?_
  exact⟨⟨v,l,Z,Y,0,rfl,by unfold u32;omega,K,by omega,I,λk=>aD rfl k,.yes _ (by rw[e,RY];simp) rfl⟩,rfl⟩
structure WkS where
 k:Nat
 y:Ino
 e:Int
 M:Mem
theorem InR.no{r:Option Ino}(h:e≠0)(a:r=none):InR r (.tuple #[.agg (RC ⟨0,false,0,0⟩).toArray,iL e]):=⟨_,e,rfl,.no h a⟩
variable{z:Ino}
theorem MS{p:Po}{v i:Int}(h:C4 p v i=some z):u32 z.id:=by
 have:=Gx (LE h).1;unfold u32;omega
theorem Ul(p:Po)(x:V5)(M:Mem)(h:PW M x p)(v:Int)(l:List (List By))(a:Option Addr)(c:Nat)(hs:SM M a (KU l))(hn:l.length<=1000):Sg 116 #[DM p x,iU v,.slice a l.length c] M [] λu M' L'=>InR (JT p v l) u/\L'=[]:=by
 refine sB func116 ntmps116 ?_;intro W;refine NF λX V=>?_;refine gc (DQ p x M h.pt h.dead v) ?_;rintro _ M1 w rfl;refine gj (λo=>?_) λo=>?_
 ·refine gr ?_;exact⟨.no o (iN o),rfl⟩
 have J:JT p v l=l.foldl (Un p v) (C4 p v 1):=iP (nN o);refine gc (Es p x M1 (h.mono w) v 1) ?_;rintro _ Z E ⟨y0,P,rfl,C⟩;have T:=h.mono (w.trans E);refine gg ?_;refine Cy (α:=WkS) (λz=>[(1,iU v),(3,pB X),(6,pB V),(7,iL z.e),(25,.slice a l.length c),(26,iL l.length),(27,iL z.k)]) (λz=>z.M) (λz=>[(V,cE (RC z.y) 43),GJ X x p.gen p.root p.next]) (λz=>z.k<=l.length/\Rs ((l.take z.k).foldl (Un p v) (C4 p v 1)) z.e (z.y=·)/\(z.e=0->u32 z.y.id)/\MLe Z z.M) (λz=>l.length-z.k) ⟨0,y0,P,Z⟩ ⟨zL,C,λk=>by obtain⟨_,_,I,rfl⟩:=C.val (λj=>j k);exact MS I,mR⟩ ?_;rintro⟨k,⟨z1,zd,H,G⟩,e,Mk⟩ ⟨hk,F,Q,b⟩;try dsimp only at hk F Q b⊢
 refine gj (λO=>?_) λO=>?_
 ·have g:k<l.length:=by omega
  have K:=hs.mono ((w.trans E).trans b);obtain⟨sb,so,e1,hx⟩:=K.open (by intro e;have:=cA length e;rw[List.length_map,length_nil]at this;omega);cases e1;refine gg ?_;refine lq (Aw rfl rfl rfl rfl ((hx _ (.string (AK l[k])) (by rw[mO];simp[g])).cj _)) ?_;refine gj (λm=>?_) λm=>?_
  ·refine gr ?_;exact⟨.no m (by rw[J];exact EX (λ_=>rfl) g (by rw[F.err m];rfl)),rfl⟩
  obtain⟨P,_,S,rfl⟩:=F.val m;have D:(l.take (k+1)).foldl (Un p v) (C4 p v 1)=Un p v (some ⟨z1,zd,H,G⟩) l[k]:=by rw[EO g,S]
  cases zd with
  |false=>
   refine gg ?_
   refine lq (Aw rfl rfl rfl rfl (CJ.loc rfl)) ?_
   refine gr ?_
   exact⟨.no (by decide) (by rw[J];exact EX (λ_=>rfl) g (by rw[S];rfl)),rfl⟩
  |true=>
   refine gg ?_
   refine lq (Aw rfl rfl rfl rfl (CJ.loc rfl)) ?_
   refine gc (QU p x Mk (T.mono b) v z1 (Q P) l[k]) ?_;rintro _ Y s ⟨n,e2,rfl,R⟩
   refine gj (λf=>?_) λf=>?_
   ·obtain ⟨_,_,L,rfl⟩:=R.val (λj=>j f)
    refine gc (Es p x Y (T.mono (b.trans s)) v n) ?_;rintro _ M4 N ⟨y2,U,rfl,d⟩
    refine gh ?_
    refine BB ⟨k+1,y2,U,M4⟩ ⟨by show k+1<=l.length;omega,by rw[D];show Rs ((Lo p v z1 l[k]).bind λi=>C4 p v i) U _;rw[L];exact d,λk=>by obtain⟨_,_,I,rfl⟩:=d.val (λj=>j k);exact MS I,(b.trans s).trans N⟩
   refine gh ?_
   refine BB ⟨k+1,⟨z1,true,H,G⟩,e2,Y⟩ ⟨by show k+1<=l.length;omega,by rw[D];exact .no f (by show ((Lo p v z1 l[k]).bind λi=>C4 p v i)=none;rw[R.err f];rfl),λk=>aD k f,b.trans s⟩
 have d:Rs (JT p v l) e (Ino.mk z1 zd H G=·):=by rw[J,G7 (k:=k) (by omega) rfl];exact F
 refine gj (λB=>?_) λB=>?_
 ·refine gr ?_;exact⟨.no B (d.err B),rfl⟩
 refine gr ?_;exact⟨⟨_,e,rfl,d⟩,rfl⟩
def EB(p:Po)(s:List By):Option (Int×Ino):=(Fk s).bind λc=>(JT p c.1 c.2).map (c.1,·)
def WaR(r:Option (Int×Ino))(u:Value):Prop:=∃v i y e,u=.tuple #[Gh v i,.agg (RC y).toArray,iL e]/\u32 v/\u32 i/\Rs r e λc=>c=(v,y)/\i=y.id
theorem WaR.no{r:Option (Int×Ino)}(h:e≠0)(a:r=none):WaR r (.tuple #[Gh 0 0,.agg (RC ⟨0,false,0,0⟩).toArray,iL e]):=⟨0,0,_,e,rfl,Hz,Hz,.no h a⟩
theorem S5{p:Po}{v:Int}{l:List (List By)}(h:JT p v l=some z):∃i,C4 p v i=some z:=by
 unfold JT at h;split at h
 ·have:∀(l:List (List By))(a:Option Ino),(∀z,a=some z->∃i,C4 p v i=some z)->∀z,l.foldl (Un p v) a=some z->∃i,C4 p v i=some z:=λl=>by
   induction l with
   |nil=>intro a d z b;exact d z b
   |cons s l e=>
    intro a d z b
    refine e (Un p v a s) (λz b=>?_) z b
    unfold Un at b
    obtain⟨w,_,c⟩:=oB b
    split at c
    ·obtain ⟨i,_,f⟩:=oB c
     exact⟨i,f⟩
    cases c
  exact this l _ (λz b=>⟨1,b⟩) z h
 cases h
theorem C6(p:Po)(x:V5)(M:Mem)(h:PW M x p)(s:List By)(C:Tabs M)(hs:s.length<=1000000):Sg 65 #[DM p x,.string (AK s)] M [] λu P G=>WaR (EB p s) u/\G=[]:=by
 refine sB func65 ntmps65 ?_;intro W;refine Ye λN L E=>?_;refine gc (Jv s M C hs) ?_;rintro _ F k ⟨v,l,a,c,e,rfl,w,J,H,g,I,o⟩;refine gj (λd=>?_) λd=>?_
 ·obtain ⟨_,_,z,rfl⟩:=o.val (λj=>j d);have f:EB p s=(JT p v l).map (v,·):=by unfold EB;rw[z];rfl
  refine gc (Ul p x F (h.mono k) v l a c g (by omega)) ?_;rintro _ O D ⟨y,K,rfl,n⟩;refine gj (λb=>?_) λb=>?_
  ·refine gr ?_;exact⟨.no b (by rw[f,n.err b];rfl),rfl⟩
  obtain⟨_,_,m,rfl⟩:=n.val b;refine gg ?_;refine DW [0,1,2,3,4,105,106,7] [(E,cE (RC y) 43)] ?_;refine gg ?_;refine gr ?_;exact⟨⟨v,y.id,y,0,rfl,w,by obtain⟨i,B⟩:=S5 m;exact MS B,.yes _ (by rw[f,m];rfl) ⟨rfl,rfl⟩⟩,rfl⟩
 refine gj (λb=>?_) λb=>?_
 ·refine gr ?_;exact⟨.no b (by unfold EB;rw[o.err b];rfl),rfl⟩
 exact aD (nN b) d
def Bp(p:Po)(s:List By):Option (Int×Int×List By):=(Fk s).bind λc=>if c.2=[]then none else (JT p c.1 c.2.dropLast).bind λy=>if y.dir then some (c.1,y.id,c.2.getLastD [])else none
def PaR(r:Option (Int×Int×List By))(u:Value):Prop:=∃v i s e,u=.tuple #[Gh v i,.string (AK s),iL e]/\u32 v/\u32 i/\(e≠0->s=[])/\Rs r e ((v,i,s)=·)
theorem PaR.no{r:Option (Int×Int×List By)}(h:e≠0)(a:r=none):PaR r (.tuple #[Gh 0 0,.string (AK []),iL e]):=⟨0,0,[],e,rfl,Hz,Hz,λ_=>rfl,.no h a⟩
theorem Dk(p:Po)(x:V5)(M:Mem)(h:PW M x p)(s:List By)(Y:Tabs M)(hs:s.length<=1000000):Sg 62 #[DM p x,.string (AK s)] M [] λu P L'=>PaR (Bp p s) u/\L'=[]:=by
 refine sB func62 ntmps62 ?_;intro W;refine NF λb2 b4=>?_;refine gc (Jv s M Y hs) ?_;rintro _ M1 I ⟨v,l,a,c,e,rfl,U,hc,hl,m,he,N⟩;refine gj (λf=>?_) λf=>?_
 ·refine gr ?_;exact⟨.no f (by unfold Bp;rw[N.err f];rfl),rfl⟩
 obtain⟨_,_,V,rfl⟩:=N.val f;have b:Bp p s=if l=[]then none else (JT p v l.dropLast).bind λy=>if y.dir then some (v,y.id,l.getLastD [])else none:=by unfold Bp;rw[V];rfl
 refine gj (λJ=>?_) λJ=>?_
 ·have g:l=[]:=List.length_eq_zero_iff.1 (by omega);refine gr ?_;exact⟨.no (by decide) (by rw[b,iP g]),rfl⟩
 obtain⟨n,w⟩:∃n,l.length=n+1:=⟨l.length-1,by omega⟩;have g:l≠[]:=by rintro rfl;simp at w
 rw[iN g]at b;have G:l.dropLast=l.take n:=by rw[List.dropLast_eq_take,w];rfl
 have F:(l.take n).length=n:=by rw[length_take];omega
 have E:l.getLastD []=l[n]:=by
  rw[List.getLastD_eq_getLast?,List.getLast?_eq_getElem?,show l.length-1=n by omega];simp[w]
 rw[show (l.length:Int)-1=n by omega];refine gh ?_;refine AX [GJ b2 x p.gen p.root p.next] (by kernel_rfl) (by simp) ?_;refine gk [0,1,2,3] ?_;refine Er (i:=4) rfl (by kernel_rfl) (by kernel_rfl) rfl rfl (Bo (CK rfl rfl rfl (.no _) (.of (v:=n) rfl (by omega) rfl) (.no _) (by omega) (by simp)) (v':=.slice a (l.take n).length c) (by rw[AV,F];rfl)) ?_;refine wSf 5 9 [6,7,8] [110,11] (λP O=>Ul p x P (h.mono (I.trans O)) v (l.take n) a c (by have:=(m.mono O).take n;unfold KU at this ⊢;rw[List.map_take];exact this) (by omega)) ?_;rintro _ M2 H ⟨y,e,rfl,C⟩;rw[<-G]at C;obtain⟨z,Q,S,R⟩:=y;refine gz λK=>?_;refine gg ?_;have D:e≠0->Bp p s=none:=λk=>by rw[b,C.err k];rfl
 by_cases d:e=0
 ·subst d;obtain⟨_,_,L,rfl⟩:=C.val (λj=>j rfl);have B:u32 z:=by obtain⟨i,X⟩:=S5 L;exact MS X
  rw[L,bS]at b;cases Q with
  |false=>
   refine gr ?_
   exact⟨.no (by decide) (by rw[b];rfl),rfl⟩
  |true=>
   refine gh ?_
   obtain⟨sb,so,Z,T⟩:=(m.mono H).open (by intro e;have:=cA length e;rw[List.length_map,length_nil]at this;omega)
   cases Z
   refine DW [0,1,2,3,4,5,6,7,108,9,10] [(K,cE (RC ⟨z,true,S,R⟩) 43)] ?_
   refine gg ?_
   refine dq rfl (Aw rfl rfl rfl rfl (by rw[tN,mO];exact(T n (.string (AK l[n])) (by simp[w])).cj _)) ?_
   refine gg ?_
   refine gr ?_
   exact⟨⟨v,z,l[n],0,rfl,U,B,λk=>aD rfl k,.yes _ (by rw[b,E];rfl) rfl⟩,rfl⟩
 refine gj (λh=>aD h d) λ_=>?_;refine gj (λo=>?_) λo=>?_
 ·refine gr ?_;exact⟨.no d (D d),rfl⟩
 exact aD d o
section
open Go.MapKept
section
variable{κ α β:Type}[DecidableEq κ]
def EN(k:κ):List (κ×α)->Option α
 |[]=>none
 |p::l=>if k=p.1 then some p.2 else EN k l
def K6(k:κ)(v:α):List (κ×α)->List (κ×α)
 |[]=>[(k,v)]
 |p::l=>if k=p.1 then (k,v)::l else p::K6 k v l
abbrev Lr(l:List (κ×α)):List κ:=l.map (·.1)
theorem getA_none{k:κ}:∀{l:List (κ×α)},EN k l=none↔k∉Lr l
 |[]=>by simp[EN]
 |p::l=>by
  rw[EN];by_cases h:k=p.1
  ·simp [h]
  rw[iN h,getA_none (l:=l)];simp[h]
theorem TE{k:κ}{v:α}:∀{l:List (κ×α)},(Lr l).Nodup->(k,v)∈l->EN k l=some v
 |p::l,a,h=>by
  simp only[Lr,map_cons,List.nodup_cons]at a;rw[EN];rcases List.mem_cons.1 h with rfl|h
  ·rw [iP rfl]
  have:k≠p.1:=λe=>a.1 (by rw[<-e];exact List.mem_map.2 ⟨_,h,rfl⟩);rw[iN this];exact TE a.2 h
theorem QC{k:κ}{v:α}:∀{l:List (κ×α)},EN k l=some v->∃A B,l=A++(k,v)::B/\k∉Lr A
 |[],h=>by cases h
 |p::l,h=>by
  rw[EN]at h;split at h
  ·rename_i e;cases h;exact⟨[],l,by rw[e];rfl,by simp⟩
  rename_i e;obtain⟨A,B,rfl,a⟩:=QC h;exact⟨p::A,B,rfl,by simp[e];simpa using a⟩
theorem U4{k:κ}{u v:α}:∀{A B:List (κ×α)},k∉Lr A->K6 k v (A++(k,u)::B)=A++(k,v)::B
 |[],B,_=>by simp[K6]
 |p::A,B,h=>by
  simp only[map_cons,List.mem_cons,not_or]at h;rw[List.cons_append,K6,iN h.1,U4 h.2];rfl
theorem U3{k:κ}{v:α}:∀{l:List (κ×α)},k∉Lr l->K6 k v l=l++[(k,v)]
 |[],_=>rfl
 |p::l,h=>by
  simp only[map_cons,List.mem_cons,not_or]at h;rw[K6,iN h.1,U3 h.2];rfl
theorem VX{k x:κ}{v:α}:∀{l:List (κ×α)},EN x (K6 k v l)=if x=k then some v else EN x l
 |[]=>by simp[K6,EN]
 |p::l=>by
  rw[K6];by_cases h:k=p.1
  ·rw [iP h,EN,EN];by_cases a:x=k
   ·simp [a]
   simp[a,<-h]
  rw[iN h,EN,EN,VX];by_cases a:x=p.1
  ·rw [iP a,iP a,iN (λe=>h (by rw[<-e,a]))]
  rw[iN a,iN a]
end
structure KT(κ:Type) where
 K:κ->Value
 d:TypeDesc
 ok:∀a,IsKey d (K a)
 inj:∀a b,K a=K b->a=b
abbrev kU:KT Int:={ K:=λn=>iU n,d:=.int .u32,ok:=λ_=>rfl,inj:=λa b h=>by simpa using h }
variable{κ:Type}
def GD(T:KT κ)(l:List (κ×Value)):List (Value×Value):=l.map λp=>(T.K p.1,p.2)
abbrev kv(e:MapEntry):Value×Value:=(e.key,e.val)
def MapOf(T:KT κ)(o:Obj)(l:List (κ×Value)):Prop:=∃es clock,o=.map es clock/\Stamped es clock/\(∀x∈es.toList,IsKey T.d x.key)/\(es.toList.map kv).Perm (GD T l)
variable{T:KT κ}
theorem MapOf.empty:MapOf T (.map #[] 0) []:=⟨#[],0,rfl,stamped_empty _,by simp,by simp[GD]⟩
variable{clock:Nat}{es:Array MapEntry}{l:List (κ×Value)}
theorem Kx(hs:Stamped es clock)(c:(es.toList.map kv).Perm (GD T l)):(Lr l).Nodup:=by
 have b:((es.toList.map kv).map (·.1)).Perm ((GD T l).map (·.1)):=c.map _;simp only[List.map_map]at b;have d:(es.toList.map ((·.1)∘kv)).Nodup:=hs.2.2;have a:=b.nodup_iff.1 d;have e:(GD T l).map (·.1)=(Lr l).map T.K:=by simp[GD]
 rw[e]at a;exact(List.pairwise_map.1 a).imp λh e=>h (by rw[e])
theorem Wb[DecidableEq κ](hs:Stamped es clock)(hk:∀x∈es.toList,IsKey T.d x.key)(f:(es.toList.map kv).Perm (GD T l))(k:κ):
  (Instr.findNow T.d (T.K k) es.toList 0=some none/\EN k l=none/\∀x∈es.toList,x.key≠T.K k)\/∃j e,Instr.findNow T.d (T.K k) es.toList 0=some (some (j,e.val))/\es.toList[j]? =some e/\e.key=T.K k/\EN k l=some e.val:=by
 rcases findNow_spec (T.ok k) es.toList 0 hk with⟨h,b⟩|⟨j,e,h,b,i⟩
 ·refine .inl ⟨h,getA_none.2 λg=>?_,b⟩;obtain⟨p,a,rfl⟩:=List.mem_map.1 g;have:(T.K p.1,p.2)∈es.toList.map kv:=f.mem_iff.2 (List.mem_map.2 ⟨p,a,rfl⟩);obtain⟨x,m,c⟩:=List.mem_map.1 this;exact b x m (cA Prod.fst c)
 refine .inr ⟨j,e,by simpa using h,b,i,?_⟩;have g:kv e∈GD T l:=f.mem_iff.1 (List.mem_map.2 ⟨e,List.mem_of_getElem? b,rfl⟩);obtain⟨p,a,c⟩:=List.mem_map.1 g;have s:T.K p.1=T.K k:=(cA Prod.fst c).trans i;have o:p.2=e.val:=cA Prod.snd c;have n:=T.inj _ _ s;refine TE (Kx hs f) ?_;rw[<-n,<-o];exact a
variable{k:κ}
theorem Va[DecidableEq κ]{es a:List MapEntry}{v:Value}(s:(Lr l).Nodup)(c:(es.map kv).Perm (GD T l))
  (h:(EN k l=none/\a.map kv=es.map kv++[(T.K k,v)])\/∃(j:Nat)(e:MapEntry),es[j]? =some e/\e.key=T.K k/\a.map kv=(es.map kv).set j (T.K k,v)):(a.map kv).Perm (GD T (K6 k v l)):=by
 rcases h with⟨b,i⟩|⟨j,e,b,i,D⟩
 ·rw [i,U3 (getA_none.1 b)];simp only[GD,map_append,map_cons,List.map_nil];exact c.append_right _
 have w:j<(es.map kv).length:=by simpa using (List.getElem?_eq_some_iff.1 b).1
 have u:kv e∈GD T l:=c.mem_iff.1 (List.mem_map.2 ⟨e,List.mem_of_getElem? b,rfl⟩);obtain⟨p,d,m⟩:=List.mem_map.1 u;have n:p.1=k:=T.inj _ _ ((cA Prod.fst m).trans i);obtain⟨o,p2⟩:=p;simp only at n;subst n;obtain⟨A,B,F,y⟩:=QC (TE s d);rw[F]at c⊢;rw[U4 y,D,List.set_eq_take_append_cons_drop,iP w];have E:es.map kv=(es.map kv).take j++kv e::(es.map kv).drop (j+1):=by
  have f:(es.map kv)[j]=kv e:=by
   have:=(List.getElem?_eq_some_iff.1 b).2;simp[this]
  rw[<-f,List.getElem_cons_drop,List.take_append_drop]
 have g:(T.K o,p2)=kv e:=m;have C:((es.map kv).take j++kv e::(es.map kv).drop (j+1)).Perm (GD T A++kv e::GD T B):=by
  rw[<-E];refine c.trans ?_;simp only[GD,map_append,map_cons,g];exact List.Perm.refl _
 have z:((es.map kv).take j++(es.map kv).drop (j+1)).Perm (GD T A++GD T B):=(List.perm_middle.symm.trans (C.trans List.perm_middle)).cons_inv;refine List.perm_middle.trans ((List.Perm.cons _ z).trans ?_);simp only[GD,map_append,map_cons];exact List.perm_middle.symm
variable{e:MapEntry}{f:MapEntry->MapEntry}{j:Nat}
theorem XI(h:es[j]? =some e):(es.modify j f).toList.map kv=(es.toList.map kv).set j (kv (f e)):=by
 apply List.ext_getElem?;intro i;rw[List.getElem?_set];simp only[List.getElem?_map,Array.getElem?_toList,Array.getElem?_modify];by_cases a:j=i
 ·subst a;obtain⟨c,b⟩:=Array.getElem?_eq_some_iff.1 h;simp[c,b]
 simp[a]
theorem MapOf.lay[DecidableEq κ]{v:Value}(hs:Stamped es clock)(hk:∀x∈es.toList,IsKey T.d x.key)(c:(es.toList.map kv).Perm (GD T l))(b:EN k l=none)(e:∀x∈es.toList,x.key≠T.K k):
  MapOf T (.map (es.push { key:=T.K k,val:=v,born:=clock }) (clock+1)) (K6 k v l):=by
 refine⟨_,_,rfl,stamped_push hs e,?_,Va (Kx hs c) c (.inl ⟨b,by simp⟩)⟩;intro x a;simp only[Array.toList_push,List.mem_append,List.mem_singleton]at a;rcases a with a|rfl
 ·exact hk x a
 exact T.ok k
theorem MapOf.turn[DecidableEq κ]{v:Value}(hs:Stamped es clock)(hk:∀x∈es.toList,IsKey T.d x.key)(i:(es.toList.map kv).Perm (GD T l))(h:es[j]? =some e)(m:e.key=T.K k)
  (n:∀x,(f x).born=x.born) (g:kv (f e)=(T.K k,v)):MapOf T (.map (es.modify j f) clock) (K6 k v l):=by
 have b:∀c,es[j]? =some c->(f c).key=c.key:=λc a=>by rw[h]at a;cases a;rw[m];exact cA Prod.fst g
 refine⟨_,_,rfl,stamped_modify hs _ _ (λx _=>n x) (λc _ a=>b c a),isKey_modify hk _ _ b,Va (Kx hs i) i (.inr ⟨j,e,by simpa using h,m,?_⟩)⟩;rw[XI h,g]
def OJ(M:Mem)(L:Lc)(b:Nat)(o:Obj):Prop:=M b=some o\/(b,o)∈L
variable{L:Lc}{M:Mem}{b:Nat}{o:Obj}{w:World}
theorem OJ.heap(h:OJ M L b o)(a:Js M L w):w.heap[b]? =some o:=h.elim (a.agree _ _) (a.locs (b,o))
theorem OJ.of[h:At b o L]:OJ M L b o:=.inr h.mem
section
variable{P:Program}{ops:Array Oper}{N:Fs}{F:Fr}{E:Ent}{M:Mem}{L:Lc}{o:Oper}
theorem wAc{c:TypeId}{z:Value}(a:(P.info? c).bind (·.zero)=some z)(w:World):(zeroValue c).run P w=.ok z w:=by
 cases b:P.info? c with
 |none=>rw[b]at a;cases a
 |some d=>
  rw[b]at a
  have e:d.zero=some z:=a
  simp[zeroValue,typeInfo,b,e]
theorem UL[DecidableEq κ](T:KT κ){t g n:TypeId}(h:P.underlying t=some (.map g n))(hk:P.underlying g=some T.d){z:Value}{w:World}(o:(zeroValue n).run P w=.ok z w){b:Nat}{f:Obj}{l:List (κ×Value)}(u:w.heap[b]? =some f)(s:MapOf T f l)(k:κ)(c:Bool):
  (Instr.lookup t (.map (some b)) (T.K k) c).run P w=.ok (if c then .tuple #[(EN k l).getD z,.bool (EN k l).isSome]else (EN k l).getD z) w:=by
 obtain⟨es,clock,rfl,C,B,y⟩:=s;have i:=MapKept.run_getObj_map (P:=P) (w:=w) (r:=b) u;rcases Wb C B y k with⟨a,m,_⟩|⟨j,e,a,m,E,D⟩
 ·cases c<;>simp[Instr.lookup,run_underlying h,i,run_checkKey hk (T.ok k),run_findKey hk a,Result.andThen,o,m]
 cases c<;>simp[Instr.lookup,run_underlying h,i,run_checkKey hk (T.ok k),run_findKey hk a,Result.andThen,D]
theorem wHo[DecidableEq κ](T:KT κ){t e g:TypeId}{x y:Operand}{b:Nat}{k:κ}{c:Obj}{l:List (κ×Value)}{z:Value}(B:gd ops F o=some true)(s:o.op=.lookup t x y false)(j:ev F x=some (.map (some b)))(i:ev F y=some (T.K k))
  [n:Und P t (.map e g)] [hk:Und P e T.d] (C:(P.info? g).bind (·.zero)=some z) (D:OJ M L b c) (u:MapOf T c l):QF P ops N F M L o ((EN k l).getD z):=Br B λa f w m=>by
 have:=UL (P:=P) T n.h hk.h (wAc C w) (D.heap m) u k false
 simp only[Bool.false_eq_true,if_false]at this
 simp[execOp,s,f.ev j,f.ev i,this]
theorem wEd{t:TypeId}(e:gd ops F o=some true)(d:o.op=.makeMap t none):
  HF P ops N F E M L o (λv f g=>∃b,v=.map (some b)/\M=f/\g=(b,.map #[] 0)::L):=CG e λa w h c=>
 ⟨_,_,M,_,.inl (by simp[execOp,d,Instr.makeMap,newObj];rfl),c.alloc (.map #[] 0),_,rfl,rfl,rfl⟩
theorem St.setRm{b:Nat}{c mo':Obj}{L2:Lc}[f:Rm b c L L2]{w:World}(e:St E M L w):w.heap[b]? =some c/\St E M ((b,mo')::L2) { w with heap:=w.heap.setIfInBounds b mo' }:=by
 have a:=e.perm f.perm;have d:w.heap[b]? =some c:=(a.locs (b,c) (by simp)).1;exact⟨d,St.setObj (A:=[]) (B:=L2) a rfl rfl rfl (by simp) (heap_set d).1 (λk g=>(heap_set d).2 k g)⟩
theorem wLi[DecidableEq κ](T:KT κ){t H V:TypeId}{x y z:Operand}{b:Nat}{k:κ}{v:Value}{G:Obj}{l:List (κ×Value)}{L2:Lc}(U:gd ops F o=some true)(c:o.op=.mapUpdate t x y z\/o.op=.insert t x y z)(O:ev F x=some (.map (some b)))(J:ev F y=some (T.K k))(I:ev F z=some v)
  [Q:Und P t (.map H V)] [hk:Und P H T.d] [Y:Rm b G L L2] (S:MapOf T G l):HF P ops N F E M L o (λ_ W X=>M=W/\∃mo',X=(b,mo')::L2/\MapOf T mo' (K6 k v l)):=CG U λa w f m=>by
 obtain⟨es,clock,rfl,B,u,s⟩:=S
 have n:=(m.setRm (b:=b) (mo':=.map es clock)).1
 have g:=MapKept.run_getObj_map (P:=P) (w:=w) (r:=b) n
 rcases Wb B u s k with⟨D,C,i⟩|⟨j,e,D,C,i,Z⟩
 ·refine ⟨undef,_,M,_,.inr ⟨rfl,?_⟩,(m.setRm (b:=b) (mo':=.map (es.push { key:=T.K k,val:=v,born:=clock }) (clock+1))).2,rfl,_,rfl,MapOf.lay B u s C i⟩
  have:(Instr.mapUpdate t (.map (some b)) (T.K k) v).run P w=.ok () { w with heap:=w.heap.setIfInBounds b (.map (es.push { key:=T.K k,val:=v,born:=clock }) (clock+1)) }:=by
   simp[Instr.mapUpdate,run_underlying Q.h,g,run_checkKey hk.h (T.ok k),run_findKey hk.h D,Result.andThen,run_setObj_map _ n]
  rcases c with c|c<;>simp[execOp,c,f.ev O,f.ev J,f.ev I,this]
 have R:es[j]? =some e:=by simpa using C
 refine⟨undef,_,M,_,.inr ⟨rfl,?_⟩,(m.setRm (b:=b) (mo':=.map (es.modify j λe=>{ e with key:=T.K k,val:=v }) clock)).2,rfl,_,rfl,MapOf.turn B u s R i (λ_=>rfl) rfl⟩
 have:(Instr.mapUpdate t (.map (some b)) (T.K k) v).run P w=.ok () { w with heap:=w.heap.setIfInBounds b (.map (es.modify j λe=>{ e with key:=T.K k,val:=v }) clock) }:=by
  simp[Instr.mapUpdate,run_underlying Q.h,g,run_checkKey hk.h (T.ok k),run_findKey hk.h D,Result.andThen,R,i,run_keyThatStays (T.ok k),run_setObj_map _ n]
 rcases c with c|c<;>simp[execOp,c,f.ev O,f.ev J,f.ev I,this]
end
end
section
open Go.MapKept
theorem Si:∀(n:Nat)(l:List Int),l.Nodup->(∀x∈l,1<=x/\x<=n)->l.length<=n
 |0,[],_,_=>lR
 |0,x::l,_,h=>by have:=h x (by simp);omega
 |n+1,l,a,h=>by
  have d:=Si n (l.erase ((n:Int)+1)) (a.erase _) (λx e=>by
   have c:=(List.Nodup.mem_erase_iff a).1 e;have f:=h x c.2;have:x≠(n:Int)+1:=c.1;omega)
  by_cases b:((n:Int)+1)∈l
  ·rw [List.length_erase_of_mem b]at d;omega
  rw[List.erase_of_not_mem b]at d;omega
def stI(p:Po)(v:Int)(rec:Int->List Int->Option (Bool×List Int))(a:Option (Bool×List Int))(y:LZ):Option (Bool×List Int):=a.bind λa=>if a.1=true then some a else (C4 p v y.2).bind λz=>if z.dir then rec y.2 a.2 else some a
def VH(p:Po)(v id:Int):Nat->Int->List Int->Option (Bool×List Int)
 |0,_,_=>none
 |n+1,f,seen=>if id=f\/f∈seen then some (decide (id=f),seen)else (DG p v f).bind λl=>l.1.foldl (stI p v (VH p v id n)) (some (false,f::seen))
variable{rec:Int->List Int->Option (Bool×List Int)}{s:List Int}
theorem UB{p:Po}{v:Int}:∀(l:List LZ),l.foldl (stI p v rec) (some (true,s))=some (true,s)
 |[]=>rfl
 |y::l=>by rw[List.foldl_cons];exact UB l
def MpS(mo:Obj)(seen:List Int):Prop:=∃l,MapOf kU mo l/\∀k,EN k l=if k∈seen then some (.bool true)else none
variable{f:Int}{l:List (Int×Value)}{mo:Obj}{seen:List Int}
theorem MpS.put(h:MapOf kU mo (K6 f (.bool true) l))(a:∀k,EN k l=if k∈seen then some (.bool true)else none):MpS mo (f::seen):=⟨_,h,λk=>by
 rw[VX,a]
 by_cases e:k=f
 ·simp [e]
 simp[e]⟩
structure SeO(seen:List Int):Prop where
 nd:seen.Nodup
 bd:∀k∈seen,1<=k/\k<=1048576
structure InI where
 k:Nat
 seen:List Int
 mo:Obj
 M:Mem
theorem wCw{p:Po}{v i:Int}{r:List LZ×List Int}(h:DG p v i=some r):∀y∈r.1,1<=y.2/\y.2<=1048576:=by
 unfold DG at h;obtain⟨z,_,h⟩:=oB h;split at h
 ·obtain ⟨l,_,h⟩:=oB h;have:∀(l:List It)(a:Option (List LZ×List Int)),(∀r,a=some r->∀y∈r.1,1<=y.2/\y.2<=1048576)->∀r,l.foldl WJ a=some r->∀y∈r.1,1<=y.2/\y.2<=1048576:=λl=>by
   induction l with
   |nil=>intro a e r b;exact e r b
   |cons s l j=>
    intro a e r b
    refine j (WJ a s) (λr b=>?_) r b
    unfold WJ at b
    obtain⟨w,k,m⟩:=oB b
    obtain⟨n,c,f⟩:=oB m
    split at f
    ·cases f
    cases f
    intro y d
    rcases mA d with d|d
    ·exact e w k y d
    rw[mS d]
    unfold Yy at c
    split at c
    ·cases c
    dsimp only at c
    split at c
    ·rename_i g;cases c;exact⟨g.1,g.2.1⟩
    cases c
  exact this l _ (λr b=>by cases b;simp) r h
 cases h
theorem wJi(p:Po)(x:V5)(v J:Int)(n:Nat):∀(f:Int)(seen:List Int)(M:Mem)(b:Nat)(mo:Obj),PW M x p->MpS mo seen->SeO seen->1<=f/\f<=1048576->1048576<n+seen.length->
  Sg 142 #[DM p x,iU v,iU J,iU f,.map (some b)] M [(b,mo)] λu M' L'=>∃(is:Bool)(e:Int)(R:Obj),u=.tuple #[.bool is,iL e]/\L'=[(b,R)]/\Rs (VH p v J n f seen) e λr=>r.1=is/\MpS R r.2/\SeO r.2/\seen.length<=r.2.length:=by
 induction n with
 |zero=>
  intro f seen M b mo h hm L hf hn
  have:=Si 1048576 seen L.nd L.bd
  omega
 |succ n ih=>
 intro f seen M b mo h hm L hf hn;obtain⟨l0,X,G⟩:=_root_.id hm;refine sB func142 ntmps142 ?_;intro W;refine gA λb5=>?_;rw[VH];by_cases I:J=f
 ·refine gj (λ_=>?_) λh2=>aD I h2;refine gh ?_;refine zd [(b,mo)] rfl ?_;exact⟨true,0,mo,by rw[dT I];rfl,rfl,.yes _ (iP (.inl I)) ⟨dT I,hm,L,lR⟩⟩
 refine gj (λh2=>aD h2 I) λ_=>?_;refine gg ?_;refine lq (wHo kU (k:=f) (z:=.bool false) rfl rfl rfl rfl (by kernel_rfl) OJ.of X) ?_;rw[G];by_cases h3:f∈seen
 ·rw [iP h3,Option.getD_some];refine gh ?_;refine zd [(b,mo)] rfl ?_;exact⟨false,0,mo,by rw[dF I];rfl,rfl,.yes _ (iP (.inr h3)) ⟨dF I,hm,L,lR⟩⟩
 rw[iN h3,Option.getD_none];rw[iN (λk=>k.elim I h3)];refine gg ?_;refine Dv rfl (wLi kU (k:=f) rfl (.inl rfl) rfl rfl rfl X) ?_;rintro _ _ _ ⟨rfl,B,rfl,V⟩;have ag:MpS B (f::seen):=MpS.put V G;have ae:SeO (f::seen):=⟨List.nodup_cons.2 ⟨h3,L.nd⟩,λk hk=>(List.mem_cons.1 hk).elim (λe=>by rw[e];exact hf) (L.bd k)⟩;refine gh ?_;refine gc (Hd p x M h v f (by unfold u32;omega)) ?_;rintro _ M2 ab ⟨l,sl,w,e,rfl,⟨w2,hw⟩,hr⟩;obtain⟨a,c,a2,c2,rfl,rfl,hc,ap,af,al,hl,ao,am⟩:=hw;refine gj (λF=>?_) λF=>?_
 ·refine gh ?_;refine zd [(b,B)] rfl ?_;exact⟨false,e,B,rfl,rfl,.no F (by rw[hr.err F];rfl)⟩
 obtain⟨rfl,_,U,rfl⟩:=hr.val F;rw[U,bS];have H:=wCw U;dsimp only at H⊢;refine gg ?_;refine Cy (α:=InI) (λz=>[(1,iU v),(2,iU J),(4,.map (some b)),(5,pB b5),(43,.slice a l.length c),(44,iL l.length),(45,iL z.k)]) (λz=>z.M) (λz=>[(b,z.mo),GJ b5 x p.gen p.root p.next]) (λz=>z.k<=l.length/\(l.take z.k).foldl (stI p v (VH p v J n)) (some (false,f::seen))=some (false,z.seen)/\MpS z.mo z.seen/\SeO z.seen/\seen.length+1<=z.seen.length/\MLe M2 z.M) (λz=>l.length-z.k) ⟨0,f::seen,B,M2⟩ ⟨zL,rfl,ag,ae,by simp,mR⟩ ?_;rintro⟨k,Q,mk,Mk⟩ ⟨hk,O,D,C,Y,o⟩;try dsimp only at hk O D C Y o⊢
 refine gj (λak=>?_) λak=>?_
 ·have g:k<l.length:=by omega
  obtain⟨sb,so,e0,hx⟩:=(af.mono o).open (by intro e;have:=cA length e;rw[Af HJ 2 FQ,length_nil]at this;omega);cases e0;have aa:=Bx HJ 2 FQ hx (List.getElem?_eq_getElem g);have Z:=H l[k] (List.getElem_mem g);have d:(l.take (k+1)).foldl (stI p v (VH p v J n)) (some (false,f::seen))=(C4 p v l[k].2).bind λz=>if z.dir then VH p v J n l[k].2 Q else some (false,Q):=by
   rw[EO g,O];rfl
  generalize l[k]=nk at aa Z d;obtain⟨n1,n2⟩:=nk;refine gg ?_;refine lq (A0 (cs:=HJ (n1,n2)) rfl rfl rfl rfl rfl (λi v hv=>(aa i v hv).cj _)) ?_;refine gA λau=>?_;refine gc (Es p x Mk (h.mono (ab.trans o)) v n2) ?_;rintro _ M3 P ⟨y,e,rfl,hy⟩;refine gA λaq=>?_;refine gj (λE=>?_) λE=>?_
  ·refine gh ?_;refine zd [(b,mk)] rfl ?_;exact⟨false,e,mk,rfl,rfl,.no E (EX (λ_=>rfl) g ((EO g).symm.trans (d.trans (by rw[hy.err E];rfl))))⟩
  obtain⟨rfl,_,ad,rfl⟩:=hy.val E;rw[ad,bS]at d;obtain⟨y1,yd,y3,y4⟩:=y;cases yd with
  |false=>
   refine gg ?_
   refine lq (Aw rfl rfl rfl rfl (CJ.loc rfl)) ?_
   refine gh ?_
   refine BB ⟨k+1,Q,mk,M3⟩ ⟨by show k+1<=l.length;omega,d,D,C,Y,o.trans P⟩
  |true=>
  rw[iP rfl]at d;refine gg ?_;refine lq (Aw rfl rfl rfl rfl (CJ.loc rfl)) ?_;refine gC (ih n2 Q M3 b mk (h.mono ((ab.trans o).trans P)) D C Z (by omega)) ?_;rintro _ M4 _ aj ⟨is,e2,m,rfl,rfl,S⟩;by_cases s:e2=0
  ·subst s;obtain⟨_,⟨i2,s2⟩,ai,e5,N,K,ah⟩:=S.val (λj=>j rfl);dsimp only at e5 N K ah;subst e5;rw[ai]at d;cases i2 with
   |true=>
    refine gh ?_
    refine zd [(b,m)] rfl ?_
    exact⟨true,0,m,rfl,rfl,.yes (true,s2) (by rw[<-List.take_append_drop (k+1) l,List.foldl_append,d,UB]) ⟨rfl,N,K,by show _<=s2.length;omega⟩⟩
   |false=>
    refine gh ?_
    refine BB ⟨k+1,s2,m,M4⟩ ⟨by show k+1<=l.length;omega,d,N,K,by show _<=s2.length;omega,(o.trans P).trans aj⟩
  have T:=S.err s;cases is with
  |true=>
   refine gh ?_
   refine zd [(b,m)] rfl ?_
   exact⟨true,e2,m,rfl,rfl,.no s (EX (λ_=>rfl) g ((EO g).symm.trans (d.trans T)))⟩
  |false=>
   refine gj (λac=>?_) λac=>aD s ac
   refine gh ?_
   refine zd [(b,m)] rfl ?_
   exact⟨false,e2,m,rfl,rfl,.no s (EX (λ_=>rfl) g ((EO g).symm.trans (d.trans T)))⟩
 refine gh ?_;refine zd [(b,mk)] rfl ?_;exact⟨false,0,mk,rfl,rfl,.yes (false,Q) (G7 (k:=k) (by omega) O) ⟨rfl,D,C,by show _<=Q.length;omega⟩⟩
def UP(p:Po)(v i:Int)(s:List By)(w j:Int)(t:List By):Option Po:=(Gc p v i s).bind λx=>if EV p w j t (decide (v=w/\i=j))=true/\v=w/\(x.dir=true->(VH p v j 1048577 x.id []).map (·.1)=some false)then (Ei p v i s).bind λq=>Hi q w j t x.id else none
theorem wCp(p:Po)(x:V5)(M:Mem)(h:PW M x p)(v i:Int)(hv:u32 v)(Y:u32 i)(s:List By)(w j:Int)(hw:u32 w)(X:u32 j)(t:List By):Sg 73 #[DM p x,Gh v i,.string (AK s),Gh w j,.string (AK t)] M [] λu M' L'=>PoR (UP p v i s w j t) u M'/\L'=[]:=by
 refine sB func73 ntmps73 ?_;intro W;refine ga4 λb5 b6 b8 ac=>?_;refine gc (H0 p x M h v i Y s) ?_;rintro _ M1 C ⟨z,e,rfl,hz⟩;refine gA λT=>?_;refine gj (λm=>?_) λm=>?_;rotate_left
 ·refine gj (λl=>?_) λl=>aD m l;refine gr ?_;exact⟨.no m (by unfold UP;rw[hz.err m];rfl),rfl⟩
 obtain⟨_,_,I,rfl⟩:=hz.val (λk=>k m);subst m;have H:=Gx (QK I);have d:UP p v i s w j t=if EV p w j t (decide (v=w/\i=j))=true/\v=w/\(z.dir=true->(VH p v j 1048577 z.id []).map (·.1)=some false)then (Ei p v i s).bind λq=>Hi q w j t z.id else none:=by unfold UP;rw[I];rfl
 refine gg ?_;refine DW [0,1,2,3,4,5,106,7] [GJ b5 x p.gen p.root p.next,(b6,cE [iU v,iU i] 123),(b8,cE [iU w,iU j] 123)] ?_;refine gg ?_;refine dq rfl (wVx (ns:=[v,i]) (ms:=[w,j]) rfl rfl rfl rfl rfl rfl ⟨rfl,rfl⟩) ?_;refine gg ?_;refine dh rfl (hC (HW p x M1 (h.mono C) w j X t (decide ([v,i]=[w,j])))) ?_;rintro _ M2 _ ⟨B,R,rfl,⟨e,rfl,Z⟩,rfl⟩;rw[show decide ([v,i]=[w,j])=decide (v=w/\i=j)by simp]at Z;refine⟨B,by simp,?_⟩;refine gg ?_;refine gj (λl=>?_) λl=>?_
 ·refine gr ?_;exact⟨.no l (by rw[d,iN λk=>l (Z.2 k.1)]),rfl⟩
 have N:=Z.1 (nN l);refine gj (λG=>?_) λG=>?_
 ·refine gr ?_;exact⟨.no (by decide) (by rw[d,iN λk=>G k.2.1]),rfl⟩
 have J:v=w:=nN G;obtain⟨z1,zd,z3,z4⟩:=z;dsimp only at H;cases zd with
 |false=>
  rw[iP ⟨N,J,λk=>by cases k⟩]at d
  refine gg ?_
  refine lq (Aw rfl rfl rfl rfl (CJ.loc rfl)) ?_
  refine gg ?_
  refine DW [0,1,2,4,5,6,7,103,108,109,110,11,12,113,14] [GJ b5 x p.gen p.root p.next,(b6,cE [iU v,iU i] 123),(b8,cE [iU w,iU j] 123),(T,cE [iU z1,.bool false,iL z3,iL z4] 43)] ?_
  refine gg ?_
  refine dh rfl (hC (Fo v i hv Y s M2)) ?_;rintro _ M4 _ ⟨y,R,rfl,n,rfl⟩
  refine⟨y,by simp,?_⟩
  obtain⟨P,S,rfl⟩:=n.form
  refine dh rfl (hC (Jz w j hw X t z1 M4)) ?_;rintro _ M5 _ ⟨f,R,rfl,c,rfl⟩
  refine⟨f,by simp,?_⟩
  obtain⟨O,Q,rfl⟩:=c.form
  refine dh rfl (HF.fz1 (K:=λw b U=>w=.slice (sA b 0) 2 2/\U=cE [.func (.func P) #[] S,.func (.func O) #[] Q] 200) (HF.imp (Ab (cs:=[_,_]) rfl rfl rfl (by rfl) (by rfl) (by rfl)) λv M' L' ⟨b,h1,h2,h3⟩=>⟨b,_,⟨h1,rfl⟩,h2,h3⟩)) ?_;rintro _ M6 _ ⟨a,rfl,bs,_,⟨rfl,rfl⟩,es⟩
  refine⟨a,by simp,?_⟩
  refine dh rfl (hC (Ev p x M6 (h.mono ((((C.trans B).trans y).trans f).trans a)) [(.func (.func P) #[] S,λp=>Ei p v i s),(.func (.func O) #[] Q,λp=>Hi p w j t z1)] (sA bs 0) 2 (SM.of_block es) (par2' (n.mono (f.trans a)) (c.mono a)) (by simp))) ?_;rintro u M7 _ ⟨F,R,rfl,o,rfl⟩
  refine⟨F,by simp,?_⟩
  obtain⟨y2,g,r1,n1,e,rfl,V⟩:=id o
  refine gr ?_
  exact⟨by rw[d];exact o,rfl⟩
 |true=>
  refine gg ?_
  refine lq (Aw rfl rfl rfl rfl (CJ.loc rfl)) ?_
  refine gh ?_
  refine lh (wEd rfl rfl) ?_;rintro _ _ _ ⟨bm,rfl,rfl,rfl⟩
  refine gC (wJi p x v j 1048577 z1 [] M2 bm (.map #[] 0) (h.mono (C.trans B)) ⟨[],MapOf.empty,λk=>by simp[EN]⟩ ⟨List.nodup_nil,λk hk=>by cases hk⟩ H.1 (by simp)) ?_;rintro _ M3 _ aa ⟨is,e2,ab,rfl,rfl,hr⟩
  refine gj (λD=>?_) λD=>?_
  ·refine gr ?_
   exact⟨.no D (by rw[d,iN];rintro⟨_,_,k⟩;have:=k rfl;rw[hr.err D]at this;cases this),rfl⟩
  obtain⟨rfl,r,E,rfl,_,_,_⟩:=hr.val D
  cases L:r.1 with
  |true=>
   refine gr ?_
   exact⟨.no (by decide) (by rw[d,iN];rintro⟨_,_,k⟩;have:=k rfl;dsimp only at this;rw[E,Option.map_some,L]at this;cases this),rfl⟩
  |false=>
  rw[iP ⟨N,J,λ_=>by dsimp only;rw[E,Option.map_some,L]⟩]at d
  refine gg ?_
  refine DW [0,1,2,4,5,6,7,103,108,109,110,11,12,113,14] [GJ b5 x p.gen p.root p.next,(b6,cE [iU v,iU i] 123),(b8,cE [iU w,iU j] 123),(T,cE [iU z1,.bool true,iL z3,iL z4] 43)] ?_
  refine gg ?_
  refine dh rfl (hC (Fo v i hv Y s M3)) ?_;rintro _ M4 _ ⟨y,R,rfl,n,rfl⟩
  refine⟨y,by simp,?_⟩
  obtain⟨P,S,rfl⟩:=n.form
  refine dh rfl (hC (Jz w j hw X t z1 M4)) ?_;rintro _ M5 _ ⟨f,R,rfl,c,rfl⟩
  refine⟨f,by simp,?_⟩
  obtain⟨O,Q,rfl⟩:=c.form
  refine dh rfl (HF.fz1 (K:=λw b U=>w=.slice (sA b 0) 2 2/\U=cE [.func (.func P) #[] S,.func (.func O) #[] Q] 200) (HF.imp (Ab (cs:=[_,_]) rfl rfl rfl (by rfl) (by rfl) (by rfl)) λv M' L' ⟨b,h1,h2,h3⟩=>⟨b,_,⟨h1,rfl⟩,h2,h3⟩)) ?_;rintro _ M6 _ ⟨a,rfl,bs,_,⟨rfl,rfl⟩,es⟩
  refine⟨a,by simp,?_⟩
  refine dh rfl (hC (Ev p x M6 (h.mono (((((C.trans B).trans aa).trans y).trans f).trans a)) [(.func (.func P) #[] S,λp=>Ei p v i s),(.func (.func O) #[] Q,λp=>Hi p w j t z1)] (sA bs 0) 2 (SM.of_block es) (par2' (n.mono (f.trans a)) (c.mono a)) (by simp))) ?_;rintro u M7 _ ⟨F,R,rfl,o,rfl⟩
  refine⟨F,by simp,?_⟩
  obtain⟨y2,g,r1,n1,e,rfl,V⟩:=id o
  refine gr ?_
  exact⟨by rw[d];exact o,rfl⟩
end
end Go.Proofs.YtjheijhahehnmaaGreatDoor
