/- Walks: vol.Lay. No statement of the seat is proved here. -/
import Derived.Test.YtjheijhahehnmaaGreatDoorZHn
import Derived.Test.YtjheijhahehnmaaGreatDoorZFree
import Derived.Test.YtjheijhahehnmaaGreatDoorZShv
import Derived.Test.YtjheijhahehnmaaGreatDoorZDelf
import Derived.Test.YtjheijhahehnmaaGreatDoorZDway
namespace Go.Proofs.YtjheijhahehnmaaGreatDoor
open Go.Proofs.Tryz
set_option linter.unusedSimpArgs false
set_option linter.unusedVariables false
set_option linter.unusedSectionVars false
set_option maxHeartbeats 40000000
set_option maxRecDepth 8000
open Go.RowKit
abbrev gcl(x:V5)(g r n e:Int):List Value:=Bo x g r n++[.int .i64 e]
theorem Q3(p:Po)(x:V5)(M:Mem)(h:PT5 M x p)(b:p.dead.length<=1000000)(q:Int)(a:Nat)(e:Int):
  SpecL prog 109 #[pB a,.int .u32 q] M [(a,cE (gcl x p.gen p.root p.next e) 189)] λu M' d=>u=.agg (DA (As p q)).toArray/\d=[(a,cE (gcl x p.gen p.root p.next (BG p q)) 189)]:=by
 refine sB func109 ntmps109 ?_;intro W;refine ga λf=>?_;refine gc (Dx p x M h b q) ?_;rintro _ g c rfl;refine gh ?_;refine zd ([(a,cE (gcl x p.gen p.root p.next (BG p q)) 189)]) rfl ?_;exact⟨rfl,rfl⟩
theorem wPn(y:V5)(g r1 n e:Int)(M:Mem)(v:Vo)(a:Nat)(b:¬e=0):
  SpecL prog 110 #[pB a,.agg (DA v).toArray] M [(a,cE (gcl y g r1 n e) 189)] λu M' L'=>L'=[(a,cE (gcl y g r1 n e) 189)]:=by
 refine sB func110 ntmps110 ?_;intro W;refine gA λc=>?_;refine gt ?_;refine YU ?_;refine AB (L':=[(a,cE (gcl y g r1 n e) 189)]) (by simp) ?_;refine Pi (rs:=[]) rfl .nil ?_;rfl
theorem wGy(p:Po)(x:V5)(M:Mem)(h:PT5 M x p)(m:p.dead.length<=1000000)(v:Vo)(g:Nat):
  SpecL prog 110 #[pB g,.agg (DA v).toArray] M [(g,cE (gcl x p.gen p.root p.next 0) 189)] λu M' L'=>∃(f e c b:Sl)(i:Int),StQ (KK p.st v.root) M' f e c b i/\MLe M M'/\L'=[(g,cE (gcl ⟨f,e,c,b,x.d⟩ p.gen p.root p.next i) 189)]:=by
 refine sB func110 ntmps110 ?_;intro W;refine gA λl=>?_;refine gt ?_;refine Gt [16,19] [1,12,16,17,18,19] [0,1,2,3,4,5,6,7,8,109,10,11,12,13,14,15,116,17,18,119] M ([(l,cE (DA v) 98),(g,cE (gcl x p.gen p.root p.next 0) 189)]) ([]) ?_;refine gh ?_;refine dh rfl (hC (F5 p.st v.root _ M h.st)) ?_;rintro _ n _ ⟨a,_,rfl,⟨j,rfl⟩⟩;refine⟨a,by simp,?_⟩;simp only[List.nil_append];obtain⟨f,e,c,b,i,rfl,k⟩:=j.q;iterate 3 refine dp rfl rfl ?_
 refine dq rfl (BY rfl rfl rfl) ?_;refine dq rfl (Ac rfl rfl rfl rfl rfl) ?_;refine dq rfl (Ac rfl rfl rfl rfl rfl) ?_;refine Ho rfl rfl (Ao rfl rfl rfl rfl rfl rfl rfl rfl) ?_;rintro _ _ _ ⟨rfl,rfl⟩;refine⟨a,by simp,?_⟩;refine Kn rfl rfl rfl (BY rfl rfl rfl) ?_;refine Kn rfl rfl rfl (Ac rfl rfl rfl rfl rfl) ?_;refine KY rfl rfl (Ao rfl rfl rfl rfl rfl rfl rfl rfl) ?_;rintro _ _ _ ⟨rfl,rfl⟩;refine⟨a,by simp,?_⟩;refine gh ?_;refine YU ?_;refine AB (L':=[(g,cE (gcl ⟨f,e,c,b,x.d⟩ p.gen p.root p.next i) 189)]) (by simp) ?_;refine Pi (rs:=[]) rfl .nil ?_;exact⟨f,e,c,b,i,k,a,rfl⟩
theorem wVg(y:V5)(g r1 n e:Int)(M:Mem)(v:Vo)(a:Nat)(b:¬e=0):
  SpecL prog 111 #[pB a,.agg (DA v).toArray] M [(a,cE (gcl y g r1 n e) 189)] λu M' L'=>L'=[(a,cE (gcl y g r1 n e) 189)]:=by
 refine sB func111 ntmps111 ?_;intro W;refine gA λc=>?_;refine gt ?_;refine YU ?_;refine AB (L':=[(a,cE (gcl y g r1 n e) 189)]) (by simp) ?_;refine Pi (rs:=[]) rfl .nil ?_;rfl
theorem wPh(p:Po)(x:V5)(M:Mem)(h:PT5 M x p)(j:p.dead.length<=1000000)(v:Vo)(f:0<=v.id/\v.id<4294967296)(c:Nat):
  SpecL prog 111 #[pB c,.agg (DA v).toArray] M [(c,cE (gcl x p.gen p.root p.next 0) 189)] λu M' L'=>∃(y:V5)(g b n d:Int),PoQ (Ez p v) M' y g b n d/\L'=[(c,cE (gcl y g b n d) 189)]:=by
 refine sB func111 ntmps111 ?_;intro W;refine gA λk=>?_;refine gt ?_;refine Gt [13,16] [1,10,13,14,15,16] [0,1,2,3,4,5,6,107,8,9,10,11,12,113,14,15,116] M ([(k,cE (DA v) 98),(c,cE (gcl x p.gen p.root p.next 0) 189)]) ([]) ?_;refine gh ?_;refine dh rfl (hC (Kf p x M h j v f)) ?_;rintro _ l _ ⟨a,_,rfl,⟨e,rfl⟩⟩;refine⟨a,by simp,?_⟩;simp only[List.nil_append];obtain⟨y,g,b,n,d,rfl,i⟩:=e.q;iterate 3 refine dp rfl rfl ?_
 refine dq rfl (BY rfl rfl rfl) ?_;refine dq rfl (Ac rfl rfl rfl rfl rfl) ?_;refine Ho rfl rfl (Ao rfl rfl rfl rfl rfl rfl rfl rfl) ?_;rintro _ _ _ ⟨rfl,rfl⟩;refine⟨a,by simp,?_⟩;refine Kn rfl rfl rfl (BY rfl rfl rfl) ?_;refine Kn rfl rfl rfl (Ac rfl rfl rfl rfl rfl) ?_;refine KY rfl rfl (Ao rfl rfl rfl rfl rfl rfl rfl rfl) ?_;rintro _ _ _ ⟨rfl,rfl⟩;refine⟨a,by simp,?_⟩;refine gh ?_;refine YU ?_;refine AB (L':=[(c,cE (gcl y g b n d) 189)]) (by simp) ?_;refine Pi (rs:=[]) rfl .nil ?_;exact⟨y,g,b,n,d,i,rfl⟩
def F6(s:Sto):Prop:=16<=(Jl s 256).length
instance(s:Sto):Decidable (F6 s):=by unfold F6;exact inferInstance
def P7:Except Int Po->Except Int Po
 |.error e=>.error e
 |.ok q=>if F6 q.st then .ok q else .error 9
theorem Ym{p:Po}(h:F6 p.st):P7 (.ok p)=.ok p:=if_pos h
theorem Yn{p:Po}(h:¬F6 p.st):P7 (.ok p)=.error 9:=if_neg h
theorem wVi(y:V5)(g r1 n e:Int)(c:¬e=0)(a:Nat)(M:Mem):
  SpecL prog 112 #[pB a] M [(a,cE (gcl y g r1 n e) 189)] λu M' b=>u=.tuple #[.agg (Bo PP 0 0 0).toArray,.int .i64 e]/\b=[]:=by
 refine sB func112 ntmps112 ?_;intro W;refine gA λd=>?_;refine gt ?_;refine D7 [0,1,2,3,4,105,6] [(a,cE (gcl y g r1 n e) 189)] ?_;refine gr ?_;exact⟨rfl,rfl⟩
theorem wPs(p:Po)(x:V5)(M:Mem)(h:PT5 M x p)(i:p.dead.length<=1000000)(a:Av p.st)(f:Nat):
  SpecL prog 112 #[pB f] M [(f,cE (gcl x p.gen p.root p.next 0) 189)] λu M' g=>PoP (P7 (.ok p)) u M'/\g=[]:=by
 refine sB func112 ntmps112 ?_;intro W;refine gA λm=>?_;refine gt ?_;refine gc (Qa p.st _ _ _ _ M h.b h.w h.n h.l a) ?_;rintro _ o d ⟨k,j,rfl⟩;refine gt ?_;refine gj (λe=>?_) λe=>?_
 ·refine gr ?_;have c:¬F6 p.st:=λh=>by unfold F6 at h;omega
  exact⟨by rw[Yn c];exact⟨by decide,rfl⟩,rfl⟩
 refine gr ?_;have c:F6 p.st:=by unfold F6;omega
 exact⟨by rw[Ym c];exact⟨x,rfl,h.mono d⟩,rfl⟩
abbrev gob(gb:Nat)(y:V5)(g r1 n e:Int):Nat×Obj:=(gb,cE (gcl y g r1 n e) 189)
def Hq(r:Except Int Po)(k:Int):Except Int Po:=match r with
 |.error e=>.error e
 |.ok q=>match KK q.st k with
  |.error e=>.error e
  |.ok t=>.ok ⟨t,q.gen,q.root,q.next,q.dead⟩
def Pj(r:Except Int Po)(v:Vo):Except Int Po:=match r with
 |.error e=>.error e
 |.ok q=>Ez q v
theorem Q2(r:Except Int Po)(y:V5)(g r1 n e:Int)(M:Mem)(h:PoQ r M y g r1 n e)(E:∀q,r=.ok q->q.dead.length<=1000000)(v:Vo)(a:Nat):
  SpecL prog 110 #[pB a,.agg (DA v).toArray] M [gob a y g r1 n e] λ_ M' i=>∃(b:V5)(l:Int),PoQ (Hq r v.root) M' b g r1 n l/\(e≠0->b=y)/\i=[gob a b g r1 n l]:=by
 rcases h with⟨k,rfl⟩|⟨rfl,q,rfl,j,rfl,rfl,rfl⟩
 ·exact (wPn y g r1 n e M v a k).mono λ_ M' i c=>⟨y,e,.inl ⟨k,rfl⟩,λ_=>rfl,c⟩
 refine(wGy q y M j (E q rfl) v a).mono λ_ M' i ⟨u,s,o,m,H,D,F,c⟩=>⟨⟨u,s,o,m,y.d⟩,H,?_,λh=>absurd rfl h,c⟩;rcases D with⟨G,f⟩|⟨rfl,t,f,_,C,B,z,w⟩
 ·exact .inl ⟨G,by unfold Hq;dsimp only;rw[f]⟩
 exact .inr ⟨rfl,⟨t,q.gen,q.root,q.next,q.dead⟩,by unfold Hq;dsimp only;rw[f],⟨C,B,z,w,j.d.mono F⟩,rfl,rfl,rfl⟩
theorem Tl(r:Except Int Po)(y:V5)(g r1 n e:Int)(M:Mem)(h:PoQ r M y g r1 n e)(o:∀q,r=.ok q->q.dead.length<=1000000)(v:Vo)(l:0<=v.id/\v.id<4294967296)(b:Nat):
  SpecL prog 111 #[pB b,.agg (DA v).toArray] M [gob b y g r1 n e] λ_ M' k=>∃(c:V5)(i a d j:Int),PoQ (Pj r v) M' c i a d j/\k=[gob b c i a d j]:=by
 rcases h with⟨f,rfl⟩|⟨rfl,q,rfl,m,rfl,rfl,rfl⟩
 ·exact (wVg y g r1 n e M v b f).mono λ_ M' k s=>⟨y,g,r1,n,e,.inl ⟨f,rfl⟩,s⟩
 exact wPh q y M m (o q rfl) v l b
theorem Tn(r:Except Int Po)(y:V5)(g r1 n e:Int)(M:Mem)(h:PoQ r M y g r1 n e)(b:∀q,r=.ok q->q.dead.length<=1000000/\Av q.st)(a:Nat):
  SpecL prog 112 #[pB a] M [gob a y g r1 n e] λu M' d=>PoP (P7 r) u M'/\d=[]:=by
 rcases h with⟨c,rfl⟩|⟨rfl,q,rfl,i,rfl,rfl,rfl⟩
 ·exact (wVi y g r1 n e c a M).mono λu M' d ⟨f,j⟩=>⟨⟨c,f⟩,j⟩
 exact wPs q y M i (b q rfl).1 (b q rfl).2 a
instance(priority:=low) Pick.more{p q:Nat×Obj}{R L L1 L2:Lc}[h:Pick [p] L L1][h2:Pick (q::R) L1 L2]:Pick (p::q::R) L L2:=⟨h.perm.trans (List.Perm.cons p h2.perm)⟩
def wXu(P:Program)(f:FuncId)(args:Array Value)(M:Mem)(L:Lc)(post:Mem->Lc->Prop):Prop:=
 ∀w,St ⟨w,L.map (·.1),M⟩ M L w->CallsDIn (FF none) 0 P f args .returning w λe u' w'=>u'=.returning/\∃v M' L',e=.returned v/\post M' L'/\St ⟨w,L.map (·.1),M⟩ M' L' w'
def wEd(P:Program)(fn:Func)(E:Ent)(post:Mem->Lc->Prop):Exit->Act->World->Prop:=
 bodyPost P fn λe w'=>∃v M' L',e=.returned v/\post M' L'/\St E M' L' w'
variable{L:Lc}{M:Mem}{P:Program}{c:Code}{f:FuncId}{fn:Func}{post:Mem->Lc->Prop}{vs:List Value}
theorem Yb(N:Nat)(F:Fr)
  (j:P.funcs[f]? =some fn) (k:fn.body=some c) (i:fn.ntmps=N) (b:Nat.ble vs.length N=true) (l:Jr 0 vs=F)
  (h:∀W,JC P ⟨N,[],none⟩ c F ⟨W,L.map (·.1),M⟩ M L (wEd P fn ⟨W,L.map (·.1),M⟩ post)):wXu P f vs.toArray M L post:=by
 intro w g;refine callsDIn_of_wp (F:=FF none) j k trivial (h w _ w ⟨?_,rfl,?_⟩ g) rfl
 ·have:vs.length<=N:=by simpa using b
  simp[i];omega
 intro t v d;rw[<-l]at d;obtain⟨_,e⟩:=Pz vs 0 t v d;have a:t<vs.length:=(List.getElem?_eq_some_iff.1 (by simpa using e)).1;simp only[List.size_toArray];rw[Array.getElem?_append_left (by simpa using a)];simpa using e
variable{E:Ent}{F:Fr}{N:Fs}
theorem YT(h:JQ N .ret F E M L (wEd P fn E post)):JQ N .normal F E M L (wEd P fn E post):=h
variable{a:Act}{e:Exit}{w:World}
theorem wWe(h:wEd P fn E post e a w):Bz P fn E (λ_=>post) e a w:=by
 cases e with
 |normal=>obtain⟨b,h⟩:=h;show LeavesInM _ _ _ _ _ _ a.defers _ _;rw[b];exact h
 |ret=>obtain⟨b,h⟩:=h;show LeavesInM _ _ _ _ _ _ a.defers _ _;rw[b];exact h
 |panic c=>obtain⟨b,h⟩:=h;show LeavesInM _ _ _ _ _ _ a.defers _ _;rw[b];exact h
 |outgrown=>exact h
 |exit i=>exact h
 |goto l=>exact h
variable{n:Nat}
theorem YV(h:JQ ⟨n,[],none⟩ .ret F E M L (Bz P fn E λ_=>post)):JQ ⟨n,[],none⟩ .ret F E M L (wEd P fn E post):=λa w d e=>by
 have b:=h a w d e
 have c:a.defers=[]:=d.defers
 change LeavesInM _ _ _ _ _ _ a.defers _ _ at b
 rw[c]at b
 exact⟨c,b⟩
def SpecB(P:Program)(f:FuncId)(args:Array Value)(M:Mem)(L:Lc)(post:Mem->Lc->Prop):Prop:=wXu P f args M L post/\SpecL P f args M L λ_=>post
variable{args:Array Value}
theorem SpecB.mono{d:Mem->Lc->Prop}(h:SpecB P f args M L post)(g:∀M' L',post M' L'->d M' L'):SpecB P f args M L d:=
 ⟨λw i=>(h.1 w i).mono λ_ _ _ ⟨e,v,M',L',a,b,c⟩=>⟨e,v,M',L',a,g _ _ b,c⟩,h.2.mono λ_ M' L'=>g M' L'⟩
theorem G6(N:Nat)(F:Fr)
  (e:P.funcs[f]? =some fn) (g:fn.body=some c) (d:fn.ntmps=N) (b:Nat.ble vs.length N=true) (i:Jr 0 vs=F)
  (h:∀W,JC P ⟨N,[],none⟩ c F ⟨W,L.map (·.1),M⟩ M L (wEd P fn ⟨W,L.map (·.1),M⟩ post)):SpecB P f vs.toArray M L post:=
 ⟨Yb N F e g d b i h,DX N F e g d b i λW a w l j=>wpIn_mono (h W a w l j) λ_ _ _ k=>wWe k⟩
variable{D:List Deferred}{cap:Array Value}{post1:Mem->Lc->Prop}
theorem BU{R L2:Lc}{post:Value->Mem->Lc->Prop}{b:Array Value}(d:args++cap=b)(hgo:Dn P f=true)
  (hs:SpecB P f b M R post1) [m:Pick R L L2] (h:∀M' g,MLe M M'->post1 M' g->JQ ⟨n,D,none⟩ .ret F E M' (g++L2) (Bz P fn E post)):
  JQ ⟨n,⟨.fn (.func f) cap,args⟩::D,none⟩ .ret F E M L (Bz P fn E post):=λa w j l=>by
 have i:a.defers=⟨.fn (.func f) cap,args⟩::D:=j.defers
 have c:=l.perm m.perm
 show LeavesInM _ _ _ _ _ _ a.defers _ _
 rw[i]
 refine⟨by simp,.inr ⟨Fy _ _,.func f,cap,f,b,rfl,?_,λ_ _=>trivial,(hs.1 w c.into).mono λe B k o=>?_⟩⟩
 ·subst d;simp[invoke,Hb hgo]
 obtain⟨rfl,v,M',g,rfl,z,y⟩:=o
 obtain⟨u,s⟩:=c.back y
 exact h M' g s z { a with defers:=D } k ⟨j.size,rfl,j.get⟩ u
section
variable{P:Program}{ops:Array Oper}{F:Fr}{E:Ent}{M:Mem}{L:Lc}{o:Oper}{Q:Exit->Act->World->Prop}{rest:List Oper}
theorem LU{n:Nat}{D:List Deferred}{x:Operand}{xs:List Operand}{T:Array TypeId}{f:FuncId}{first b vs:List Value}(j:gd ops F o=some true)(l:o.dst=none)
  (i:o.op=.defer { callee:=.value x,args:=xs.toArray,argTypes:=T }) (d:ev F x=some (.func (.func f) first.toArray b.toArray)) (h:evs F xs=some vs)
  (k:JL P ops ⟨n,⟨.fn (.func f) b.toArray,(first++vs).toArray⟩::D,none⟩ Q rest F E M L):JL P ops ⟨n,D,none⟩ Q (o::rest) F E M L:=λa w c g=>by
 unfold wpListIn
 rw[if_pos (Fq c j)]
 refine⟨λ_ _=>trivial,?_⟩
 have m:(o.semAt (FF none).round a.eval).run P w=.ok (.defer ⟨.fn (.func f) b.toArray,(first++vs).toArray⟩) w:=by
  show (o.semAt none a.eval).run P w=_;rw[Oper.semAt_none];have e:=c.evs h;simp[execOp,i,resolve,c.ev d,Deferred.ofValue,e]
 rw[m,Oper.uponIn_defer,l]
 exact k { a with defers:=⟨.fn (.func f) b.toArray,(first++vs).toArray⟩::a.defers } w ⟨c.size,by show _::a.defers=_;rw[c.defers],c.get⟩ g
end
abbrev Gz:V5:=⟨⟨none,0,0⟩,⟨none,0,0⟩,⟨none,0,0⟩,⟨none,0,0⟩,⟨none,0,0⟩⟩
def PoZ(r:Except Int Po)(M':Mem)(y:V5)(g r1 n e:Int):Prop:=PoQ r M' y g r1 n e/\(e≠0->y=PP/\g=0/\r1=0/\n=0)
variable{M':Mem}{g:Int}{y:V5}
theorem PoZ.p{r:Except Int Po}{r1 n e:Int}(h:PoZ r M' y g r1 n e):PoP r (.tuple #[.agg (Bo y g r1 n).toArray,.int .i64 e]) M':=by
 obtain⟨a,rfl⟩|⟨rfl,q,rfl,b,rfl,rfl,rfl⟩:=h.1
 ·obtain ⟨rfl,rfl,rfl,rfl⟩:=h.2 a;exact⟨a,rfl⟩
 exact⟨y,rfl,b⟩
theorem wKq(y:V5)(g r1 n e:Int)(d:¬e=0)(a b:Nat)(M:Mem):
  SpecB prog 100 #[pB a,pB b] M [(a,cE (Bo y g r1 n) 32),(b,cE [.int .i64 e] 40)] λ_ c=>c=[(a,cE (Bo PP 0 0 0) 32),(b,cE [.int .i64 e] 40)]:=by
 refine G6 (vs:=[_,_]) 34 _ func100 rfl ntmps100 rfl rfl ?_;intro W;refine gt ?_;refine YT ?_;refine YV ?_;refine Pi (rs:=[]) rfl .nil ?_;rfl
theorem wEb(p:Po)(x:V5)(M:Mem)(h:PT5 M x p)(o:p.dead.length<=1000000)(c:Av p.st)(a j:Nat):
  SpecB prog 100 #[pB a,pB j] M [(a,cE (Bo x p.gen p.root p.next) 32),(j,cE [.int .i64 0] 40)] λM' m=>∃(y:V5)(g k n e:Int),PoZ (P7 (.ok p)) M' y g k n e/\m=[(a,cE (Bo y g k n) 32),(j,cE [.int .i64 e] 40)]:=by
 refine G6 (vs:=[_,_]) 34 _ func100 rfl ntmps100 rfl rfl ?_;intro W;refine gt ?_;refine gc (Qa p.st _ _ _ _ M h.b h.w h.n h.l c) ?_;rintro _ z f ⟨u,s,rfl⟩;refine gt ?_;refine gj (λi=>?_) λi=>?_
 ·refine gt ?_;refine YT ?_;refine YV ?_;refine Pi (rs:=[]) rfl .nil ?_;have d:¬F6 p.st:=λh=>by unfold F6 at h;omega
  exact⟨PP,0,0,0,9,⟨.inl ⟨by decide,Yn d⟩,λ_=>⟨rfl,rfl,rfl,rfl⟩⟩,rfl⟩
 refine gt ?_;refine YT ?_;refine YV ?_;refine Pi (rs:=[]) rfl .nil ?_;have d:F6 p.st:=by grind[F6]
 exact⟨x,_,_,_,0,⟨.inr ⟨rfl,p,Ym d,h.mono f,rfl,rfl,rfl⟩,λh=>absurd rfl h⟩,rfl⟩
theorem Cr(r:Except Int Po)(y:V5)(g r1 n e:Int)(M:Mem)(h:PoQ r M y g r1 n e)(j:∀q,r=.ok q->q.dead.length<=1000000/\Av q.st)(a b:Nat):
  SpecB prog 100 #[pB a,pB b] M [(a,cE (Bo y g r1 n) 32),(b,cE [.int .i64 e] 40)] λM' d=>∃(y:V5)(g r1 n e:Int),PoZ (P7 r) M' y g r1 n e/\d=[(a,cE (Bo y g r1 n) 32),(b,cE [.int .i64 e] 40)]:=by
 rcases h with⟨c,rfl⟩|⟨rfl,q,rfl,i,rfl,rfl,rfl⟩
 ·exact (wKq y g r1 n e c a b M).mono λM' d f=>⟨PP,0,0,0,e,⟨.inl ⟨c,rfl⟩,λ_=>⟨rfl,rfl,rfl,rfl⟩⟩,f⟩
 grind[wEb]
theorem El(r:Except Int Po)(y:V5)(g r1 n e:Int)(M:Mem)(h:PoQ r M y g r1 n e)(f:∀q,r=.ok q->q.dead.length<=1000000/\Av q.st)(d:Int)(a b c:Nat):
  SpecB prog 99 #[pB a,pB b,pB c] M [(a,cE (Bo y g r1 n) 32),(b,cE [.int .i64 e] 40),(c,cE [.int .u32 d] 29)] λM' k=>∃(y:V5)(g r1 n e:Int),PoZ (P7 r) M' y g r1 n e/\k=[(a,cE (Bo y g r1 n) 32),(b,cE [.int .i64 e] 40),(c,cE [.int .u32 (if e=0 then d else 0)] 29)]:=by
 refine G6 (vs:=[_,_,_]) 6 _ func99 rfl ntmps99 rfl rfl ?_;intro W;refine gC (Cr r y g r1 n e M h f a b).2 ?_;rintro _ z _ i ⟨l,u,o,m,w,s,rfl⟩;simp only[List.cons_append,List.nil_append];refine gj (λj=>?_) λj=>?_
 ·refine gh ?_;refine YT ?_;refine YV ?_;refine Pi (rs:=[]) rfl .nil ?_;grind
 refine gh ?_;refine YT ?_;refine YV ?_;refine Pi (rs:=[]) rfl .nil ?_;grind
theorem J6(r:Except Int Po)(y:V5)(g r1 n e:Int)(M:Mem)(h:PoQ r M y g r1 n e)(f:∀q,r=.ok q->q.dead.length<=1000000/\Av q.st)(d:Int)(a b c:Nat):
  SpecB prog 325 #[pB a,pB b,pB c] M [(a,cE (Bo y g r1 n) 32),(b,cE [.int .i64 e] 40),(c,cE [.int .i64 d] 3)] λM' k=>∃(y:V5)(g r1 n e:Int),PoZ (P7 r) M' y g r1 n e/\k=[(a,cE (Bo y g r1 n) 32),(b,cE [.int .i64 e] 40),(c,cE [.int .i64 (if e=0 then d else 0)] 3)]:=by
 refine G6 (vs:=[_,_,_]) 6 _ func325 rfl ntmps325 rfl rfl ?_;intro W;refine gC (Cr r y g r1 n e M h f a b).2 ?_;rintro _ z _ i ⟨l,u,o,m,w,s,rfl⟩;simp only[List.cons_append,List.nil_append];refine gj (λj=>?_) λj=>?_
 ·refine gh ?_;refine YT ?_;refine YV ?_;refine Pi (rs:=[]) rfl .nil ?_;grind
 refine gh ?_;refine YT ?_;refine YV ?_;refine Pi (rs:=[]) rfl .nil ?_;grind
def PoP2(k:IntKind)(r:Except Int (Po×Int))(u:Value)(M':Mem):Prop:=match r with
 |.error e=>e≠0/\u=.tuple #[.agg (Bo PP 0 0 0).toArray,.int k 0,.int .i64 e]
 |.ok (q,i)=>∃y,u=.tuple #[.agg (Bo y q.gen q.root q.next).toArray,.int k i,.int .i64 0]/\PT5 M' y q
def Lo(r:Except Int Po)(i:Int):Except Int (Po×Int):=match r with|.error e=>.error e|.ok q=>.ok (q,i)
variable{k:IntKind}
theorem PoZ.p2{r:Except Int Po}{r1 n e i j:Int}(h:PoZ r M' y g r1 n e)(c:∀q,r=.ok q->i=j):PoP2 k (Lo r j) (.tuple #[.agg (Bo y g r1 n).toArray,.int k (if e=0 then i else 0),.int .i64 e]) M':=by
 obtain⟨a,rfl⟩|⟨rfl,q,rfl,b,rfl,rfl,rfl⟩:=h.1
 ·obtain ⟨rfl,rfl,rfl,rfl⟩:=h.2 a;exact⟨a,by rw[if_neg a]⟩
 exact⟨y,by rw[if_pos rfl,c q rfl],b⟩
theorem LG{p q:Po}{v:Vo}(h:Ez p v=.ok q):q.dead=p.dead/\Av q.st:=by
 grind[Ez,EY]
def wLo(s:Sto):Except Int (Sto×Int):=if ZL s 0 []=0 then .ok (EM s 0 [],(BH s:Int))else .error (ZL s 0 [])
def wVw(p:Po):Except Int (Sto×Int)->Except Int Po
 |.error e=>.error e
 |.ok (t,n)=>Ez ⟨t,p.gen,p.root,p.next+1,p.dead⟩ ⟨p.next,n,false,0⟩
def Lg(p:Po):Except Int Po:=match Cc p.st p.root p.next p.dead with
 |none=>.error 8
 |some (vs,_,_)=>if 16<=vs.length\/p.next=4294967295 then .error 9 else wVw p (wLo p.st)
theorem wQv{p:Po}(h:¬AN p=0):Lg p=.error (AN p):=by
 grind[Lg,AN]
variable{s:Sto}{u:Value}
theorem DmPost.q(h:DmPost s 0 [] u M'):∃(a b c d:Sl)(n e:Int),u=.tuple #[.agg #[a.v,b.v,c.v,d.v],.int .i64 n,.int .i64 e]/\PtQ (wLo s) M' a b c d n e:=by
 obtain⟨f,rfl⟩|⟨f,v,rfl,m,l⟩:=h
 ·exact ⟨⟨none,0,0⟩,⟨none,0,0⟩,⟨none,0,0⟩,⟨none,0,0⟩,0,_,rfl,.inl ⟨f,if_neg f⟩⟩
 obtain⟨a,b,c,d,rfl,k,j,i,g⟩:=m.four;exact⟨a,b,c,d,_,0,rfl,.inr ⟨rfl,_,if_pos f,l,k,j,i,g⟩⟩
theorem EO{p q:Po}(h:Lg p=.ok q):q.dead=p.dead/\Av q.st:=by
 unfold Lg at h;split at h
 ·cases h
 split at h
 ·cases h
 unfold wVw at h;split at h
 ·cases h
 exact LG (p:=⟨_,p.gen,p.root,p.next+1,p.dead⟩) h
theorem Xv(p:Po)(x:V5)(M:Mem)(h:PT5 M x p)(B:p.dead.length<=1000000)(hn:0<=p.next/\p.next<4294967296):
  SpecL prog 55 #[.agg (Bo x p.gen p.root p.next).toArray] M [] λu M' L'=>PoP2 .u32 (Lo (P7 (Lg p)) p.next) u M'/\L'=[]:=by
 refine sB func55 ntmps55 ?_;intro W;refine ga4 λb1 k j i=>?_;refine LU rfl rfl rfl rfl rfl ?_;refine gc (Q7 p x M h B) ?_;rintro _ C D ⟨sv,rfl,O⟩;refine gj (λz=>?_) λz=>?_
 ·refine gh ?_;have b:Lg p=.error (AN p):=wQv z;refine AM (M':=C) (L':=[(i,cE [.int .i64 (AN p)] 40),(j,cE [.int .u32 0] 29),(k,cE (Bo Gz 0 0 0) 32)]) (λw h=>h.fewer (.cons_cons _ (.cons_cons _ (.cons_cons _ (.cons _ .slnil))))) ?_;refine BU (by simp) (by kernel_rfl) (El _ Gz 0 0 0 (AN p) C (b▸.inl ⟨z,rfl⟩) (λq a=>⟨(EO a).1▸B,(EO a).2⟩) 0 k i j) ?_;rintro L _ s ⟨G,J,I,H,K,l,rfl⟩;simp only[List.cons_append,List.nil_append];refine gr ?_;exact⟨l.p2 λq a=>(by rw[b]at a;cases a),rfl⟩
 refine gg ?_;obtain⟨vs,e,c,T⟩:∃vs e c,Cc p.st p.root p.next p.dead=some (vs,e,c):=by obtain⟨⟨vs,e,c⟩,T⟩:=poChk_is.1 (Classical.not_not.1 z);exact⟨vs,e,c,T⟩
 have aa:=(O vs e c T).1;have o:Lg p=if 16<=vs.length\/p.next=4294967295 then .error 9 else wVw p (wLo p.st):=by grind[Lg]
 refine gj (λV=>?_) λV=>?_
 ·refine gh ?_;have b:Lg p=.error 9:=o.trans (if_pos (.inl (by omega)));refine AM (M':=C) (L':=[(i,cE [.int .i64 9] 40),(j,cE [.int .u32 0] 29),(k,cE (Bo Gz 0 0 0) 32)]) (λw h=>h.fewer (.cons_cons _ (.cons_cons _ (.cons_cons _ (.cons _ .slnil))))) ?_;refine BU (by simp) (by kernel_rfl) (El _ Gz 0 0 0 9 C (b▸.inl ⟨by decide,rfl⟩) (λq a=>⟨(EO a).1▸B,(EO a).2⟩) 0 k i j) ?_;rintro L _ s ⟨G,J,I,H,K,l,rfl⟩;simp only[List.cons_append,List.nil_append];refine gr ?_;exact⟨l.p2 λq a=>(by rw[b]at a;cases a),rfl⟩
 refine gj (λF=>?_) λF=>?_
 ·refine gh ?_;have b:Lg p=.error 9:=o.trans (if_pos (.inr F));refine AM (M':=C) (L':=[(i,cE [.int .i64 9] 40),(j,cE [.int .u32 0] 29),(k,cE (Bo Gz 0 0 0) 32)]) (λw h=>h.fewer (.cons_cons _ (.cons_cons _ (.cons_cons _ (.cons _ .slnil))))) ?_;refine BU (by simp) (by kernel_rfl) (El _ Gz 0 0 0 9 C (b▸.inl ⟨by decide,rfl⟩) (λq a=>⟨(EO a).1▸B,(EO a).2⟩) 0 k i j) ?_;rintro L _ s ⟨G,J,I,H,K,l,rfl⟩;simp only[List.cons_append,List.nil_append];refine gr ?_;exact⟨l.p2 λq a=>(by rw[b]at a;cases a),rfl⟩
 refine ga λb6=>?_;refine gc (wEs p.st _ _ _ _ C ((h.mono D).st)) ?_;rintro _ N U S;obtain⟨qa,qb,qc,qd,n,X,rfl,a⟩:=S.q;refine gj (λE=>?_) λE=>?_
 ·refine gh ?_;obtain⟨h9,f⟩|⟨rfl,_⟩:=a;rotate_left
  ·omega
  have b:Lg p=.error X:=by rw[o,if_neg (by omega),f];rfl
  refine AM (M':=N) (L':=[(i,cE [.int .i64 X] 40),(j,cE [.int .u32 0] 29),(k,cE (Bo Gz 0 0 0) 32)]) (λw h=>h.fewer (.cons _ (.cons_cons _ (.cons_cons _ (.cons_cons _ (.cons _ .slnil)))))) ?_;refine BU (by simp) (by kernel_rfl) (El _ Gz 0 0 0 X N (b▸.inl ⟨E,rfl⟩) (λq a=>⟨(EO a).1▸B,(EO a).2⟩) 0 k i j) ?_;rintro L _ s ⟨G,J,I,H,K,l,rfl⟩;simp only[List.cons_append,List.nil_append];refine gr ?_;exact⟨l.p2 λq a=>(by rw[b]at a;cases a),rfl⟩
 refine gh ?_;obtain⟨h9,_⟩|⟨rfl,t,f,ab,g1,g2,g3,g4⟩:=a
 ·omega
 have R:PT5 N ⟨qa,qb,qc,qd,x.d⟩ ⟨t,p.gen,p.root,p.next+1,p.dead⟩:=⟨g1,g2,g3,g4,h.d.mono (D.trans U)⟩;refine gh ?_;refine lq (wTr rfl rfl rfl rfl rfl (by rw[IntKind.wrap_u32];omega)) ?_;refine gc (Kf ⟨t,p.gen,p.root,p.next+1,p.dead⟩ ⟨qa,qb,qc,qd,x.d⟩ N R B ⟨p.next,n,false,0⟩ hn) ?_;rintro _ Y ac Q;obtain⟨y,g,Z,m,e3,rfl,P⟩:=Q.q;refine gh ?_;refine Gt [4,5,6] [1,2,4,5,6] [0,1,2,3,104,105,106] Y (_) ([(b6,cE (DA ⟨p.next,n,false,0⟩) 98)]) ?_;refine gh ?_;have b:Lg p=Ez ⟨t,p.gen,p.root,p.next+1,p.dead⟩ ⟨p.next,n,false,0⟩:=by rw[o,if_neg (by omega),f];rfl
 refine AM (M':=Y) (L':=[(i,cE [.int .i64 e3] 40),(j,cE [.int .u32 p.next] 29),(k,cE (Bo y g Z m) 32)]) (λw h=>h.fewer (.cons _ (.cons_cons _ (.cons_cons _ (.cons_cons _ (.cons _ .slnil)))))) ?_;refine BU (by simp) (by kernel_rfl) (El _ y g Z m e3 Y (b▸P) (λq a=>⟨(EO a).1▸B,(EO a).2⟩) p.next k i j) ?_;rintro L _ s ⟨G,J,I,H,K,l,rfl⟩;simp only[List.cons_append,List.nil_append];refine gr ?_;exact⟨l.p2 λq a=>rfl,rfl⟩
theorem Xo(bs:List (List By))(b:List Wt)(d e:Value)(M:Mem)(z:LS M d bs)(f:WS M e b)(c:Jv bs b)(k:Int)(hk:0<=k/\k<256)(a:List By)(g:Value)(s:BS M g a)(n:a.length=128)(i:b.length=4096):
  SpecL prog 336 #[.agg #[d,e],.int .i64 k,g] M [] λu M' B=>u=.tuple #[dskZ,.int .i64 9]/\B=[]:=by
 obtain⟨G,D,h,rfl,w,j,l,y⟩:=id f;obtain⟨da,C,rfl,o,m⟩:=id s;refine sB func336 ntmps336 ?_;intro W;refine Ke λF E=>?_;refine gQ (Jw bs b d _ M z f c k hk) ?_;refine gu ?_;exact⟨rfl,rfl⟩
def DwQ(bs:List (List By))(ws:List Wt)(k:Int)(data:List By)(M':Mem)(a b:Sl)(e:Int):Prop:=(e=9/\ws.length=4096/\a=⟨none,0,0⟩/\b=⟨none,0,0⟩)\/(e=0/\ws.length≠4096/\LS M' a.v bs/\WS M' b.v (ws++[(k,data)]))
theorem ZB(bs:List (List By))(g:List Wt)(n j:Value)(M:Mem)(B:LS M n bs)(l:WS M j g)(f:Jv bs g)(k:Int)(hk:0<=k/\k<256)(c:List By)(m:Value)(z:BS M m c)(i:c.length=128):SpecL prog 336 #[.agg #[n,j],.int .i64 k,m] M [] λu M' s=>(∃(a b:Sl)(e:Int),u=.tuple #[.agg #[a.v,b.v],.int .i64 e]/\DwQ bs g k c M' a b e)/\s=[]:=by
 by_cases o:g.length=4096
 ·exact (Xo bs g n j M B l f k hk c m z i o).mono λu M' s h=>⟨⟨⟨none,0,0⟩,⟨none,0,0⟩,9,h.1,.inl ⟨rfl,o,rfl,rfl⟩⟩,h.2⟩
 refine(Xn bs g n j M B l f k hk c m z i (by have:=f.2.1;omega)).mono λu M' s ⟨⟨d,E,F,C,D,y,w⟩,l⟩=>?_;subst E D;obtain⟨a,rfl⟩:=y.sl;obtain⟨b,rfl⟩:=w.sl;exact⟨⟨a,b,0,rfl,.inr ⟨rfl,o,y,w⟩⟩,l⟩
def wDo(s:Sto)(data:List By):List Nat->Except Int (Sto×Int)
 |[]=>.error 9
 |k::_=>if s.waits.length=4096 then .error 9 else .ok (⟨s.blocks,s.waits++[((k:Int),data)],s.now.set k 1,s.last⟩,(k:Int))
def HZ(s:Sto)(data:List By):Except Int (Sto×Int):=if Av s then wDo s data (Jl s 256)else .error 8
def PtY(r:Except Int (Sto×Int))(M':Mem)(a b c d:Sl)(n e:Int):Prop:=PtQ r M' a b c d n e/\(e≠0->a=⟨none,0,0⟩/\b=⟨none,0,0⟩/\c=⟨none,0,0⟩/\d=⟨none,0,0⟩/\n=0)
variable{M':Mem}{a:Sl}{n:Int}
theorem PtY.p{r:Except Int (Sto×Int)}{b c d:Sl}{e:Int}(h:PtY r M' a b c d n e):PtPost r (.tuple #[.agg #[a.v,b.v,c.v,d.v],.int .i64 n,.int .i64 e]) M':=by
 obtain⟨f,rfl⟩|⟨rfl,t,rfl,l,k,j,i,g⟩:=h.1
 ·obtain ⟨rfl,rfl,rfl,rfl,rfl⟩:=h.2 f;exact⟨f,rfl⟩
 exact⟨_,rfl,⟨_,_,_,_,rfl,k,j,i,g⟩,l⟩
variable{k:Nat}{l:List Nat}{s:Sto}
theorem Uq{n:Nat}(h:Jl s n=k::l):8<=k/\k<n:=by
 have b:k∈Jl s n:=by rw[h];simp
 unfold Jl at b;have c:=List.mem_filter.1 b;have d:=List.mem_range.1 c.1;have a:=c.2;unfold Pk at a;rw[Bool.and_eq_true]at a;exact⟨of_decide_eq_true a.1,d⟩
variable{data:List By}
theorem X5(h:Av s)(hk:8<=k/\k<256)(b:data.length=128)(a:s.waits.length≠4096):Av ⟨s.blocks,s.waits++[((k:Int),data)],s.now.set k 1,s.last⟩:=by
 obtain⟨⟨g,i,f,e⟩,d,c⟩:=h;refine⟨⟨g,by rw[List.length_append];show _+1<=_;omega,f,λw a=>?_⟩,G1 hk.1 d,c⟩;rcases List.mem_append.1 a with a|a
 ·exact e w a
 rw[List.mem_singleton.1 a];exact⟨by show (0:Int)<=k;omega,by show (k:Int)<256;omega,b⟩
theorem X4(s:Sto)(D o nv lw:Value)(M:Mem)(h1:LS M D s.blocks)(h2:WS M o s.waits)(h3:BS M nv s.now)(h4:BS M lw s.last)(a:List By)(dv:Value)(V:BS M dv a)(X:a.length=128):
  SpecL prog 326 #[.agg #[D,o,nv,lw],dv] M [] λu M' L'=>PtPost (HZ s a) u M'/\L'=[]:=by
 obtain⟨da,dc,rfl,az,ax⟩:=id V;obtain⟨nb,O,rfl,ao,am⟩:=id h3;obtain⟨lb,Q,rfl,aq,ap⟩:=id h4;refine sB func326 ntmps326 ?_;intro W;refine ga λb2=>?_;refine lh (Bt rfl rfl rfl rfl) ?_;rintro _ _ _ ⟨b3,rfl,rfl,rfl⟩;refine W4 λb4 b5 b6=>?_;refine gQ (CK s _ M ⟨D,o,_,_,rfl,h1,h2,h3,h4⟩) ?_;refine gj (λG=>?_) λG=>?_
 ·refine gr ?_;have hn:¬Av s:=λhs=>G (if_pos hs);exact⟨by rw[show HZ s a=.error 8 from if_neg hn,show DJ s=8 from if_neg hn];exact⟨by decide,rfl⟩,rfl⟩
 refine gg ?_;have b:Av s:=Classical.byContradiction λhn=>G (by unfold DJ;rw[if_neg hn];decide);obtain⟨ay,⟨ae,_⟩,⟨af,_⟩⟩:=id b;refine gt ?_;refine gC (free_spec D o _ _ M) ?_;rintro _ M1 _ j ⟨fb,rfl,ag,rfl⟩;simp only[List.nil_append];refine gh ?_;refine Ef (R:=[(b6,cE [.int .i64 0] 40),(b5,cE [.int .i64 0] 3),(b4,cE [.slice none 0 0,.slice none 0 0,.slice none 0 0,.slice none 0 0] 28),(b3,cE [.slice da a.length dc] 26),(b2,cE [D,o,.slice nb s.now.length O,.slice lb s.last.length Q] 28)]) (xs:=Jl s 256) (enc:=(λy:Nat=>[Value.int .i64 (y:Int)])) (ps:=[24]) rfl (by kernel_rfl) (To s D o _ _ M1 (h1.mono j) (h2.mono j) (h3.mono j) (h4.mono j) b fb ag)
  (λE _ R=>E=[]/\R=[(b6,cE [.int .i64 0] 40),(b5,cE [.int .i64 0] 3),(b4,cE [.slice none 0 0,.slice none 0 0,.slice none 0 0,.slice none 0 0] 28),(b3,cE [.slice da a.length dc] 26),(b2,cE [D,o,.slice nb s.now.length O,.slice lb s.last.length Q] 28)])
  (λc _ M' R=>c=.ret/\∃(qa qb qc qd:Sl)(n e:Int),PtY (HZ s a) M' qa qb qc qd n e/\R=[(b6,cE [.int .i64 e] 40),(b5,cE [.int .i64 n] 3),(b4,cE [qa.v,qb.v,qc.v,qd.v] 28)])
  (λ_=>rfl) (by decide) ⟨rfl,rfl⟩ ?_ ?_ ?_
 ·intro l W2 E y M2 R2 F hI z;obtain⟨rfl,rfl⟩:=hI;obtain⟨tl,m⟩:∃tl,Jl s 256=y::tl:=by obtain⟨tl,h⟩:=z;exact⟨tl,h.symm⟩
  have ad:=Uq m;have k:=j.trans F;have T:HZ s a=wDo s a (y::tl):=by unfold HZ;rw[if_pos b,m]
  refine gh ?_;refine jK λW'=>?_;refine gc (ZB s.blocks s.waits D o M2 (h1.mono k) (h2.mono k) b.1 (y:Int) (by omega) a _ (V.mono k) X) ?_;rintro _ M3 aa ⟨va,vb,er,rfl,U⟩;refine gA λb9=>?_;obtain⟨N,K,L⟩:=va;obtain⟨J,H,I⟩:=vb;refine gj (λac=>?_) λac=>?_
  ·refine gh ?_;refine AM (M':=M3) (L':=[(b6,cE [.int .i64 er] 40),(b5,cE [.int .i64 0] 3),(b4,cE [.slice none 0 0,.slice none 0 0,.slice none 0 0,.slice none 0 0] 28)]) (λw h=>h.fewer (.cons _ (.cons_cons _ (.cons_cons _ (.cons_cons _ (.cons _ (.cons _ .slnil))))))) ?_;refine jQr ?_;obtain⟨rfl,hw,_⟩|⟨h0,_⟩:=U;rotate_left
   ·exact absurd h0 ac
   exact⟨rfl,⟨none,0,0⟩,⟨none,0,0⟩,⟨none,0,0⟩,⟨none,0,0⟩,0,9,⟨.inl ⟨by decide,by rw[T];exact if_pos hw⟩,λ_=>⟨rfl,rfl,rfl,rfl,rfl⟩⟩,rfl⟩
  refine gC (B6 _ s.now M3 ((h3.mono k).mono aa) (by omega)) ?_;rintro _ M4 R4 Z B;obtain⟨cg,C,aw,e0,e1,av,au,_⟩:=B.open (by omega);cases e0;subst e1;simp only[List.cons_append,List.nil_append];refine gh ?_;refine DE rfl (D0 rfl rfl rfl rfl rfl rfl B rfl (by omega)) ?_;rintro _ _ _ ⟨rfl,R6,rfl,f⟩;rw[Nat.mul_one,Nat.zero_add,Int.toNat_natCast]at f;refine gh ?_;refine Gt [7,8,9] [6,7,8,9] [0,1,2,3,6,104,5,107,108,109] M4 (_) ([]) ?_;refine gh ?_;refine GP rfl rfl rfl (BV rfl rfl rfl rfl rfl (by kernel_rfl) (B6 _ s.last M4 (((h4.mono k).mono aa).mono Z) (by omega))) ?_;rintro _ M5 _ ⟨i,R5,rfl,g⟩;refine⟨_,_,MLe.refl _,i,λ_ h=>h,λ_ hp=>List.mem_append_right _ hp,?_⟩;obtain⟨S,P,rfl⟩:=g.form;refine dq rfl (BF (cs:=[_,_,_,_]) rfl rfl rfl (by rfl)) ?_;refine Ho rfl rfl (Ao rfl rfl rfl rfl rfl rfl rfl rfl) ?_;rintro _ _ _ ⟨rfl,rfl⟩;refine⟨i,by simp,?_⟩;refine KY rfl rfl (Ao rfl rfl rfl rfl rfl rfl rfl rfl) ?_;rintro _ _ _ ⟨rfl,rfl⟩;refine⟨i,by simp,?_⟩;refine KY rfl rfl (Ao rfl rfl rfl rfl rfl rfl rfl rfl) ?_;rintro _ _ _ ⟨rfl,rfl⟩;refine⟨i,by simp,?_⟩;refine gh ?_;refine LT g (by simp) ?_;intro Ma a5 c5 ah e5 al ak;cases e5;refine LT f (by simp) ?_;intro Mb a6 c6 Y e6 aj ai;cases e6;refine AM (M':=Mb) (L':=[(b6,cE [.int .i64 0] 40),(b5,cE [.int .i64 (y:Int)] 3),(b4,cE [.slice N K L,.slice J H I,.slice (some ⟨cg,0,none⟩) s.now.length C,.slice S s.last.length P] 28)]) (λw h=>h.fewer (.cons _ (.cons_cons _ (.cons_cons _ (.cons_cons _ (.cons _ (.cons _ .slnil))))))) ?_;refine jQr ?_;obtain⟨h0,_⟩|⟨_,hw,g1,g2⟩:=U
  ·omega
  have ab:=Z.trans (i.trans (ah.trans Y));refine⟨rfl,⟨N,K,L⟩,⟨J,H,I⟩,⟨some ⟨cg,0,none⟩,s.now.length,C⟩,⟨S,s.last.length,P⟩,(y:Int),0,⟨.inr ⟨rfl,_,by rw[T];exact if_neg hw,X5 b ad X hw,g1.mono ab,g2.mono ab,?_,⟨_,_,rfl,al,ak.mono Y⟩⟩,λh=>absurd rfl h⟩,rfl⟩;exact⟨_,_,by show Value.slice _ _ _=Value.slice _ (s.now.set y 1).length _;rw[List.length_set],by show (s.now.set y 1).length<=_;rw[List.length_set];exact aj,by show SM Mb _ (Aa (s.now.set y 1));unfold Aa;rw[List.map_set];exact ai⟩
 ·intro d M2 R2 F hI;obtain⟨m,rfl⟩:=hI;simp only[List.cons_append,List.nil_append];refine gh ?_;refine Bu (L2:=_) (by first|exact List.Perm.refl _|exact Rm.perm) ?_;refine gr ?_;exact⟨by rw[show HZ s a=.error 9 by unfold HZ;rw[if_pos b,m];rfl];exact⟨by decide,rfl⟩,rfl⟩
 intro d c E M2 R2 F z hI;obtain⟨rfl,qa,qb,qc,qd,n,e,hz,rfl⟩:=hI;simp only[List.cons_append,List.nil_append];refine gh ?_;refine Bu (L2:=_) (by first|exact List.Perm.refl _|exact Rm.perm) ?_;refine gr ?_;exact⟨hz.p,rfl⟩
theorem X3(s:Sto)(v:Value)(M:Mem)(h:ST M v s)(a:List By)(e:Value)(c:BS M e a)(d:a.length=128):SpecL prog 326 #[v,e] M [] λu M' k=>PtPost (HZ s a) u M'/\k=[]:=by
 obtain⟨b,w,n,l,rfl,j,i,g,f⟩:=h.ex;exact X4 s b w n l M j i g f a e c d
def TX(d:List By):List By:=d++List.replicate (128-d.length) 0
variable{d:List By}
theorem H5(h:d.length<=128):(TX d).length=128:=by unfold TX;rw[List.length_append,List.length_replicate];omega
theorem Yy(h:d.length<=128):(List.replicate (128:Int).toNat [Value.int .u8 0]).flatten.take 0++Aa d++(List.replicate (128:Int).toNat [Value.int .u8 0]).flatten.drop (0+(Aa d).length)=Aa (TX d):=by
 have a:(List.replicate (128:Int).toNat [Value.int .u8 0]).flatten=List.replicate 128 (Value.int .u8 0):=by simp
 rw[a,List.take_zero,List.nil_append,Nat.zero_add,Ad,List.drop_replicate];unfold TX Aa;rw[List.map_append,List.map_replicate];rfl
def layN(p:Po):Except Int (Sto×Int)->Except Int (Po×Int)
 |.error e=>.error e
 |.ok (t,k)=>.ok (⟨t,p.gen,p.root,p.next,p.dead⟩,k)
def Hl(p:Po)(d:List By):Except Int (Po×Int):=if AN p=0 then (if 128<d.length then .error 3 else layN p (HZ p.st (TX d)))else .error (AN p)
def Zn:Except Int (Po×Int)->Except Int Po
 |.error e=>.error e
 |.ok (q,_)=>.ok q
def Nl(p:Po)(d:List By):Except Int (Po×Int):=match Hl p d with
 |.error e=>.error e
 |.ok (q,k)=>Lo (P7 (.ok q)) k
variable{e:Int}
theorem QG{p:Po}(h:Hl p d=.error e)(k:Int):Nl p d=Lo (P7 (Zn (Hl p d))) k:=by unfold Nl;rw[h];rfl
variable{k:Int}
theorem wUs{p q:Po}(h:Hl p d=.ok (q,k)):Nl p d=Lo (P7 (Zn (Hl p d))) k:=by unfold Nl;rw[h];rfl
theorem wSt{s t:Sto}(h:HZ s d=.ok (t,k))(e:d.length=128):Av t:=by
 unfold HZ at h;split at h
 ·rename_i c;cases b:Jl s 256 with
  |nil=>rw[b]at h;cases h
  |cons j l=>
   rw[b]at h
   by_cases a:s.waits.length=4096
   ·rw [show wDo s d (j::l)=.error 9 from if_pos a]at h;cases h
   rw[show wDo s d (j::l)=.ok (⟨s.blocks,s.waits++[((j:Int),d)],s.now.set j 1,s.last⟩,(j:Int))from if_neg a]at h;cases h;exact X5 c (Uq b) e a
 cases h
theorem Gh{p q:Po}(h:Zn (Hl p d)=.ok q):q.dead=p.dead/\Av q.st:=by
 unfold Hl at h;split at h
 ·split at h
  ·cases h
  rename_i b;cases a:HZ p.st (TX d)with
  |error e=>rw[a]at h;cases h
  |ok x=>obtain⟨t,k⟩:=x;rw[a]at h;cases h;exact⟨rfl,wSt a (H5 (by omega))⟩
 cases h
theorem wNd(p:Po)(x:V5)(M:Mem)(h:PT5 M x p)(E:p.dead.length<=1000000)(a:List By)(dv:Value)(ab:BS M dv a):
  SpecL prog 283 #[.agg (Bo x p.gen p.root p.next).toArray,dv] M [] λu M' L'=>PoP2 .i64 (Nl p a) u M'/\L'=[]:=by
 obtain⟨da,dc,rfl,G,B⟩:=id ab;refine sB func283 ntmps283 ?_;intro W;refine ga4 λb2 y m s=>?_;refine LU rfl rfl rfl rfl rfl ?_;refine gc (FS p _ M h.pt E) ?_;rintro _ S D rfl;refine gj (λg=>?_) λg=>?_
 ·refine gh ?_;have b:Hl p a=.error (AN p):=if_neg g;refine AM (M':=S) (L':=[(s,cE [.int .i64 (AN p)] 40),(m,cE [.int .i64 0] 3),(y,cE (Bo Gz 0 0 0) 32)]) (λw h=>h.fewer (.cons_cons _ (.cons_cons _ (.cons_cons _ (.cons _ .slnil))))) ?_;refine BU (by simp) (by kernel_rfl) (J6 (Zn (Hl p a)) Gz 0 0 0 (AN p) S (b▸.inl ⟨g,rfl⟩) (λq c=>⟨(Gh c).1▸E,(Gh c).2⟩) 0 y s m) ?_;rintro M9 _ C ⟨T,g9,Y,X,e9,z,rfl⟩;simp only[List.cons_append,List.nil_append];refine gr ?_;exact⟨by rw[QG b 0];exact z.p2 λq c=>rfl,rfl⟩
 refine gj (λag=>?_) λag=>?_
 ·refine gh ?_;have b:Hl p a=.error 3:=(if_pos (Classical.not_not.1 g)).trans (if_pos (by omega));refine AM (M':=S) (L':=[(s,cE [.int .i64 3] 40),(m,cE [.int .i64 0] 3),(y,cE (Bo Gz 0 0 0) 32)]) (λw h=>h.fewer (.cons_cons _ (.cons_cons _ (.cons_cons _ (.cons _ .slnil))))) ?_;refine BU (by simp) (by kernel_rfl) (J6 (Zn (Hl p a)) Gz 0 0 0 3 S (b▸.inl ⟨by decide,rfl⟩) (λq c=>⟨(Gh c).1▸E,(Gh c).2⟩) 0 y s m) ?_;rintro M9 _ C ⟨T,g9,Y,X,e9,z,rfl⟩;simp only[List.cons_append,List.nil_append];refine gr ?_;exact⟨by rw[QG b 0];exact z.p2 λq c=>rfl,rfl⟩
 refine gh ?_;refine lh (D1 rfl rfl rfl rfl (by omega) (by rfl)) ?_;rintro _ _ _ ⟨I,rfl,rfl,rfl⟩;refine gh ?_;have f:a.length<=128:=by omega
 refine gh ?_;refine lh (WQ (cs:=Aa a) rfl rfl rfl rfl (by rw[Ad];omega) ((B.mono D).sj _) (by intro v hv;obtain⟨x,_,rfl⟩:=List.mem_map.1 hv;rfl) (by rw[Ad];simp;omega)) ?_;rintro _ _ _ ⟨rfl,rfl,rfl⟩;refine Ai (jT (Ah ?_));rw[Yy f];refine BL I (by simp) ?_;intro J H ah;have ac:BS J (.slice (some ⟨I,0,none⟩) 128 128) (TX a):=⟨_,128,by rw[H5 f],by rw[H5 f];omega,SM.of_block ah⟩;refine gc (X3 p.st _ J ((h.mono (D.trans H)).st) (TX a) _ ac (H5 f)) ?_;rintro _ R ae Z;have af:=D.trans (H.trans ae);obtain⟨O,N,L,K,n,er,rfl,c⟩:=Z.q;refine gA λb9=>?_;refine gj (λj=>?_) λj=>?_
 ·refine gh ?_;obtain⟨h9,i⟩|⟨rfl,_⟩:=c;rotate_left
  ·exact absurd rfl j
  have b:Hl p a=.error er:=by unfold Hl;rw[if_pos (Classical.not_not.1 g),if_neg (by omega),i];rfl
  refine AM (M':=R) (L':=[(s,cE [.int .i64 er] 40),(m,cE [.int .i64 0] 3),(y,cE (Bo Gz 0 0 0) 32)]) (λw h=>h.fewer (.cons _ (.cons_cons _ (.cons_cons _ (.cons_cons _ (.cons _ .slnil)))))) ?_;refine BU (by simp) (by kernel_rfl) (J6 (Zn (Hl p a)) Gz 0 0 0 er R (b▸.inl ⟨j,rfl⟩) (λq c=>⟨(Gh c).1▸E,(Gh c).2⟩) 0 y s m) ?_;rintro M9 _ C ⟨T,g9,Y,X,e9,z,rfl⟩;simp only[List.cons_append,List.nil_append];refine gr ?_;exact⟨by rw[QG b 0];exact z.p2 λq c=>rfl,rfl⟩
 refine gh ?_;obtain⟨h9,_⟩|⟨rfl,t,i,aj,g1,g2,g3,g4⟩:=c
 ·exact absurd (Classical.not_not.1 j) h9
 refine Gt [5,7] [5,6,7] [0,1,2,4,103,105,6,107] R ([(b9,cE [O.v,N.v,L.v,K.v] 28),(b2,cE (Bo x p.gen p.root p.next) 32)]) ([]) ?_;refine gh ?_;obtain⟨V,U,exd,ai,F⟩:=h.d;refine dh rfl (BV rfl rfl rfl rfl rfl (by kernel_rfl) (by rw[exd];exact Du V _ U (Al p.dead) R (F.mono af) (Ay _) (DU _) E)) ?_;rintro _ M4 _ ⟨e,R4,rfl,o⟩;refine⟨e,by simp,?_⟩;obtain⟨l,k,rfl⟩:=o.form;refine Ho rfl rfl (Ao rfl rfl rfl rfl rfl rfl rfl rfl) ?_;rintro _ _ _ ⟨rfl,rfl⟩;refine⟨(by first|exact e|exact MLe.refl _),by simp,?_⟩;refine Kn rfl rfl rfl (Ac rfl rfl rfl rfl rfl) ?_;refine KY rfl rfl (Ao rfl rfl rfl rfl rfl rfl rfl rfl) ?_;rintro _ _ _ ⟨rfl,rfl⟩;refine⟨(by first|exact e|exact MLe.refl _),by simp,?_⟩;refine gh ?_;refine Je o (by simp) ?_;intro Q al ak ad ed G B;cases ed;have P:=e.trans ad;have aa:PT5 Q ⟨O,N,L,K,⟨l,p.dead.length,k⟩⟩ ⟨t,p.gen,p.root,p.next,p.dead⟩:=⟨g1.mono P,g2.mono P,g3.mono P,g4.mono P,⟨l,k,rfl,G,B⟩⟩;refine Gt [2,3,4] [1,2,3,4] [0,1,102,103,104] Q (_) ([(m,cE [.int .i64 n] 3)]) ?_;refine dq rfl (HO rfl rfl rfl rfl rfl) ?_;refine wNm rfl rfl rfl (Au rfl rfl rfl rfl (CJ.loc rfl)) ?_;refine Ho rfl rfl (Ao rfl rfl rfl rfl rfl rfl rfl rfl) ?_;rintro _ _ _ ⟨rfl,rfl⟩;refine⟨(by first|exact e|exact MLe.refl _),by simp,?_⟩;refine KY rfl rfl (Ao rfl rfl rfl rfl rfl rfl rfl rfl) ?_;rintro _ _ _ ⟨rfl,rfl⟩;refine⟨(by first|exact e|exact MLe.refl _),by simp,?_⟩;refine KY rfl rfl (Ao rfl rfl rfl rfl rfl rfl rfl rfl) ?_;rintro _ _ _ ⟨rfl,rfl⟩;refine⟨(by first|exact e|exact MLe.refl _),by simp,?_⟩;refine gh ?_;have b:Hl p a=.ok (⟨t,p.gen,p.root,p.next,p.dead⟩,n):=by unfold Hl;rw[if_pos (Classical.not_not.1 g),if_neg (by omega),i];rfl
 refine AM (M':=Q) (L':=[(s,cE [.int .i64 0] 40),(m,cE [.int .i64 n] 3),(y,cE (Bo ⟨O,N,L,K,⟨l,p.dead.length,k⟩⟩ p.gen p.root p.next) 32)]) (λw h=>h.fewer (.cons _ (.cons_cons _ (.cons_cons _ (.cons_cons _ (.cons _ .slnil)))))) ?_;refine BU (by simp) (by kernel_rfl) (J6 (Zn (Hl p a)) ⟨O,N,L,K,⟨l,p.dead.length,k⟩⟩ p.gen p.root p.next 0 Q (b▸.inr ⟨rfl,_,rfl,aa,rfl,rfl,rfl⟩) (λq c=>⟨(Gh c).1▸E,(Gh c).2⟩) n y s m) ?_;rintro M9 _ C ⟨T,g9,Y,X,e9,z,rfl⟩;simp only[List.cons_append,List.nil_append];refine gr ?_;exact⟨by rw[wUs b];exact z.p2 λq c=>rfl,rfl⟩
end Go.Proofs.YtjheijhahehnmaaGreatDoor
