/- Lemmas. -/
import Derived.Test.YtjheijhahehnmaaGreatDoorXFree
namespace Go.Proofs.YtjheijhahehnmaaGreatDoor
open Go.Proofs.Tryz
set_option linter.unusedSimpArgs false
set_option linter.unusedVariables false
set_option linter.unusedSectionVars false
set_option maxHeartbeats 40000000
set_option maxRecDepth 8000
open Go.RowKit
abbrev J6(x:V5)(g r n e:Int):List Value:=Bk x g r n++[iL e]
theorem QA(p:Po)(x:V5)(M:Mem)(h:PT5 M x p)(b:p.dead.length<=1000000)(q:Int)(a:Nat)(e:Int):
  Sg 109 #[pB a,iU q] M [(a,cE (J6 x p.gen p.root p.next e) 189)] λu M' d=>u=.agg (Ds (As p q)).toArray/\d=[(a,cE (J6 x p.gen p.root p.next (BQ p q)) 189)]:=by
 refine sB func109 ntmps109 ?_;intro W;refine ga λf=>?_;refine gc (DQ p x M h b q) ?_;rintro _ g c rfl;refine gh ?_;refine zd ([(a,cE (J6 x p.gen p.root p.next (BQ p q)) 189)]) rfl ?_;exact⟨rfl,rfl⟩
theorem wLs(y:V5)(g r1 n e:Int)(M:Mem)(v:Vo)(a:Nat)(b:¬e=0):
  Sg 110 #[pB a,.agg (Ds v).toArray] M [(a,cE (J6 y g r1 n e) 189)] λu M' L'=>L'=[(a,cE (J6 y g r1 n e) 189)]:=by
 refine sB func110 ntmps110 ?_;intro W;refine gA λc=>?_;refine gt ?_;refine XR ?_;refine AE (L':=[(a,cE (J6 y g r1 n e) 189)]) (by simp) ?_;refine NT (rs:=[]) rfl .nil ?_;rfl
theorem wEk(p:Po)(x:V5)(M:Mem)(h:PT5 M x p)(m:p.dead.length<=1000000)(v:Vo)(g:Nat):
  Sg 110 #[pB g,.agg (Ds v).toArray] M [(g,cE (J6 x p.gen p.root p.next 0) 189)] λu M' L'=>∃(f e c b:Sl)(i:Int),StQ (Km p.st v.root) M' f e c b i/\MLe M M'/\L'=[(g,cE (J6 ⟨f,e,c,b,x.d⟩ p.gen p.root p.next i) 189)]:=by
 refine sB func110 ntmps110 ?_;intro W;refine gA λl=>?_;refine gt ?_;refine Ga [16,19] [1,12,16,17,18,19] [0,1,2,3,4,5,6,7,8,109,10,11,12,13,14,15,116,17,18,119] M ([(l,cE (Ds v) 98),(g,cE (J6 x p.gen p.root p.next 0) 189)]) ([]) ?_;refine gh ?_;refine dh rfl (hC (FL p.st v.root _ M h.st)) ?_;rintro _ n _ ⟨a,_,rfl,⟨j,rfl⟩⟩;refine⟨a,by simp,?_⟩;simp only[List.nil_append];obtain⟨f,e,c,b,i,rfl,k⟩:=j.q;iterate 3 refine dp rfl rfl ?_
 refine dq rfl (BR rfl rfl rfl) ?_;refine dq rfl (Ah rfl rfl rfl rfl rfl) ?_;refine dq rfl (Ah rfl rfl rfl rfl rfl) ?_;refine G2 rfl rfl (Ak rfl rfl rfl rfl rfl rfl rfl rfl) ?_;rintro _ _ _ ⟨rfl,rfl⟩;refine⟨a,by simp,?_⟩;refine JY rfl rfl rfl (BR rfl rfl rfl) ?_;refine JY rfl rfl rfl (Ah rfl rfl rfl rfl rfl) ?_;refine KB rfl rfl (Ak rfl rfl rfl rfl rfl rfl rfl rfl) ?_;rintro _ _ _ ⟨rfl,rfl⟩;refine⟨a,by simp,?_⟩;refine gh ?_;refine XR ?_;refine AE (L':=[(g,cE (J6 ⟨f,e,c,b,x.d⟩ p.gen p.root p.next i) 189)]) (by simp) ?_;refine NT (rs:=[]) rfl .nil ?_;exact⟨f,e,c,b,i,k,a,rfl⟩
theorem wSq(y:V5)(g r1 n e:Int)(M:Mem)(v:Vo)(a:Nat)(b:¬e=0):
  Sg 111 #[pB a,.agg (Ds v).toArray] M [(a,cE (J6 y g r1 n e) 189)] λu M' L'=>L'=[(a,cE (J6 y g r1 n e) 189)]:=by
 refine sB func111 ntmps111 ?_;intro W;refine gA λc=>?_;refine gt ?_;refine XR ?_;refine AE (L':=[(a,cE (J6 y g r1 n e) 189)]) (by simp) ?_;refine NT (rs:=[]) rfl .nil ?_;rfl
theorem wLn(p:Po)(x:V5)(M:Mem)(h:PT5 M x p)(j:p.dead.length<=1000000)(v:Vo)(f:0<=v.id/\v.id<4294967296)(c:Nat):
  Sg 111 #[pB c,.agg (Ds v).toArray] M [(c,cE (J6 x p.gen p.root p.next 0) 189)] λu M' L'=>∃(y:V5)(g b n d:Int),PoQ (Ej p v) M' y g b n d/\L'=[(c,cE (J6 y g b n d) 189)]:=by
 refine sB func111 ntmps111 ?_;intro W;refine gA λk=>?_;refine gt ?_;refine Ga [13,16] [1,10,13,14,15,16] [0,1,2,3,4,5,6,107,8,9,10,11,12,113,14,15,116] M ([(k,cE (Ds v) 98),(c,cE (J6 x p.gen p.root p.next 0) 189)]) ([]) ?_;refine gh ?_;refine dh rfl (hC (JN p x M h j v f)) ?_;rintro _ l _ ⟨a,_,rfl,⟨e,rfl⟩⟩;refine⟨a,by simp,?_⟩;simp only[List.nil_append];obtain⟨y,g,b,n,d,rfl,i⟩:=e.q;iterate 3 refine dp rfl rfl ?_
 refine dq rfl (BR rfl rfl rfl) ?_;refine dq rfl (Ah rfl rfl rfl rfl rfl) ?_;refine G2 rfl rfl (Ak rfl rfl rfl rfl rfl rfl rfl rfl) ?_;rintro _ _ _ ⟨rfl,rfl⟩;refine⟨a,by simp,?_⟩;refine JY rfl rfl rfl (BR rfl rfl rfl) ?_;refine JY rfl rfl rfl (Ah rfl rfl rfl rfl rfl) ?_;refine KB rfl rfl (Ak rfl rfl rfl rfl rfl rfl rfl rfl) ?_;rintro _ _ _ ⟨rfl,rfl⟩;refine⟨a,by simp,?_⟩;refine gh ?_;refine XR ?_;refine AE (L':=[(c,cE (J6 y g b n d) 189)]) (by simp) ?_;refine NT (rs:=[]) rfl .nil ?_;exact⟨y,g,b,n,d,i,rfl⟩
def FM(s:Sto):Prop:=16<=(HY s 256).length
instance(s:Sto):Decidable (FM s):=by unfold FM;exact inferInstance
def PJ:Except Int Po->Except Int Po
 |.error e=>.error e
 |.ok q=>if FM q.st then .ok q else .error 9
theorem Xj{p:Po}(h:FM p.st):PJ (.ok p)=.ok p:=iP h
theorem Xk{p:Po}(h:¬FM p.st):PJ (.ok p)=.error 9:=iN h
theorem wSs(y:V5)(g r1 n e:Int)(c:¬e=0)(a:Nat)(M:Mem):
  Sg 112 #[pB a] M [(a,cE (J6 y g r1 n e) 189)] λu M' b=>u=.tuple #[.agg (Bk Pv 0 0 0).toArray,iL e]/\b=[]:=by
 refine sB func112 ntmps112 ?_;intro W;refine gA λd=>?_;refine gt ?_;refine DW [0,1,2,3,4,105,6] [(a,cE (J6 y g r1 n e) 189)] ?_;refine gr ?_;exact⟨rfl,rfl⟩
theorem wLx(p:Po)(x:V5)(M:Mem)(h:PT5 M x p)(i:p.dead.length<=1000000)(a:Au p.st)(f:Nat):
  Sg 112 #[pB f] M [(f,cE (J6 x p.gen p.root p.next 0) 189)] λu M' g=>PoP (PJ (.ok p)) u M'/\g=[]:=by
 refine sB func112 ntmps112 ?_;intro W;refine gA λm=>?_;refine gt ?_;refine gc (PK p.st _ _ _ _ M h.b h.w h.n h.l a) ?_;rintro _ o d ⟨k,j,rfl⟩;refine gt ?_;refine gj (λe=>?_) λe=>?_
 ·refine gr ?_;have c:¬FM p.st:=λh=>by unfold FM at h;omega
  exact⟨by rw[Xk c];exact⟨by decide,rfl⟩,rfl⟩
 refine gr ?_;have c:FM p.st:=by unfold FM;omega
 exact⟨by rw[Xj c];exact⟨x,rfl,h.mono d⟩,rfl⟩
abbrev gob(gb:Nat)(y:V5)(g r1 n e:Int):Nat×Obj:=(gb,cE (J6 y g r1 n e) 189)
def G3(r:Except Int Po)(k:Int):Except Int Po:=match r with
 |.error e=>.error e
 |.ok q=>match Km q.st k with
  |.error e=>.error e
  |.ok t=>.ok ⟨t,q.gen,q.root,q.next,q.dead⟩
def NU(r:Except Int Po)(v:Vo):Except Int Po:=match r with
 |.error e=>.error e
 |.ok q=>Ej q v
theorem Qz(r:Except Int Po)(y:V5)(g r1 n e:Int)(M:Mem)(h:PoQ r M y g r1 n e)(E:∀q,r=.ok q->q.dead.length<=1000000)(v:Vo)(a:Nat):
  Sg 110 #[pB a,.agg (Ds v).toArray] M [gob a y g r1 n e] λ_ M' i=>∃(b:V5)(l:Int),PoQ (G3 r v.root) M' b g r1 n l/\(e≠0->b=y)/\i=[gob a b g r1 n l]:=by
 rcases h with⟨k,rfl⟩|⟨rfl,q,rfl,j,rfl,rfl,rfl⟩
 ·exact (wLs y g r1 n e M v a k).mono λ_ M' i c=>⟨y,e,.inl ⟨k,rfl⟩,λ_=>rfl,c⟩
 refine(wEk q y M j (E q rfl) v a).mono λ_ M' i ⟨u,s,o,m,H,D,F,c⟩=>⟨⟨u,s,o,m,y.d⟩,H,?_,λh=>aD rfl h,c⟩;rcases D with⟨G,f⟩|⟨rfl,t,f,_,C,B,z,w⟩
 ·exact .inl ⟨G,by unfold G3;dsimp only;rw[f]⟩
 exact .inr ⟨rfl,⟨t,q.gen,q.root,q.next,q.dead⟩,by unfold G3;dsimp only;rw[f],⟨C,B,z,w,j.d.mono F⟩,rfl,rfl,rfl⟩
theorem SA(r:Except Int Po)(y:V5)(g r1 n e:Int)(M:Mem)(h:PoQ r M y g r1 n e)(o:∀q,r=.ok q->q.dead.length<=1000000)(v:Vo)(l:0<=v.id/\v.id<4294967296)(b:Nat):
  Sg 111 #[pB b,.agg (Ds v).toArray] M [gob b y g r1 n e] λ_ M' k=>∃(c:V5)(i a d j:Int),PoQ (NU r v) M' c i a d j/\k=[gob b c i a d j]:=by
 rcases h with⟨f,rfl⟩|⟨rfl,q,rfl,m,rfl,rfl,rfl⟩
 ·exact (wSq y g r1 n e M v b f).mono λ_ M' k s=>⟨y,g,r1,n,e,.inl ⟨f,rfl⟩,s⟩
 exact wLn q y M m (o q rfl) v l b
theorem SC(r:Except Int Po)(y:V5)(g r1 n e:Int)(M:Mem)(h:PoQ r M y g r1 n e)(b:∀q,r=.ok q->q.dead.length<=1000000/\Au q.st)(a:Nat):
  Sg 112 #[pB a] M [gob a y g r1 n e] λu M' d=>PoP (PJ r) u M'/\d=[]:=by
 rcases h with⟨c,rfl⟩|⟨rfl,q,rfl,i,rfl,rfl,rfl⟩
 ·exact (wSs y g r1 n e c a M).mono λu M' d ⟨f,j⟩=>⟨⟨c,f⟩,j⟩
 exact wLx q y M i (b q rfl).1 (b q rfl).2 a
instance(priority:=low) Pick.more{p q:Nat×Obj}{R L L1 L2:Lc}[h:Pick [p] L L1][h2:Pick (q::R) L1 L2]:Pick (p::q::R) L L2:=⟨h.perm.trans (List.Perm.cons p h2.perm)⟩
def wUy(P:Program)(f:FuncId)(args:Array Value)(M:Mem)(L:Lc)(post:Mem->Lc->Prop):Prop:=
 ∀w,St ⟨w,L.map (·.1),M⟩ M L w->CallsDIn (FF none) 0 P f args .returning w λe u' w'=>u'=.returning/\∃v M' L',e=.returned v/\post M' L'/\St ⟨w,L.map (·.1),M⟩ M' L' w'
def wBp(P:Program)(fn:Func)(E:Ent)(post:Mem->Lc->Prop):Exit->Act->World->Prop:=
 bodyPost P fn λe w'=>∃v M' L',e=.returned v/\post M' L'/\St E M' L' w'
variable{L:Lc}{M:Mem}{P:Program}{c:Code}{f:FuncId}{fn:Func}{post:Mem->Lc->Prop}{vs:List Value}
theorem W6(N:Nat)(F:Fr)
  (j:P.funcs[f]? =some fn) (k:fn.body=some c) (i:fn.ntmps=N) (b:Nat.ble vs.length N=true) (l:H4 0 vs=F)
  (h:∀W,JC P ⟨N,[],none⟩ c F ⟨W,L.map (·.1),M⟩ M L (wBp P fn ⟨W,L.map (·.1),M⟩ post)):wUy P f vs.toArray M L post:=by
 intro w g;refine callsDIn_of_wp (F:=FF none) j k trivial (h w _ w ⟨?_,rfl,?_⟩ g) rfl
 ·have:vs.length<=N:=by simpa using b
  simp[i];omega
 intro t v d;rw[<-l]at d;obtain⟨_,e⟩:=Pb vs 0 t v d;have a:t<vs.length:=(List.getElem?_eq_some_iff.1 (by simpa using e)).1;simp only[List.size_toArray];rw[Array.getElem?_append_left (by simpa using a)];simpa using e
variable{E:Ent}{F:Fr}{N:Fs}
theorem XQ(h:JQ N .ret F E M L (wBp P fn E post)):JQ N .normal F E M L (wBp P fn E post):=h
variable{a:Act}{e:Exit}{w:World}
theorem wTk(h:wBp P fn E post e a w):Bt P fn E (λ_=>post) e a w:=by
 cases e with
 |normal=>obtain⟨b,h⟩:=h;show LeavesInM _ _ _ _ _ _ a.defers _ _;rw[b];exact h
 |ret=>obtain⟨b,h⟩:=h;show LeavesInM _ _ _ _ _ _ a.defers _ _;rw[b];exact h
 |panic c=>obtain⟨b,h⟩:=h;show LeavesInM _ _ _ _ _ _ a.defers _ _;rw[b];exact h
 |outgrown=>exact h
 |exit i=>exact h
 |goto l=>exact h
variable{n:Nat}
theorem XS(h:JQ ⟨n,[],none⟩ .ret F E M L (Bt P fn E λ_=>post)):JQ ⟨n,[],none⟩ .ret F E M L (wBp P fn E post):=λa w d e=>by
 have b:=h a w d e
 have c:a.defers=[]:=d.defers
 change LeavesInM _ _ _ _ _ _ a.defers _ _ at b
 rw[c]at b
 exact⟨c,b⟩
def SpecB(P:Program)(f:FuncId)(args:Array Value)(M:Mem)(L:Lc)(post:Mem->Lc->Prop):Prop:=wUy P f args M L post/\SpecL P f args M L λ_=>post
variable{args:Array Value}
theorem SpecB.mono{d:Mem->Lc->Prop}(h:SpecB P f args M L post)(g:∀M' L',post M' L'->d M' L'):SpecB P f args M L d:=
 ⟨λw i=>(h.1 w i).mono λ_ _ _ ⟨e,v,M',L',a,b,c⟩=>⟨e,v,M',L',a,g _ _ b,c⟩,h.2.mono λ_ M' L'=>g M' L'⟩
theorem GN(N:Nat)(F:Fr)
  (e:P.funcs[f]? =some fn) (g:fn.body=some c) (d:fn.ntmps=N) (b:Nat.ble vs.length N=true) (i:H4 0 vs=F)
  (h:∀W,JC P ⟨N,[],none⟩ c F ⟨W,L.map (·.1),M⟩ M L (wBp P fn ⟨W,L.map (·.1),M⟩ post)):SpecB P f vs.toArray M L post:=
 ⟨W6 N F e g d b i h,Jk N F e g d b i λW a w l j=>wpIn_mono (h W a w l j) λ_ _ _ k=>wTk k⟩
variable{D:List Deferred}{cap:Array Value}{post1:Mem->Lc->Prop}
theorem BO{R L2:Lc}{post:Value->Mem->Lc->Prop}{b:Array Value}(d:args++cap=b)(hgo:De P f=true)
  (hs:SpecB P f b M R post1) [l:Pick R L L2] (h:∀M' R',MLe M M'->post1 M' R'->JQ ⟨n,D,none⟩ .ret F E M' (R'++L2) (Bt P fn E post)):
  JQ ⟨n,⟨.fn (.func f) cap,args⟩::D,none⟩ .ret F E M L (Bt P fn E post):=λa w i k=>by
 have g:a.defers=⟨.fn (.func f) cap,args⟩::D:=i.defers
 have c:=k.perm l.perm
 show LeavesInM _ _ _ _ _ _ a.defers _ _
 rw[g]
 refine⟨by simp,.inr ⟨Fa _ _,.func f,cap,f,b,rfl,?_,λ_ _=>trivial,(hs.1 w c.into).mono λe z j m=>?_⟩⟩
 ·subst d;simp[invoke,GQ hgo]
 obtain⟨rfl,v,M',R',rfl,y,u⟩:=m
 obtain⟨s,o⟩:=c.back u
 exact h M' R' o y { a with defers:=D } j ⟨i.size,rfl,i.get⟩ s
section
variable{P:Program}{ops:Array Oper}{F:Fr}{E:Ent}{M:Mem}{L:Lc}{o:Oper}{Q:Exit->Act->World->Prop}{rest:List Oper}
theorem Lv{n:Nat}{D:List Deferred}{x:Operand}{xs:List Operand}{T:Array TypeId}{f:FuncId}{first b vs:List Value}(j:gd ops F o=some true)(l:o.dst=none)
  (i:o.op=.defer { callee:=.value x,args:=xs.toArray,argTypes:=T }) (d:ev F x=some (.func (.func f) first.toArray b.toArray)) (h:evs F xs=some vs)
  (k:JL P ops ⟨n,⟨.fn (.func f) b.toArray,(first++vs).toArray⟩::D,none⟩ Q rest F E M L):JL P ops ⟨n,D,none⟩ Q (o::rest) F E M L:=λa w c g=>by
 unfold wpListIn
 rw[if_pos (E3 c j)]
 refine⟨λ_ _=>trivial,?_⟩
 have m:(o.semAt (FF none).round a.eval).run P w=.ok (.defer ⟨.fn (.func f) b.toArray,(first++vs).toArray⟩) w:=by
  show (o.semAt none a.eval).run P w=_;rw[Oper.semAt_none];have e:=c.evs h;simp[execOp,i,resolve,c.ev d,Deferred.ofValue,e]
 rw[m,Oper.uponIn_defer,l]
 exact k { a with defers:=⟨.fn (.func f) b.toArray,(first++vs).toArray⟩::a.defers } w ⟨c.size,by show _::a.defers=_;rw[c.defers],c.get⟩ g
end
abbrev Gg:V5:=⟨⟨none,0,0⟩,⟨none,0,0⟩,⟨none,0,0⟩,⟨none,0,0⟩,⟨none,0,0⟩⟩
def PoZ(r:Except Int Po)(M':Mem)(y:V5)(g r1 n e:Int):Prop:=PoQ r M' y g r1 n e/\(e≠0->y=Pv/\g=0/\r1=0/\n=0)
variable{M':Mem}{g:Int}{y:V5}
theorem PoZ.p{r:Except Int Po}{r1 n e:Int}(h:PoZ r M' y g r1 n e):PoP r (.tuple #[.agg (Bk y g r1 n).toArray,iL e]) M':=by
 obtain⟨a,rfl⟩|⟨rfl,q,rfl,b,rfl,rfl,rfl⟩:=h.1
 ·obtain ⟨rfl,rfl,rfl,rfl⟩:=h.2 a;exact⟨a,rfl⟩
 exact⟨y,rfl,b⟩
theorem wGy(y:V5)(g r1 n e:Int)(d:¬e=0)(a b:Nat)(M:Mem):
  SpecB prog 100 #[pB a,pB b] M [(a,cE (Bk y g r1 n) 32),(b,cE [iL e] 40)] λ_ c=>c=[(a,cE (Bk Pv 0 0 0) 32),(b,cE [iL e] 40)]:=by
 refine GN (vs:=[_,_]) 34 _ func100 rfl ntmps100 rfl rfl ?_;intro W;refine gt ?_;refine XQ ?_;refine XS ?_;refine NT (rs:=[]) rfl .nil ?_;rfl
theorem wBn(p:Po)(x:V5)(M:Mem)(h:PT5 M x p)(o:p.dead.length<=1000000)(c:Au p.st)(a j:Nat):
  SpecB prog 100 #[pB a,pB j] M [(a,cE (Bk x p.gen p.root p.next) 32),(j,cE [iL 0] 40)] λM' m=>∃(y:V5)(g k n e:Int),PoZ (PJ (.ok p)) M' y g k n e/\m=[(a,cE (Bk y g k n) 32),(j,cE [iL e] 40)]:=by
 refine GN (vs:=[_,_]) 34 _ func100 rfl ntmps100 rfl rfl ?_;intro W;refine gt ?_;refine gc (PK p.st _ _ _ _ M h.b h.w h.n h.l c) ?_;rintro _ z f ⟨u,s,rfl⟩;refine gt ?_;refine gj (λi=>?_) λi=>?_
 ·refine gt ?_;refine XQ ?_;refine XS ?_;refine NT (rs:=[]) rfl .nil ?_;have d:¬FM p.st:=λh=>by unfold FM at h;omega
  exact⟨Pv,0,0,0,9,⟨.inl ⟨by decide,Xk d⟩,λ_=>⟨rfl,rfl,rfl,rfl⟩⟩,rfl⟩
 refine gt ?_;refine XQ ?_;refine XS ?_;refine NT (rs:=[]) rfl .nil ?_;have d:FM p.st:=by grind[FM]
 exact⟨x,_,_,_,0,⟨.inr ⟨rfl,p,Xj d,h.mono f,rfl,rfl,rfl⟩,λh=>aD rfl h⟩,rfl⟩
theorem Cn(r:Except Int Po)(y:V5)(g r1 n e:Int)(M:Mem)(h:PoQ r M y g r1 n e)(j:∀q,r=.ok q->q.dead.length<=1000000/\Au q.st)(a b:Nat):
  SpecB prog 100 #[pB a,pB b] M [(a,cE (Bk y g r1 n) 32),(b,cE [iL e] 40)] λM' d=>∃(y:V5)(g r1 n e:Int),PoZ (PJ r) M' y g r1 n e/\d=[(a,cE (Bk y g r1 n) 32),(b,cE [iL e] 40)]:=by
 rcases h with⟨c,rfl⟩|⟨rfl,q,rfl,i,rfl,rfl,rfl⟩
 ·exact (wGy y g r1 n e c a b M).mono λM' d f=>⟨Pv,0,0,0,e,⟨.inl ⟨c,rfl⟩,λ_=>⟨rfl,rfl,rfl,rfl⟩⟩,f⟩
 grind[wBn]
theorem D6(r:Except Int Po)(y:V5)(g r1 n e:Int)(M:Mem)(h:PoQ r M y g r1 n e)(f:∀q,r=.ok q->q.dead.length<=1000000/\Au q.st)(d:Int)(a b c:Nat):
  SpecB prog 99 #[pB a,pB b,pB c] M [(a,cE (Bk y g r1 n) 32),(b,cE [iL e] 40),(c,cE [iU d] 29)] λM' k=>∃(y:V5)(g r1 n e:Int),PoZ (PJ r) M' y g r1 n e/\k=[(a,cE (Bk y g r1 n) 32),(b,cE [iL e] 40),(c,cE [iU (if e=0 then d else 0)] 29)]:=by
 refine GN (vs:=[_,_,_]) 6 _ func99 rfl ntmps99 rfl rfl ?_;intro W;refine gC (Cn r y g r1 n e M h f a b).2 ?_;rintro _ z _ i ⟨l,u,o,m,w,s,rfl⟩;simp only[List.cons_append,List.nil_append];refine gj (λj=>?_) λj=>?_
 ·refine gh ?_;refine XQ ?_;refine XS ?_;refine NT (rs:=[]) rfl .nil ?_;grind
 refine gh ?_;refine XQ ?_;refine XS ?_;refine NT (rs:=[]) rfl .nil ?_;grind
theorem JF(r:Except Int Po)(y:V5)(g r1 n e:Int)(M:Mem)(h:PoQ r M y g r1 n e)(f:∀q,r=.ok q->q.dead.length<=1000000/\Au q.st)(d:Int)(a b c:Nat):
  SpecB prog 325 #[pB a,pB b,pB c] M [(a,cE (Bk y g r1 n) 32),(b,cE [iL e] 40),(c,cE [iL d] 3)] λM' k=>∃(y:V5)(g r1 n e:Int),PoZ (PJ r) M' y g r1 n e/\k=[(a,cE (Bk y g r1 n) 32),(b,cE [iL e] 40),(c,cE [iL (if e=0 then d else 0)] 3)]:=by
 refine GN (vs:=[_,_,_]) 6 _ func325 rfl ntmps325 rfl rfl ?_;intro W;refine gC (Cn r y g r1 n e M h f a b).2 ?_;rintro _ z _ i ⟨l,u,o,m,w,s,rfl⟩;simp only[List.cons_append,List.nil_append];refine gj (λj=>?_) λj=>?_
 ·refine gh ?_;refine XQ ?_;refine XS ?_;refine NT (rs:=[]) rfl .nil ?_;grind
 refine gh ?_;refine XQ ?_;refine XS ?_;refine NT (rs:=[]) rfl .nil ?_;grind
def PoP2(k:IntKind)(r:Except Int (Po×Int))(u:Value)(M':Mem):Prop:=match r with
 |.error e=>e≠0/\u=.tuple #[.agg (Bk Pv 0 0 0).toArray,.int k 0,iL e]
 |.ok (q,i)=>∃y,u=.tuple #[.agg (Bk y q.gen q.root q.next).toArray,.int k i,iL 0]/\PT5 M' y q
def KO(r:Except Int Po)(i:Int):Except Int (Po×Int):=match r with|.error e=>.error e|.ok q=>.ok (q,i)
variable{k:IntKind}
theorem PoZ.p2{r:Except Int Po}{r1 n e i j:Int}(h:PoZ r M' y g r1 n e)(c:∀q,r=.ok q->i=j):PoP2 k (KO r j) (.tuple #[.agg (Bk y g r1 n).toArray,.int k (if e=0 then i else 0),iL e]) M':=by
 obtain⟨a,rfl⟩|⟨rfl,q,rfl,b,rfl,rfl,rfl⟩:=h.1
 ·obtain ⟨rfl,rfl,rfl,rfl⟩:=h.2 a;exact⟨a,by rw[iN a]⟩
 exact⟨y,by rw[iP rfl,c q rfl],b⟩
theorem K7{p q:Po}{v:Vo}(h:Ej p v=.ok q):q.dead=p.dead/\Au q.st:=by
 grind[Ej,Fg]
def wHu(s:Sto):Except Int (Sto×Int):=if YJ s 0 []=0 then .ok (Ew s 0 [],(BD s:Int))else .error (YJ s 0 [])
def wTd(p:Po):Except Int (Sto×Int)->Except Int Po
 |.error e=>.error e
 |.ok (t,n)=>Ej ⟨t,p.gen,p.root,p.next+1,p.dead⟩ ⟨p.next,n,false,0⟩
def KL(p:Po):Except Int Po:=match cens p.st p.root p.next p.dead with
 |none=>.error 8
 |some (vs,_,_)=>if 16<=vs.length\/p.next=4294967295 then .error 9 else wTd p (wHu p.st)
theorem wNb{p:Po}(h:¬AO p=0):KL p=.error (AO p):=by
 grind[KL,AO]
variable{s:Sto}{u:Value}
theorem DmPost.q(h:DmPost s 0 [] u M'):∃(a b c d:Sl)(n e:Int),u=.tuple #[.agg #[a.v,b.v,c.v,d.v],iL n,iL e]/\PtQ (wHu s) M' a b c d n e:=by
 obtain⟨f,rfl⟩|⟨f,v,rfl,m,l⟩:=h
 ·exact ⟨⟨none,0,0⟩,⟨none,0,0⟩,⟨none,0,0⟩,⟨none,0,0⟩,0,_,rfl,.inl ⟨f,iN f⟩⟩
 obtain⟨a,b,c,d,rfl,k,j,i,g⟩:=m.four;exact⟨a,b,c,d,_,0,rfl,.inr ⟨rfl,_,iP f,l,k,j,i,g⟩⟩
theorem Ez{p q:Po}(h:KL p=.ok q):q.dead=p.dead/\Au q.st:=by
 unfold KL at h;split at h
 ·cases h
 split at h
 ·cases h
 unfold wTd at h;split at h
 ·cases h
 exact K7 (p:=⟨_,p.gen,p.root,p.next+1,p.dead⟩) h
theorem Wp(p:Po)(x:V5)(M:Mem)(h:PT5 M x p)(z:p.dead.length<=1000000)(hn:0<=p.next/\p.next<4294967296):
  Sg 55 #[.agg (Bk x p.gen p.root p.next).toArray] M [] λu M' L'=>PoP2 .u32 (KO (PJ (KL p)) p.next) u M'/\L'=[]:=by
 refine sB func55 ntmps55 ?_;intro W;refine ga4 λb1 j i f=>?_;refine Lv rfl rfl rfl rfl rfl ?_;refine gc (QE p x M h z) ?_;rintro _ B C ⟨sv,rfl,N⟩;refine gj (λs=>?_) λs=>?_
 ·refine gh ?_;have b:KL p=.error (AO p):=wNb s;refine AL (M':=B) (L':=[(f,cE [iL (AO p)] 40),(i,cE [iU 0] 29),(j,cE (Bk Gg 0 0 0) 32)]) (λw h=>h.fewer (.cons_cons _ (.cons_cons _ (.cons_cons _ (.cons _ .slnil))))) ?_;refine BO (by simp) (by kernel_rfl) (D6 _ Gg 0 0 0 (AO p) B (b▸.inl ⟨s,rfl⟩) (λq a=>⟨(Ez a).1▸z,(Ez a).2⟩) 0 j f i) ?_;rintro K _ o ⟨F,I,H,G,J,k,rfl⟩;simp only[List.cons_append,List.nil_append];refine gr ?_;exact⟨k.p2 λq a=>(by rw[b]at a;cases a),rfl⟩
 refine gg ?_;obtain⟨vs,c,nodes,S⟩:∃vs c nodes,cens p.st p.root p.next p.dead=some (vs,c,nodes):=by obtain⟨⟨vs,c,nodes⟩,S⟩:=poChk_is.1 (nN s);exact⟨vs,c,nodes,S⟩
 have aa:=(N vs c nodes S).1;have l:KL p=if 16<=vs.length\/p.next=4294967295 then .error 9 else wTd p (wHu p.st):=by grind[KL]
 refine gj (λU=>?_) λU=>?_
 ·refine gh ?_;have b:KL p=.error 9:=l.trans (iP (.inl (by omega)));refine AL (M':=B) (L':=[(f,cE [iL 9] 40),(i,cE [iU 0] 29),(j,cE (Bk Gg 0 0 0) 32)]) (λw h=>h.fewer (.cons_cons _ (.cons_cons _ (.cons_cons _ (.cons _ .slnil))))) ?_;refine BO (by simp) (by kernel_rfl) (D6 _ Gg 0 0 0 9 B (b▸.inl ⟨by decide,rfl⟩) (λq a=>⟨(Ez a).1▸z,(Ez a).2⟩) 0 j f i) ?_;rintro K _ o ⟨F,I,H,G,J,k,rfl⟩;simp only[List.cons_append,List.nil_append];refine gr ?_;exact⟨k.p2 λq a=>(by rw[b]at a;cases a),rfl⟩
 refine gj (λE=>?_) λE=>?_
 ·refine gh ?_;have b:KL p=.error 9:=l.trans (iP (.inr E));refine AL (M':=B) (L':=[(f,cE [iL 9] 40),(i,cE [iU 0] 29),(j,cE (Bk Gg 0 0 0) 32)]) (λw h=>h.fewer (.cons_cons _ (.cons_cons _ (.cons_cons _ (.cons _ .slnil))))) ?_;refine BO (by simp) (by kernel_rfl) (D6 _ Gg 0 0 0 9 B (b▸.inl ⟨by decide,rfl⟩) (λq a=>⟨(Ez a).1▸z,(Ez a).2⟩) 0 j f i) ?_;rintro K _ o ⟨F,I,H,G,J,k,rfl⟩;simp only[List.cons_append,List.nil_append];refine gr ?_;exact⟨k.p2 λq a=>(by rw[b]at a;cases a),rfl⟩
 refine ga λb6=>?_;refine gc (wCe p.st _ _ _ _ B ((h.mono C).st)) ?_;rintro _ L T R;obtain⟨qa,qb,qc,Z,n,V,rfl,a⟩:=R.q;refine gj (λD=>?_) λD=>?_
 ·refine gh ?_;obtain⟨h9,e⟩|⟨rfl,_⟩:=a;rotate_left
  ·omega
  have b:KL p=.error V:=by rw[l,iN (by omega),e];rfl
  refine AL (M':=L) (L':=[(f,cE [iL V] 40),(i,cE [iU 0] 29),(j,cE (Bk Gg 0 0 0) 32)]) (λw h=>h.fewer (.cons _ (.cons_cons _ (.cons_cons _ (.cons_cons _ (.cons _ .slnil)))))) ?_;refine BO (by simp) (by kernel_rfl) (D6 _ Gg 0 0 0 V L (b▸.inl ⟨D,rfl⟩) (λq a=>⟨(Ez a).1▸z,(Ez a).2⟩) 0 j f i) ?_;rintro K _ o ⟨F,I,H,G,J,k,rfl⟩;simp only[List.cons_append,List.nil_append];refine gr ?_;exact⟨k.p2 λq a=>(by rw[b]at a;cases a),rfl⟩
 refine gh ?_;obtain⟨h9,_⟩|⟨rfl,t,e,ab,g1,g2,g3,g4⟩:=a
 ·omega
 have Q:PT5 L ⟨qa,qb,qc,Z,x.d⟩ ⟨t,p.gen,p.root,p.next+1,p.dead⟩:=⟨g1,g2,g3,g4,h.d.mono (C.trans T)⟩;refine gh ?_;refine lq (wQx rfl rfl rfl rfl rfl (by rw[IntKind.wrap_u32];omega)) ?_;refine gc (JN ⟨t,p.gen,p.root,p.next+1,p.dead⟩ ⟨qa,qb,qc,Z,x.d⟩ L Q z ⟨p.next,n,false,0⟩ hn) ?_;rintro _ X ac P;obtain⟨y,g,Y,m,e3,rfl,O⟩:=P.q;refine gh ?_;refine Ga [4,5,6] [1,2,4,5,6] [0,1,2,3,104,105,106] X (_) ([(b6,cE (Ds ⟨p.next,n,false,0⟩) 98)]) ?_;refine gh ?_;have b:KL p=Ej ⟨t,p.gen,p.root,p.next+1,p.dead⟩ ⟨p.next,n,false,0⟩:=by rw[l,iN (by omega),e];rfl
 refine AL (M':=X) (L':=[(f,cE [iL e3] 40),(i,cE [iU p.next] 29),(j,cE (Bk y g Y m) 32)]) (λw h=>h.fewer (.cons _ (.cons_cons _ (.cons_cons _ (.cons_cons _ (.cons _ .slnil)))))) ?_;refine BO (by simp) (by kernel_rfl) (D6 _ y g Y m e3 X (b▸O) (λq a=>⟨(Ez a).1▸z,(Ez a).2⟩) p.next j f i) ?_;rintro K _ o ⟨F,I,H,G,J,k,rfl⟩;simp only[List.cons_append,List.nil_append];refine gr ?_;exact⟨k.p2 λq a=>rfl,rfl⟩
theorem Wh(bs:List (List By))(b:List Wt)(d e:Value)(M:Mem)(z:LS M d bs)(f:WS M e b)(c:H6 bs b)(k:Int)(hk:0<=k/\k<256)(a:List By)(g:Value)(s:BS M g a)(n:a.length=128)(i:b.length=4096):
  Sg 336 #[.agg #[d,e],iL k,g] M [] λu M' B=>u=.tuple #[dskZ,iL 9]/\B=[]:=by
 obtain⟨G,D,h,rfl,w,j,l,y⟩:=id f;obtain⟨da,C,rfl,o,m⟩:=id s;refine sB func336 ntmps336 ?_;intro W;refine JM λF E=>?_;refine gQ (H7 bs b d _ M z f c k hk) ?_;refine gu ?_;exact⟨rfl,rfl⟩
def DwQ(bs:List (List By))(ws:List Wt)(k:Int)(data:List By)(M':Mem)(a b:Sl)(e:Int):Prop:=(e=9/\ws.length=4096/\a=⟨none,0,0⟩/\b=⟨none,0,0⟩)\/(e=0/\ws.length≠4096/\LS M' a.v bs/\WS M' b.v (ws++[(k,data)]))
theorem Yz(bs:List (List By))(g:List Wt)(n j:Value)(M:Mem)(B:LS M n bs)(l:WS M j g)(f:H6 bs g)(k:Int)(hk:0<=k/\k<256)(c:List By)(m:Value)(z:BS M m c)(i:c.length=128):Sg 336 #[.agg #[n,j],iL k,m] M [] λu M' s=>(∃(a b:Sl)(e:Int),u=.tuple #[.agg #[a.v,b.v],iL e]/\DwQ bs g k c M' a b e)/\s=[]:=by
 by_cases o:g.length=4096
 ·exact (Wh bs g n j M B l f k hk c m z i o).mono λu M' s h=>⟨⟨⟨none,0,0⟩,⟨none,0,0⟩,9,h.1,.inl ⟨rfl,o,rfl,rfl⟩⟩,h.2⟩
 refine(Wg bs g n j M B l f k hk c m z i (by have:=f.2.1;omega)).mono λu M' s ⟨⟨d,E,F,C,D,y,w⟩,l⟩=>?_;subst E D;obtain⟨a,rfl⟩:=y.sl;obtain⟨b,rfl⟩:=w.sl;exact⟨⟨a,b,0,rfl,.inr ⟨rfl,o,y,w⟩⟩,l⟩
def wBa(s:Sto)(data:List By):List Nat->Except Int (Sto×Int)
 |[]=>.error 9
 |k::_=>if s.waits.length=4096 then .error 9 else .ok (⟨s.blocks,s.waits++[((k:Int),data)],s.now.set k 1,s.last⟩,(k:Int))
def HB(s:Sto)(data:List By):Except Int (Sto×Int):=if Au s then wBa s data (HY s 256)else .error 8
def PtY(r:Except Int (Sto×Int))(M':Mem)(a b c d:Sl)(n e:Int):Prop:=PtQ r M' a b c d n e/\(e≠0->a=⟨none,0,0⟩/\b=⟨none,0,0⟩/\c=⟨none,0,0⟩/\d=⟨none,0,0⟩/\n=0)
variable{M':Mem}{a:Sl}{n:Int}
theorem PtY.p{r:Except Int (Sto×Int)}{b c d:Sl}{e:Int}(h:PtY r M' a b c d n e):PtPost r (.tuple #[.agg #[a.v,b.v,c.v,d.v],iL n,iL e]) M':=by
 obtain⟨f,rfl⟩|⟨rfl,t,rfl,l,k,j,i,g⟩:=h.1
 ·obtain ⟨rfl,rfl,rfl,rfl,rfl⟩:=h.2 f;exact⟨f,rfl⟩
 exact⟨_,rfl,⟨_,_,_,_,rfl,k,j,i,g⟩,l⟩
variable{k:Nat}{l:List Nat}{s:Sto}
theorem TH{n:Nat}(h:HY s n=k::l):8<=k/\k<n:=by
 have b:k∈HY s n:=by rw[h];simp
 unfold HY at b;have c:=List.mem_filter.1 b;have d:=List.mem_range.1 c.1;have a:=c.2;unfold NV at a;rw[Bool.and_eq_true]at a;exact⟨oT a.1,d⟩
variable{data:List By}
theorem W0(h:Au s)(hk:8<=k/\k<256)(b:data.length=128)(a:s.waits.length≠4096):Au ⟨s.blocks,s.waits++[((k:Int),data)],s.now.set k 1,s.last⟩:=by
 obtain⟨⟨g,i,f,e⟩,d,c⟩:=h;refine⟨⟨g,by rw[List.length_append];show _+1<=_;omega,f,λw a=>?_⟩,GG hk.1 d,c⟩;rcases mA a with a|a
 ·exact e w a
 rw[mS a];exact⟨by show (0:Int)<=k;omega,by show (k:Int)<256;omega,b⟩
theorem WZ(s:Sto)(D o nv lw:Value)(M:Mem)(h1:LS M D s.blocks)(h2:WS M o s.waits)(h3:BS M nv s.now)(h4:BS M lw s.last)(a:List By)(dv:Value)(V:BS M dv a)(X:a.length=128):
  Sg 326 #[.agg #[D,o,nv,lw],dv] M [] λu M' L'=>PtPost (HB s a) u M'/\L'=[]:=by
 obtain⟨da,dc,rfl,az,ax⟩:=id V;obtain⟨nb,O,rfl,ao,am⟩:=id h3;obtain⟨lb,Q,rfl,aq,ap⟩:=id h4;refine sB func326 ntmps326 ?_;intro W;refine ga λb2=>?_;refine lh (Bz rfl rfl rfl rfl) ?_;rintro _ _ _ ⟨b3,rfl,rfl,rfl⟩;refine VY λb4 b5 b6=>?_;refine gQ (CC s _ M ⟨D,o,_,_,rfl,h1,h2,h3,h4⟩) ?_;refine gj (λG=>?_) λG=>?_
 ·refine gr ?_;have hn:¬Au s:=λhs=>G (iP hs);exact⟨by rw[show HB s a=.error 8 from iN hn,show Dz s=8 from iN hn];exact⟨by decide,rfl⟩,rfl⟩
 refine gg ?_;have b:Au s:=Classical.byContradiction λhn=>G (by unfold Dz;rw[iN hn];decide);obtain⟨ay,⟨ae,_⟩,⟨af,_⟩⟩:=id b;refine gt ?_;refine gC (free_spec D o _ _ M) ?_;rintro _ M1 _ j ⟨fb,rfl,ag,rfl⟩;simp only[List.nil_append];refine gh ?_;refine D0 (R:=[(b6,cE [iL 0] 40),(b5,cE [iL 0] 3),(b4,cE [sN,sN,sN,sN] 28),(b3,cE [.slice da a.length dc] 26),(b2,cE [D,o,.slice nb s.now.length O,.slice lb s.last.length Q] 28)]) (xs:=HY s 256) (enc:=(λy:Nat=>[iL (y:Int)])) (ps:=[24]) rfl (by kernel_rfl) (SD s D o _ _ M1 (h1.mono j) (h2.mono j) (h3.mono j) (h4.mono j) b fb ag)
  (λE _ R=>E=[]/\R=[(b6,cE [iL 0] 40),(b5,cE [iL 0] 3),(b4,cE [sN,sN,sN,sN] 28),(b3,cE [.slice da a.length dc] 26),(b2,cE [D,o,.slice nb s.now.length O,.slice lb s.last.length Q] 28)])
  (λc _ M' R=>c=.ret/\∃(qa qb qc qd:Sl)(n e:Int),PtY (HB s a) M' qa qb qc qd n e/\R=[(b6,cE [iL e] 40),(b5,cE [iL n] 3),(b4,cE [qa.v,qb.v,qc.v,qd.v] 28)])
  (λ_=>rfl) (by decide) ⟨rfl,rfl⟩ ?_ ?_ ?_
 ·intro l W2 E y M2 R2 F hI z;obtain⟨rfl,rfl⟩:=hI;obtain⟨tl,m⟩:∃tl,HY s 256=y::tl:=by obtain⟨tl,h⟩:=z;exact⟨tl,h.symm⟩
  have ad:=TH m;have k:=j.trans F;have T:HB s a=wBa s a (y::tl):=by unfold HB;rw[iP b,m]
  refine gh ?_;refine jK λW'=>?_;refine gc (Yz s.blocks s.waits D o M2 (h1.mono k) (h2.mono k) b.1 (y:Int) (by omega) a _ (V.mono k) X) ?_;rintro _ M3 aa ⟨va,vb,er,rfl,U⟩;refine gA λb9=>?_;obtain⟨N,K,L⟩:=va;obtain⟨J,H,I⟩:=vb;refine gj (λac=>?_) λac=>?_
  ·refine gh ?_;refine AL (M':=M3) (L':=[(b6,cE [iL er] 40),(b5,cE [iL 0] 3),(b4,cE [sN,sN,sN,sN] 28)]) (λw h=>h.fewer (.cons _ (.cons_cons _ (.cons_cons _ (.cons_cons _ (.cons _ (.cons _ .slnil))))))) ?_;refine jQr ?_;obtain⟨rfl,hw,_⟩|⟨h0,_⟩:=U;rotate_left
   ·exact aD h0 ac
   exact⟨rfl,⟨none,0,0⟩,⟨none,0,0⟩,⟨none,0,0⟩,⟨none,0,0⟩,0,9,⟨.inl ⟨by decide,by rw[T];exact iP hw⟩,λ_=>⟨rfl,rfl,rfl,rfl,rfl⟩⟩,rfl⟩
  refine gC (B2 _ s.now M3 ((h3.mono k).mono aa) (by omega)) ?_;rintro _ M4 R4 Z B;obtain⟨cg,C,aw,e0,e1,av,au,_⟩:=B.open (by omega);cases e0;subst e1;simp only[List.cons_append,List.nil_append];refine gh ?_;refine Dv rfl (DO rfl rfl rfl rfl rfl rfl B rfl (by omega)) ?_;rintro _ _ _ ⟨rfl,R6,rfl,f⟩;rw[mO,Nat.zero_add,tN]at f;refine gh ?_;refine Ga [7,8,9] [6,7,8,9] [0,1,2,3,6,104,5,107,108,109] M4 (_) ([]) ?_;refine gh ?_;refine Gu rfl rfl rfl (BU rfl rfl rfl rfl rfl (by kernel_rfl) (B2 _ s.last M4 (((h4.mono k).mono aa).mono Z) (by omega))) ?_;rintro _ M5 _ ⟨i,R5,rfl,g⟩;refine⟨_,_,mR,i,λ_ h=>h,λ_ hp=>List.mem_append_right _ hp,?_⟩;obtain⟨S,P,rfl⟩:=g.form;refine dq rfl (BC (cs:=[_,_,_,_]) rfl rfl rfl (by rfl)) ?_;refine G2 rfl rfl (Ak rfl rfl rfl rfl rfl rfl rfl rfl) ?_;rintro _ _ _ ⟨rfl,rfl⟩;refine⟨i,by simp,?_⟩;refine KB rfl rfl (Ak rfl rfl rfl rfl rfl rfl rfl rfl) ?_;rintro _ _ _ ⟨rfl,rfl⟩;refine⟨i,by simp,?_⟩;refine KB rfl rfl (Ak rfl rfl rfl rfl rfl rfl rfl rfl) ?_;rintro _ _ _ ⟨rfl,rfl⟩;refine⟨i,by simp,?_⟩;refine gh ?_;refine Lt g (by simp) ?_;intro Ma a5 c5 ah e5 al ak;cases e5;refine Lt f (by simp) ?_;intro Mb a6 c6 Y e6 aj ai;cases e6;refine AL (M':=Mb) (L':=[(b6,cE [iL 0] 40),(b5,cE [iL (y:Int)] 3),(b4,cE [.slice N K L,.slice J H I,.slice (sA cg 0) s.now.length C,.slice S s.last.length P] 28)]) (λw h=>h.fewer (.cons _ (.cons_cons _ (.cons_cons _ (.cons_cons _ (.cons _ (.cons _ .slnil))))))) ?_;refine jQr ?_;obtain⟨h0,_⟩|⟨_,hw,g1,g2⟩:=U
  ·omega
  have ab:=Z.trans (i.trans (ah.trans Y));refine⟨rfl,⟨N,K,L⟩,⟨J,H,I⟩,⟨sA cg 0,s.now.length,C⟩,⟨S,s.last.length,P⟩,(y:Int),0,⟨.inr ⟨rfl,_,by rw[T];exact iN hw,W0 b ad X hw,g1.mono ab,g2.mono ab,?_,⟨_,_,rfl,al,ak.mono Y⟩⟩,λh=>aD rfl h⟩,rfl⟩;exact⟨_,_,by show Value.slice _ _ _=Value.slice _ (s.now.set y 1).length _;rw[List.length_set],by show (s.now.set y 1).length<=_;rw[List.length_set];exact aj,by show SM Mb _ (Aa (s.now.set y 1));unfold Aa;rw[List.map_set];exact ai⟩
 ·intro d M2 R2 F hI;obtain⟨m,rfl⟩:=hI;simp only[List.cons_append,List.nil_append];refine gh ?_;refine Bn (L2:=_) (by first|exact List.Perm.refl _|exact Rm.perm) ?_;refine gr ?_;exact⟨by rw[show HB s a=.error 9 by unfold HB;rw[iP b,m];rfl];exact⟨by decide,rfl⟩,rfl⟩
 intro d c E M2 R2 F z hI;obtain⟨rfl,qa,qb,qc,qd,n,e,hz,rfl⟩:=hI;simp only[List.cons_append,List.nil_append];refine gh ?_;refine Bn (L2:=_) (by first|exact List.Perm.refl _|exact Rm.perm) ?_;refine gr ?_;exact⟨hz.p,rfl⟩
theorem WY(s:Sto)(v:Value)(M:Mem)(h:ST M v s)(a:List By)(e:Value)(c:BS M e a)(d:a.length=128):Sg 326 #[v,e] M [] λu M' k=>PtPost (HB s a) u M'/\k=[]:=by
 obtain⟨b,w,n,l,rfl,j,i,g,f⟩:=h.ex;exact WZ s b w n l M j i g f a e c d
def RA(d:List By):List By:=d++List.replicate (128-d.length) 0
variable{d:List By}
theorem HI(h:d.length<=128):(RA d).length=128:=by unfold RA;rw[List.length_append,List.length_replicate];omega
theorem Xw(h:d.length<=128):(List.replicate (128:Int).toNat [iB 0]).flatten.take 0++Aa d++(List.replicate (128:Int).toNat [iB 0]).flatten.drop (0+(Aa d).length)=Aa (RA d):=by
 have a:(List.replicate (128:Int).toNat [iB 0]).flatten=List.replicate 128 (iB 0):=by simp
 rw[a,List.take_zero,List.nil_append,Nat.zero_add,Ac,List.drop_replicate];unfold RA Aa;rw[List.map_append,List.map_replicate];rfl
def layN(p:Po):Except Int (Sto×Int)->Except Int (Po×Int)
 |.error e=>.error e
 |.ok (t,k)=>.ok (⟨t,p.gen,p.root,p.next,p.dead⟩,k)
def G0(p:Po)(d:List By):Except Int (Po×Int):=if AO p=0 then (if 128<d.length then .error 3 else layN p (HB p.st (RA d)))else .error (AO p)
def Yk:Except Int (Po×Int)->Except Int Po
 |.error e=>.error e
 |.ok (q,_)=>.ok q
def MO(p:Po)(d:List By):Except Int (Po×Int):=match G0 p d with
 |.error e=>.error e
 |.ok (q,k)=>KO (PJ (.ok q)) k
variable{e:Int}
theorem Qg{p:Po}(h:G0 p d=.error e)(k:Int):MO p d=KO (PJ (Yk (G0 p d))) k:=by unfold MO;rw[h];rfl
variable{k:Int}
theorem wSa{p q:Po}(h:G0 p d=.ok (q,k)):MO p d=KO (PJ (Yk (G0 p d))) k:=by unfold MO;rw[h];rfl
theorem wPw{s t:Sto}(h:HB s d=.ok (t,k))(e:d.length=128):Au t:=by
 unfold HB at h;split at h
 ·rename_i c;cases b:HY s 256 with
  |nil=>rw[b]at h;cases h
  |cons j l=>
   rw[b]at h
   by_cases a:s.waits.length=4096
   ·rw [show wBa s d (j::l)=.error 9 from iP a]at h;cases h
   rw[show wBa s d (j::l)=.ok (⟨s.blocks,s.waits++[((j:Int),d)],s.now.set j 1,s.last⟩,(j:Int))from iN a]at h;cases h;exact W0 c (TH b) e a
 cases h
theorem FW{p q:Po}(h:Yk (G0 p d)=.ok q):q.dead=p.dead/\Au q.st:=by
 unfold G0 at h;split at h
 ·split at h
  ·cases h
  rename_i b;cases a:HB p.st (RA d)with
  |error e=>rw[a]at h;cases h
  |ok x=>obtain⟨t,k⟩:=x;rw[a]at h;cases h;exact⟨rfl,wPw a (HI (by omega))⟩
 cases h
theorem wKg(p:Po)(x:V5)(M:Mem)(h:PT5 M x p)(E:p.dead.length<=1000000)(a:List By)(dv:Value)(ab:BS M dv a):
  Sg 283 #[.agg (Bk x p.gen p.root p.next).toArray,dv] M [] λu M' L'=>PoP2 .i64 (MO p a) u M'/\L'=[]:=by
 obtain⟨da,dc,rfl,G,B⟩:=id ab;refine sB func283 ntmps283 ?_;intro W;refine ga4 λb2 y m s=>?_;refine Lv rfl rfl rfl rfl rfl ?_;refine gc (FA p _ M h.pt E) ?_;rintro _ S D rfl;refine gj (λg=>?_) λg=>?_
 ·refine gh ?_;have b:G0 p a=.error (AO p):=iN g;refine AL (M':=S) (L':=[(s,cE [iL (AO p)] 40),(m,cE [iL 0] 3),(y,cE (Bk Gg 0 0 0) 32)]) (λw h=>h.fewer (.cons_cons _ (.cons_cons _ (.cons_cons _ (.cons _ .slnil))))) ?_;refine BO (by simp) (by kernel_rfl) (JF (Yk (G0 p a)) Gg 0 0 0 (AO p) S (b▸.inl ⟨g,rfl⟩) (λq c=>⟨(FW c).1▸E,(FW c).2⟩) 0 y s m) ?_;rintro M9 _ C ⟨T,g9,Y,X,e9,z,rfl⟩;simp only[List.cons_append,List.nil_append];refine gr ?_;exact⟨by rw[Qg b 0];exact z.p2 λq c=>rfl,rfl⟩
 refine gj (λag=>?_) λag=>?_
 ·refine gh ?_;have b:G0 p a=.error 3:=(iP (nN g)).trans (iP (by omega));refine AL (M':=S) (L':=[(s,cE [iL 3] 40),(m,cE [iL 0] 3),(y,cE (Bk Gg 0 0 0) 32)]) (λw h=>h.fewer (.cons_cons _ (.cons_cons _ (.cons_cons _ (.cons _ .slnil))))) ?_;refine BO (by simp) (by kernel_rfl) (JF (Yk (G0 p a)) Gg 0 0 0 3 S (b▸.inl ⟨by decide,rfl⟩) (λq c=>⟨(FW c).1▸E,(FW c).2⟩) 0 y s m) ?_;rintro M9 _ C ⟨T,g9,Y,X,e9,z,rfl⟩;simp only[List.cons_append,List.nil_append];refine gr ?_;exact⟨by rw[Qg b 0];exact z.p2 λq c=>rfl,rfl⟩
 refine gh ?_;refine lh (DP rfl rfl rfl rfl (by omega) (by rfl)) ?_;rintro _ _ _ ⟨I,rfl,rfl,rfl⟩;refine gh ?_;have f:a.length<=128:=by omega
 refine gh ?_;refine lh (VO (cs:=Aa a) rfl rfl rfl rfl (by rw[Ac];omega) ((B.mono D).sj _) (by intro v hv;obtain⟨x,_,rfl⟩:=List.mem_map.1 hv;rfl) (by rw[Ac];simp;omega)) ?_;rintro _ _ _ ⟨rfl,rfl,rfl⟩;refine Am (jT (Ao ?_));rw[Xw f];refine BH I (by simp) ?_;intro J H ah;have ac:BS J (.slice (sA I 0) 128 128) (RA a):=⟨_,128,by rw[HI f],by rw[HI f];omega,SM.of_block ah⟩;refine gc (WY p.st _ J ((h.mono (D.trans H)).st) (RA a) _ ac (HI f)) ?_;rintro _ R ae Z;have af:=D.trans (H.trans ae);obtain⟨O,N,L,K,n,er,rfl,c⟩:=Z.q;refine gA λb9=>?_;refine gj (λj=>?_) λj=>?_
 ·refine gh ?_;obtain⟨h9,i⟩|⟨rfl,_⟩:=c;rotate_left
  ·exact aD rfl j
  have b:G0 p a=.error er:=by unfold G0;rw[iP (nN g),iN (by omega),i];rfl
  refine AL (M':=R) (L':=[(s,cE [iL er] 40),(m,cE [iL 0] 3),(y,cE (Bk Gg 0 0 0) 32)]) (λw h=>h.fewer (.cons _ (.cons_cons _ (.cons_cons _ (.cons_cons _ (.cons _ .slnil)))))) ?_;refine BO (by simp) (by kernel_rfl) (JF (Yk (G0 p a)) Gg 0 0 0 er R (b▸.inl ⟨j,rfl⟩) (λq c=>⟨(FW c).1▸E,(FW c).2⟩) 0 y s m) ?_;rintro M9 _ C ⟨T,g9,Y,X,e9,z,rfl⟩;simp only[List.cons_append,List.nil_append];refine gr ?_;exact⟨by rw[Qg b 0];exact z.p2 λq c=>rfl,rfl⟩
 refine gh ?_;obtain⟨h9,_⟩|⟨rfl,t,i,aj,g1,g2,g3,g4⟩:=c
 ·exact aD (nN j) h9
 refine Ga [5,7] [5,6,7] [0,1,2,4,103,105,6,107] R ([(b9,cE [O.v,N.v,L.v,K.v] 28),(b2,cE (Bk x p.gen p.root p.next) 32)]) ([]) ?_;refine gh ?_;obtain⟨V,U,exd,ai,F⟩:=h.d;refine dh rfl (BU rfl rfl rfl rfl rfl (by kernel_rfl) (by rw[exd];exact Dm V _ U (Al p.dead) R (F.mono af) (Ay _) (DH _) E)) ?_;rintro _ M4 _ ⟨e,R4,rfl,o⟩;refine⟨e,by simp,?_⟩;obtain⟨l,k,rfl⟩:=o.form;refine G2 rfl rfl (Ak rfl rfl rfl rfl rfl rfl rfl rfl) ?_;rintro _ _ _ ⟨rfl,rfl⟩;refine⟨(by first|exact e|exact mR),by simp,?_⟩;refine JY rfl rfl rfl (Ah rfl rfl rfl rfl rfl) ?_;refine KB rfl rfl (Ak rfl rfl rfl rfl rfl rfl rfl rfl) ?_;rintro _ _ _ ⟨rfl,rfl⟩;refine⟨(by first|exact e|exact mR),by simp,?_⟩;refine gh ?_;refine HQ o (by simp) ?_;intro Q al ak ad ed G B;cases ed;have P:=e.trans ad;have aa:PT5 Q ⟨O,N,L,K,⟨l,p.dead.length,k⟩⟩ ⟨t,p.gen,p.root,p.next,p.dead⟩:=⟨g1.mono P,g2.mono P,g3.mono P,g4.mono P,⟨l,k,rfl,G,B⟩⟩;refine Ga [2,3,4] [1,2,3,4] [0,1,102,103,104] Q (_) ([(m,cE [iL n] 3)]) ?_;refine dq rfl (K5 rfl rfl rfl rfl rfl) ?_;refine wKp rfl rfl rfl (Aw rfl rfl rfl rfl (CJ.loc rfl)) ?_;refine G2 rfl rfl (Ak rfl rfl rfl rfl rfl rfl rfl rfl) ?_;rintro _ _ _ ⟨rfl,rfl⟩;refine⟨(by first|exact e|exact mR),by simp,?_⟩;refine KB rfl rfl (Ak rfl rfl rfl rfl rfl rfl rfl rfl) ?_;rintro _ _ _ ⟨rfl,rfl⟩;refine⟨(by first|exact e|exact mR),by simp,?_⟩;refine KB rfl rfl (Ak rfl rfl rfl rfl rfl rfl rfl rfl) ?_;rintro _ _ _ ⟨rfl,rfl⟩;refine⟨(by first|exact e|exact mR),by simp,?_⟩;refine gh ?_;have b:G0 p a=.ok (⟨t,p.gen,p.root,p.next,p.dead⟩,n):=by unfold G0;rw[iP (nN g),iN (by omega),i];rfl
 refine AL (M':=Q) (L':=[(s,cE [iL 0] 40),(m,cE [iL n] 3),(y,cE (Bk ⟨O,N,L,K,⟨l,p.dead.length,k⟩⟩ p.gen p.root p.next) 32)]) (λw h=>h.fewer (.cons _ (.cons_cons _ (.cons_cons _ (.cons_cons _ (.cons _ .slnil)))))) ?_;refine BO (by simp) (by kernel_rfl) (JF (Yk (G0 p a)) ⟨O,N,L,K,⟨l,p.dead.length,k⟩⟩ p.gen p.root p.next 0 Q (b▸.inr ⟨rfl,_,rfl,aa,rfl,rfl,rfl⟩) (λq c=>⟨(FW c).1▸E,(FW c).2⟩) n y s m) ?_;rintro M9 _ C ⟨T,g9,Y,X,e9,z,rfl⟩;simp only[List.cons_append,List.nil_append];refine gr ?_;exact⟨by rw[wSa b];exact z.p2 λq c=>rfl,rfl⟩
end Go.Proofs.YtjheijhahehnmaaGreatDoor
