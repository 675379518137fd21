/- Walks: vol.Lay. No statement of the seat is proved here. -/
import Derived.Test.YtdahhoicackcaaaGreatZHn
import Derived.Test.YtdahhoicackcaaaGreatZFree
import Derived.Test.YtdahhoicackcaaaGreatZShv
import Derived.Test.YtdahhoicackcaaaGreatZDelf
import Derived.Test.YtdahhoicackcaaaGreatZDway
namespace Go.Proofs.YtdahhoicackcaaaGreat
open Go.Proofs.Tryz
set_option linter.unusedSimpArgs false
set_option linter.unusedVariables false
set_option linter.unusedSectionVars false
open Go.RowKit
set_option maxRecDepth 8000
set_option maxHeartbeats 40000000
abbrev Jg(x:V5)(g r n e:Int):List Value:=AO x g r n++[.int .i64 e]
theorem Pj(p:Po)(x:V5)(M:Mem)(h:PT5 M x p)(b:p.dead.length<=1000000)(q:Int)(a:Nat)(e:Int):
  SpecL prog 68 #[pB a,.int .u32 q] M [(a,cE (Jg x p.gen p.root p.next e) 127)] λu M' d=>u=.agg (CU (volV p q)).toArray/\d=[(a,cE (Jg x p.gen p.root p.next (volE p q)) 127)]:=by
 refine sB func68 ntmps68 ?_;intro W
 refine ga λf=>?_
 refine gc (E1 p x M h b q) ?_;rintro _ g c rfl
 refine gh ?_
 refine zd ([(a,cE (Jg x p.gen p.root p.next (volE p q)) 127)]) rfl ?_
 exact⟨rfl,rfl⟩
theorem wCs(y:V5)(g b n e:Int)(M:Mem)(v:Vo)(a:Nat)(c:¬e=0):
  SpecL prog 69 #[pB a,.agg (CU v).toArray] M [(a,cE (Jg y g b n e) 127)] λu M' L'=>L'=[(a,cE (Jg y g b n e) 127)]:=by
 refine sB func69 ntmps69 ?_;intro W
 refine gA λd=>?_
 refine gt ?_
 refine Ug ?_
 refine AD (L':=[(a,cE (Jg y g b n e) 127)]) (by simp) ?_
 refine JV (rs:=[]) rfl .nil ?_
 rfl
theorem YK(p:Po)(x:V5)(M:Mem)(h:PT5 M x p)(m:p.dead.length<=1000000)(v:Vo)(g:Nat):
  SpecL prog 69 #[pB g,.agg (CU v).toArray] M [(g,cE (Jg x p.gen p.root p.next 0) 127)] λu M' L'=>∃(f e c b:Sl)(i:Int),StQ (E7 p.st v.root) M' f e c b i/\MLe M M'/\L'=[(g,cE (Jg ⟨f,e,c,b,x.d⟩ p.gen p.root p.next i) 127)]:=by
 refine sB func69 ntmps69 ?_;intro W
 refine gA λl=>?_
 refine gt ?_
 refine Hr [16,19] [1,12,16,17,18,19] [0,1,2,3,4,5,6,7,8,109,10,11,12,13,14,15,116,17,18,119] M ([(l,cE (CU v) 82),(g,cE (Jg x p.gen p.root p.next 0) 127)]) ([]) ?_
 refine gh ?_
 refine dh rfl (hC (FE p.st v.root _ M h.st)) ?_;rintro _ n _ ⟨a,_,rfl,⟨j,rfl⟩⟩
 refine⟨a,by simp,?_⟩
 simp only[List.nil_append]
 obtain⟨f,e,c,b,i,rfl,k⟩:=j.q
 iterate 3 refine dp rfl rfl ?_
 refine dq rfl (BZ rfl rfl rfl) ?_
 refine dq rfl (Ak rfl rfl rfl rfl rfl) ?_
 refine dq rfl (Ak rfl rfl rfl rfl rfl) ?_
 refine Ed rfl rfl (Ae rfl rfl rfl rfl rfl rfl rfl rfl) ?_;rintro _ _ _ ⟨rfl,rfl⟩
 refine⟨a,by simp,?_⟩
 refine Hq rfl rfl rfl (BZ rfl rfl rfl) ?_
 refine Hq rfl rfl rfl (Ak rfl rfl rfl rfl rfl) ?_
 refine G1 rfl rfl (Ae rfl rfl rfl rfl rfl rfl rfl rfl) ?_;rintro _ _ _ ⟨rfl,rfl⟩
 refine⟨a,by simp,?_⟩
 refine gh ?_
 refine Ug ?_
 refine AD (L':=[(g,cE (Jg ⟨f,e,c,b,x.d⟩ p.gen p.root p.next i) 127)]) (by simp) ?_
 refine JV (rs:=[]) rfl .nil ?_
 exact⟨f,e,c,b,i,k,a,rfl⟩
theorem wJt(y:V5)(g b n e:Int)(M:Mem)(v:Vo)(a:Nat)(c:¬e=0):
  SpecL prog 70 #[pB a,.agg (CU v).toArray] M [(a,cE (Jg y g b n e) 127)] λu M' L'=>L'=[(a,cE (Jg y g b n e) 127)]:=by
 refine sB func70 ntmps70 ?_;intro W
 refine gA λd=>?_
 refine gt ?_
 refine Ug ?_
 refine AD (L':=[(a,cE (Jg y g b n e) 127)]) (by simp) ?_
 refine JV (rs:=[]) rfl .nil ?_
 rfl
theorem wCn(p:Po)(x:V5)(M:Mem)(h:PT5 M x p)(j:p.dead.length<=1000000)(v:Vo)(f:0<=v.id/\v.id<4294967296)(c:Nat):
  SpecL prog 70 #[pB c,.agg (CU v).toArray] M [(c,cE (Jg x p.gen p.root p.next 0) 127)] λu M' L'=>∃(y:V5)(g b n d:Int),PoQ (Dq p v) M' y g b n d/\L'=[(c,cE (Jg y g b n d) 127)]:=by
 refine sB func70 ntmps70 ?_;intro W
 refine gA λk=>?_
 refine gt ?_
 refine Hr [13,16] [1,10,13,14,15,16] [0,1,2,3,4,5,6,107,8,9,10,11,12,113,14,15,116] M ([(k,cE (CU v) 82),(c,cE (Jg x p.gen p.root p.next 0) 127)]) ([]) ?_
 refine gh ?_
 refine dh rfl (hC (H4 p x M h j v f)) ?_;rintro _ l _ ⟨a,_,rfl,⟨e,rfl⟩⟩
 refine⟨a,by simp,?_⟩
 simp only[List.nil_append]
 obtain⟨y,g,b,n,d,rfl,i⟩:=e.q
 iterate 3 refine dp rfl rfl ?_
 refine dq rfl (BZ rfl rfl rfl) ?_
 refine dq rfl (Ak rfl rfl rfl rfl rfl) ?_
 refine Ed rfl rfl (Ae rfl rfl rfl rfl rfl rfl rfl rfl) ?_;rintro _ _ _ ⟨rfl,rfl⟩
 refine⟨a,by simp,?_⟩
 refine Hq rfl rfl rfl (BZ rfl rfl rfl) ?_
 refine Hq rfl rfl rfl (Ak rfl rfl rfl rfl rfl) ?_
 refine G1 rfl rfl (Ae rfl rfl rfl rfl rfl rfl rfl rfl) ?_;rintro _ _ _ ⟨rfl,rfl⟩
 refine⟨a,by simp,?_⟩
 refine gh ?_
 refine Ug ?_
 refine AD (L':=[(c,cE (Jg y g b n d) 127)]) (by simp) ?_
 refine JV (rs:=[]) rfl .nil ?_
 exact⟨y,g,b,n,d,i,rfl⟩
def DF(s:Sto):Prop:=16<=(frN s 256).length
instance(s:Sto):Decidable (DF s):=by unfold DF;exact inferInstance
def JU:Except Int Po->Except Int Po
 |.error e=>.error e
 |.ok q=>if DF q.st then .ok q else .error 9
theorem UP{p:Po}(h:DF p.st):JU (.ok p)=.ok p:=if_pos h
theorem UQ{p:Po}(h:¬DF p.st):JU (.ok p)=.error 9:=if_neg h
theorem wJw(y:V5)(g b n e:Int)(d:¬e=0)(a:Nat)(M:Mem):
  SpecL prog 71 #[pB a] M [(a,cE (Jg y g b n e) 127)] λu M' c=>u=.tuple #[.agg (AO Sh 0 0 0).toArray,.int .i64 e]/\c=[]:=by
 refine sB func71 ntmps71 ?_;intro W
 refine gA λf=>?_
 refine gt ?_
 refine LL [0,1,2,3,4,105,6] [(a,cE (Jg y g b n e) 127)] ?_
 refine gr ?_
 exact⟨rfl,rfl⟩
theorem wCx(p:Po)(x:V5)(M:Mem)(h:PT5 M x p)(i:p.dead.length<=1000000)(a:Aq p.st)(f:Nat):
  SpecL prog 71 #[pB f] M [(f,cE (Jg x p.gen p.root p.next 0) 127)] λu M' g=>PoP (JU (.ok p)) u M'/\g=[]:=by
 refine sB func71 ntmps71 ?_;intro W
 refine gA λm=>?_
 refine gt ?_
 refine gc (NA p.st _ _ _ _ M h.b h.w h.n h.l a) ?_;rintro _ o d ⟨k,j,rfl⟩
 refine gt ?_
 refine gj (λe=>?_) λe=>?_
 ·refine gr ?_
  have c:¬DF p.st:=λh=>by unfold DF at h;omega
  exact⟨by rw[UQ c];exact⟨by decide,rfl⟩,rfl⟩
 refine gr ?_
 have c:DF p.st:=by unfold DF;omega
 exact⟨by rw[UP c];exact⟨x,rfl,h.mono d⟩,rfl⟩
set_option maxRecDepth 8000
abbrev gob(gb:Nat)(y:V5)(g r1 n e:Int):Nat×Obj:=(gb,cE (Jg y g r1 n e) 127)
def EP(r:Except Int Po)(k:Int):Except Int Po:=match r with
 |.error e=>.error e
 |.ok q=>match E7 q.st k with
  |.error e=>.error e
  |.ok t=>.ok ⟨t,q.gen,q.root,q.next,q.dead⟩
def Jb(r:Except Int Po)(v:Vo):Except Int Po:=match r with
 |.error e=>.error e
 |.ok q=>Dq q v
theorem Pi(r:Except Int Po)(y:V5)(g a n e:Int)(M:Mem)(h:PoQ r M y g a n e)(G:∀q,r=.ok q->q.dead.length<=1000000)(v:Vo)(b:Nat):
  SpecL prog 69 #[pB b,.agg (CU v).toArray] M [gob b y g a n e] λ_ M' j=>∃(c:V5)(m:Int),PoQ (EP r v.root) M' c g a n m/\(e≠0->c=y)/\j=[gob b c g a n m]:=by
 rcases h with⟨l,rfl⟩|⟨rfl,q,rfl,k,rfl,rfl,rfl⟩
 ·exact (wCs y g a n e M v b l).mono λ_ M' j f=>⟨y,e,.inl ⟨l,rfl⟩,λ_=>rfl,f⟩
 refine(YK q y M k (G q rfl) v b).mono λ_ M' j ⟨z,u,s,o,J,F,H,f⟩=>⟨⟨z,u,s,o,y.d⟩,J,?_,λh=>absurd rfl h,f⟩
 rcases F with⟨I,i⟩|⟨rfl,t,i,_,E,D,C,B⟩
 ·exact .inl ⟨I,by unfold EP;dsimp only;rw[i]⟩
 exact .inr ⟨rfl,⟨t,q.gen,q.root,q.next,q.dead⟩,by unfold EP;dsimp only;rw[i],⟨E,D,C,B,k.d.mono H⟩,rfl,rfl,rfl⟩
theorem Qn(r:Except Int Po)(y:V5)(g c n e:Int)(M:Mem)(h:PoQ r M y g c n e)(s:∀q,r=.ok q->q.dead.length<=1000000)(v:Vo)(m:0<=v.id/\v.id<4294967296)(b:Nat):
  SpecL prog 70 #[pB b,.agg (CU v).toArray] M [gob b y g c n e] λ_ M' l=>∃(d:V5)(j a f k:Int),PoQ (Jb r v) M' d j a f k/\l=[gob b d j a f k]:=by
 rcases h with⟨i,rfl⟩|⟨rfl,q,rfl,o,rfl,rfl,rfl⟩
 ·exact (wJt y g c n e M v b i).mono λ_ M' l t=>⟨y,g,c,n,e,.inl ⟨i,rfl⟩,t⟩
 exact wCn q y M o (s q rfl) v m b
theorem Qp(r:Except Int Po)(y:V5)(g b n e:Int)(M:Mem)(h:PoQ r M y g b n e)(c:∀q,r=.ok q->q.dead.length<=1000000/\Aq q.st)(a:Nat):
  SpecL prog 71 #[pB a] M [gob a y g b n e] λu M' f=>PoP (JU r) u M'/\f=[]:=by
 rcases h with⟨d,rfl⟩|⟨rfl,q,rfl,j,rfl,rfl,rfl⟩
 ·exact (wJw y g b n e d a M).mono λu M' f ⟨i,k⟩=>⟨⟨d,i⟩,k⟩
 exact wCx q y M j (c q rfl).1 (c q rfl).2 a
set_option maxRecDepth 8000
instance(priority:=low) Pick.more{p q:Nat×Obj}{R L L1 L2:Lc}[h:Pick [p] L L1][h2:Pick (q::R) L1 L2]:Pick (p::q::R) L L2:=⟨h.perm.trans (List.Perm.cons p h2.perm)⟩
def wMa(P:Program)(f:FuncId)(args:Array Value)(M:Mem)(L:Lc)(post:Mem->Lc->Prop):Prop:=
 ∀w,St ⟨w,L.map (·.1),M⟩ M L w->CallsDIn (FF none) 0 P f args .returning w λe u' w'=>u'=.returning/\∃v M' L',e=.returned v/\post M' L'/\St ⟨w,L.map (·.1),M⟩ M' L' w'
def X1(P:Program)(fn:Func)(E:Ent)(post:Mem->Lc->Prop):Exit->Act->World->Prop:=
 bodyPost P fn λe w'=>∃v M' L',e=.returned v/\post M' L'/\St E M' L' w'
variable{L:Lc}{M:Mem}{P:Program}{c:Code}{f:FuncId}{fn:Func}{post:Mem->Lc->Prop}{vs:List Value}
theorem UB(N:Nat)(F:Fr)
  (j:P.funcs[f]? =some fn) (k:fn.body=some c) (i:fn.ntmps=N) (b:Nat.ble vs.length N=true) (l:Hx 0 vs=F)
  (h:∀W,JC P ⟨N,[],none⟩ c F ⟨W,L.map (·.1),M⟩ M L (X1 P fn ⟨W,L.map (·.1),M⟩ post)):wMa P f vs.toArray M L post:=by
 intro w g
 refine callsDIn_of_wp (F:=FF none) j k trivial (h w _ w ⟨?_,rfl,?_⟩ g) rfl
 ·have:vs.length<=N:=by simpa using b
  simp[i];omega
 intro t v d
 rw[<-l]at d
 obtain⟨_,e⟩:=MN vs 0 t v d
 have a:t<vs.length:=(List.getElem?_eq_some_iff.1 (by simpa using e)).1
 simp only[List.size_toArray]
 rw[Array.getElem?_append_left (by simpa using a)]
 simpa using e
variable{E:Ent}{F:Fr}{N:Fs}
theorem Vn(h:JQ N .ret F E M L (X1 P fn E post)):JQ N .normal F E M L (X1 P fn E post):=h
variable{a:Act}{e:Exit}
theorem wKq{w:World}(h:X1 P fn E post e a w):Bq P fn E (λ_=>post) e a w:=by
 cases e with
 |normal=>obtain⟨b,h⟩:=h;show LeavesInM _ _ _ _ _ _ a.defers _ _;rw[b];exact h
 |ret=>obtain⟨b,h⟩:=h;show LeavesInM _ _ _ _ _ _ a.defers _ _;rw[b];exact h
 |panic c=>obtain⟨b,h⟩:=h;show LeavesInM _ _ _ _ _ _ a.defers _ _;rw[b];exact h
 |outgrown=>exact h
 |exit i=>exact h
 |goto l=>exact h
variable{n:Nat}
theorem Vp(h:JQ ⟨n,[],none⟩ .ret F E M L (Bq P fn E λ_=>post)):JQ ⟨n,[],none⟩ .ret F E M L (X1 P fn E post):=λa w d e=>by
 have b:=h a w d e
 have c:a.defers=[]:=d.defers
 change LeavesInM _ _ _ _ _ _ a.defers _ _ at b
 rw[c]at b
 exact⟨c,b⟩
def SpecB(P:Program)(f:FuncId)(args:Array Value)(M:Mem)(L:Lc)(post:Mem->Lc->Prop):Prop:=wMa P f args M L post/\SpecL P f args M L λ_=>post
variable{args:Array Value}
theorem SpecB.mono{d:Mem->Lc->Prop}(h:SpecB P f args M L post)(hp:∀M' L',post M' L'->d M' L'):SpecB P f args M L d:=
 ⟨λw g=>(h.1 w g).mono λ_ _ _ ⟨e,v,M',L',a,b,c⟩=>⟨e,v,M',L',a,hp _ _ b,c⟩,h.2.mono λ_ M' L'=>hp M' L'⟩
theorem Gt(N:Nat)(F:Fr)
  (e:P.funcs[f]? =some fn) (g:fn.body=some c) (d:fn.ntmps=N) (b:Nat.ble vs.length N=true) (i:Hx 0 vs=F)
  (h:∀W,JC P ⟨N,[],none⟩ c F ⟨W,L.map (·.1),M⟩ M L (X1 P fn ⟨W,L.map (·.1),M⟩ post)):SpecB P f vs.toArray M L post:=
 ⟨UB N F e g d b i h,HM N F e g d b i λW a w l j=>wpIn_mono (h W a w l j) λ_ _ _ k=>wKq k⟩
variable{D:List Deferred}{cap:Array Value}{post1:Mem->Lc->Prop}
theorem BI{R L2:Lc}{post:Value->Mem->Lc->Prop}{b:Array Value}(d:args++cap=b)(g:EN P f=true)
  (hs:SpecB P f b M R post1) [hp:Pick R L L2] (h:∀M' R',MLe M M'->post1 M' R'->JQ ⟨n,D,none⟩ .ret F E M' (R'++L2) (Bq P fn E post)):
  JQ ⟨n,⟨.fn (.func f) cap,args⟩::D,none⟩ .ret F E M L (Bq P fn E post):=λa w j l=>by
 have i:a.defers=⟨.fn (.func f) cap,args⟩::D:=j.defers
 have c:=l.perm hp.perm
 show LeavesInM _ _ _ _ _ _ a.defers _ _
 rw[i]
 refine⟨by simp,.inr ⟨E3 _ _,.func f,cap,f,b,rfl,?_,λ_ _=>trivial,(hs.1 w c.into).mono λe u k m=>?_⟩⟩
 ·subst d;simp[invoke,Gw g]
 obtain⟨rfl,v,M',R',rfl,t,s⟩:=m
 obtain⟨r,o⟩:=c.back s
 exact h M' R' o t { a with defers:=D } k ⟨j.size,rfl,j.get⟩ r
section
variable{P:Program}{ops:Array Oper}{F:Fr}{E:Ent}{M:Mem}{L:Lc}{o:Oper}{Q:Exit->Act->World->Prop}{rest:List Oper}
theorem Ko{n:Nat}{D:List Deferred}{x:Operand}{xs:List Operand}{T:Array TypeId}{f:FuncId}{first b vs:List Value}(j:gd ops F o=some true)(l:o.dst=none)
  (i:o.op=.defer { callee:=.value x,args:=xs.toArray,argTypes:=T }) (d:ev F x=some (.func (.func f) first.toArray b.toArray)) (h:evs F xs=some vs)
  (k:JL P ops ⟨n,⟨.fn (.func f) b.toArray,(first++vs).toArray⟩::D,none⟩ Q rest F E M L):JL P ops ⟨n,D,none⟩ Q (o::rest) F E M L:=λa w c g=>by
 unfold wpListIn
 rw[if_pos (FN c j)]
 refine⟨λ_ _=>trivial,?_⟩
 have m:(o.semAt (FF none).round a.eval).run P w=.ok (.defer ⟨.fn (.func f) b.toArray,(first++vs).toArray⟩) w:=by
  show (o.semAt none a.eval).run P w=_
  rw[Oper.semAt_none]
  have e:=c.evs h
  simp[execOp,i,resolve,c.ev d,Deferred.ofValue,e]
 rw[m,Oper.uponIn_defer,l]
 exact k { a with defers:=⟨.fn (.func f) b.toArray,(first++vs).toArray⟩::a.defers } w ⟨c.size,by show _::a.defers=_;rw[c.defers],c.get⟩ g
end
set_option maxRecDepth 8000
set_option maxHeartbeats 40000000
abbrev Ef:V5:=⟨⟨none,0,0⟩,⟨none,0,0⟩,⟨none,0,0⟩,⟨none,0,0⟩,⟨none,0,0⟩⟩
def PoZ(r:Except Int Po)(M':Mem)(y:V5)(g r1 n e:Int):Prop:=PoQ r M' y g r1 n e/\(e≠0->y=Sh/\g=0/\r1=0/\n=0)
variable{M':Mem}{g:Int}{r:Except Int Po}{y:V5}
theorem PoZ.p{a n e:Int}(h:PoZ r M' y g a n e):PoP r (.tuple #[.agg (AO y g a n).toArray,.int .i64 e]) M':=by
 obtain⟨b,rfl⟩|⟨rfl,q,rfl,c,rfl,rfl,rfl⟩:=h.1
 ·obtain ⟨rfl,rfl,rfl,rfl⟩:=h.2 b;exact⟨b,rfl⟩
 exact⟨y,rfl,c⟩
theorem ZV(y:V5)(g c n e:Int)(f:¬e=0)(a b:Nat)(M:Mem):
  SpecB prog 42 #[pB a,pB b] M [(a,cE (AO y g c n) 36),(b,cE [.int .i64 e] 39)] λ_ d=>d=[(a,cE (AO Sh 0 0 0) 36),(b,cE [.int .i64 e] 39)]:=by
 refine Gt (vs:=[_,_]) 34 _ func42 rfl ntmps42 rfl rfl ?_;intro W
 refine gt ?_
 refine Vn ?_
 refine Vp ?_
 refine JV (rs:=[]) rfl .nil ?_
 rfl
theorem XY(p:Po)(x:V5)(M:Mem)(h:PT5 M x p)(o:p.dead.length<=1000000)(c:Aq p.st)(a j:Nat):
  SpecB prog 42 #[pB a,pB j] M [(a,cE (AO x p.gen p.root p.next) 36),(j,cE [.int .i64 0] 39)] λM' m=>∃(y:V5)(g k n e:Int),PoZ (JU (.ok p)) M' y g k n e/\m=[(a,cE (AO y g k n) 36),(j,cE [.int .i64 e] 39)]:=by
 refine Gt (vs:=[_,_]) 34 _ func42 rfl ntmps42 rfl rfl ?_;intro W
 refine gt ?_
 refine gc (NA p.st _ _ _ _ M h.b h.w h.n h.l c) ?_;rintro _ t f ⟨s,r,rfl⟩
 refine gt ?_
 refine gj (λi=>?_) λi=>?_
 ·refine gt ?_
  refine Vn ?_
  refine Vp ?_
  refine JV (rs:=[]) rfl .nil ?_
  have d:¬DF p.st:=λh=>by unfold DF at h;omega
  exact⟨Sh,0,0,0,9,⟨.inl ⟨by decide,UQ d⟩,λ_=>⟨rfl,rfl,rfl,rfl⟩⟩,rfl⟩
 refine gt ?_
 refine Vn ?_
 refine Vp ?_
 refine JV (rs:=[]) rfl .nil ?_
 have d:DF p.st:=by grind[DF]
 exact⟨x,_,_,_,0,⟨.inr ⟨rfl,p,UP d,h.mono f,rfl,rfl,rfl⟩,λh=>absurd rfl h⟩,rfl⟩
theorem Ci(r:Except Int Po)(y:V5)(g a n e:Int)(M:Mem)(h:PoQ r M y g a n e)(k:∀q,r=.ok q->q.dead.length<=1000000/\Aq q.st)(b c:Nat):
  SpecB prog 42 #[pB b,pB c] M [(b,cE (AO y g a n) 36),(c,cE [.int .i64 e] 39)] λM' f=>∃(y:V5)(g a n e:Int),PoZ (JU r) M' y g a n e/\f=[(b,cE (AO y g a n) 36),(c,cE [.int .i64 e] 39)]:=by
 rcases h with⟨d,rfl⟩|⟨rfl,q,rfl,j,rfl,rfl,rfl⟩
 ·exact (ZV y g a n e d b c M).mono λM' f i=>⟨Sh,0,0,0,e,⟨.inl ⟨d,rfl⟩,λ_=>⟨rfl,rfl,rfl,rfl⟩⟩,i⟩
 grind[XY]
theorem D7(r:Except Int Po)(y:V5)(g a n e:Int)(M:Mem)(h:PoQ r M y g a n e)(i:∀q,r=.ok q->q.dead.length<=1000000/\Aq q.st)(f:Int)(b c d:Nat):
  SpecB prog 41 #[pB b,pB c,pB d] M [(b,cE (AO y g a n) 36),(c,cE [.int .i64 e] 39),(d,cE [.int .u32 f] 33)] λM' l=>∃(y:V5)(g a n e:Int),PoZ (JU r) M' y g a n e/\l=[(b,cE (AO y g a n) 36),(c,cE [.int .i64 e] 39),(d,cE [.int .u32 (if e=0 then f else 0)] 33)]:=by
 refine Gt (vs:=[_,_,_]) 6 _ func41 rfl ntmps41 rfl rfl ?_;intro W
 refine gC (Ci r y g a n e M h i b c).2 ?_;rintro _ B _ j ⟨m,u,s,o,z,t,rfl⟩
 simp only[List.cons_append,List.nil_append]
 refine gj (λk=>?_) λk=>?_
 ·refine gh ?_
  refine Vn ?_
  refine Vp ?_
  refine JV (rs:=[]) rfl .nil ?_
  grind
 refine gh ?_
 refine Vn ?_
 refine Vp ?_
 refine JV (rs:=[]) rfl .nil ?_
 grind
theorem HY(r:Except Int Po)(y:V5)(g a n e:Int)(M:Mem)(h:PoQ r M y g a n e)(i:∀q,r=.ok q->q.dead.length<=1000000/\Aq q.st)(f:Int)(b c d:Nat):
  SpecB prog 116 #[pB b,pB c,pB d] M [(b,cE (AO y g a n) 36),(c,cE [.int .i64 e] 39),(d,cE [.int .i64 f] 3)] λM' l=>∃(y:V5)(g a n e:Int),PoZ (JU r) M' y g a n e/\l=[(b,cE (AO y g a n) 36),(c,cE [.int .i64 e] 39),(d,cE [.int .i64 (if e=0 then f else 0)] 3)]:=by
 refine Gt (vs:=[_,_,_]) 6 _ func116 rfl ntmps116 rfl rfl ?_;intro W
 refine gC (Ci r y g a n e M h i b c).2 ?_;rintro _ B _ j ⟨m,u,s,o,z,t,rfl⟩
 simp only[List.cons_append,List.nil_append]
 refine gj (λk=>?_) λk=>?_
 ·refine gh ?_
  refine Vn ?_
  refine Vp ?_
  refine JV (rs:=[]) rfl .nil ?_
  grind
 refine gh ?_
 refine Vn ?_
 refine Vp ?_
 refine JV (rs:=[]) rfl .nil ?_
 grind
def PoP2(k:IntKind)(r:Except Int (Po×Int))(u:Value)(M':Mem):Prop:=match r with
 |.error e=>e≠0/\u=.tuple #[.agg (AO Sh 0 0 0).toArray,.int k 0,.int .i64 e]
 |.ok (q,i)=>∃y,u=.tuple #[.agg (AO y q.gen q.root q.next).toArray,.int k i,.int .i64 0]/\PT5 M' y q
def Ex(r:Except Int Po)(i:Int):Except Int (Po×Int):=match r with|.error e=>.error e|.ok q=>.ok (q,i)
variable{k:IntKind}
theorem PoZ.p2{b n e i j:Int}(h:PoZ r M' y g b n e)(d:∀q,r=.ok q->i=j):PoP2 k (Ex r j) (.tuple #[.agg (AO y g b n).toArray,.int k (if e=0 then i else 0),.int .i64 e]) M':=by
 obtain⟨a,rfl⟩|⟨rfl,q,rfl,c,rfl,rfl,rfl⟩:=h.1
 ·obtain ⟨rfl,rfl,rfl,rfl⟩:=h.2 a;exact⟨a,by rw[if_neg a]⟩
 exact⟨y,by rw[if_pos rfl,d q rfl],c⟩
theorem Kd{p q:Po}{v:Vo}(h:Dq p v=.ok q):q.dead=p.dead/\Aq q.st:=by
 grind[Dq,Hf]
def SQ(s:Sto):Except Int (Sto×Int):=if Qz s 0 []=0 then .ok (mkS s 0 [],(mkAt s:Int))else .error (Qz s 0 [])
def Y0(p:Po):Except Int (Sto×Int)->Except Int Po
 |.error e=>.error e
 |.ok (t,n)=>Dq ⟨t,p.gen,p.root,p.next+1,p.dead⟩ ⟨p.next,n,false,0⟩
def FB(p:Po):Except Int Po:=match cens p.st p.root p.next p.dead with
 |none=>.error 8
 |some (vs,_,_)=>if 16<=vs.length\/p.next=4294967295 then .error 9 else Y0 p (SQ p.st)
theorem wEb{p:Po}(h:¬Ax p=0):FB p=.error (Ax p):=by
 grind[FB,Ax]
variable{s:Sto}{u:Value}
theorem DmPost.q(h:DmPost s 0 [] u M'):∃(a b c d:Sl)(n e:Int),u=.tuple #[.agg #[a.v,b.v,c.v,d.v],.int .i64 n,.int .i64 e]/\PtQ (SQ s) M' a b c d n e:=by
 obtain⟨f,rfl⟩|⟨f,v,rfl,m,l⟩:=h
 ·exact ⟨⟨none,0,0⟩,⟨none,0,0⟩,⟨none,0,0⟩,⟨none,0,0⟩,0,_,rfl,.inl ⟨f,if_neg f⟩⟩
 obtain⟨a,b,c,d,rfl,k,j,i,g⟩:=m.four
 exact⟨a,b,c,d,_,0,rfl,.inr ⟨rfl,_,if_pos f,l,k,j,i,g⟩⟩
theorem Ev{p q:Po}(h:FB p=.ok q):q.dead=p.dead/\Aq q.st:=by
 unfold FB at h
 split at h
 ·cases h
 split at h
 ·cases h
 unfold Y0 at h
 split at h
 ·cases h
 exact Kd (p:=⟨_,p.gen,p.root,p.next+1,p.dead⟩) h
theorem LW(p:Po)(x:V5)(M:Mem)(h:PT5 M x p)(r:p.dead.length<=1000000)(hn:0<=p.next/\p.next<4294967296):
  SpecL prog 17 #[.agg (AO x p.gen p.root p.next).toArray] M [] λu M' L'=>PoP2 .u32 (Ex (JU (FB p)) p.next) u M'/\L'=[]:=by
 refine sB func17 ntmps17 ?_;intro W
 refine ga4 λb1 i f e=>?_
 refine Ko rfl rfl rfl rfl rfl ?_
 refine gc (Em p x M h r) ?_;rintro _ s z ⟨sv,rfl,K⟩
 refine gj (λo=>?_) λo=>?_
 ·refine gh ?_
  have b:FB p=.error (Ax p):=wEb o
  refine AK (M':=s) (L':=[(e,cE [.int .i64 (Ax p)] 39),(f,cE [.int .u32 0] 33),(i,cE (AO Ef 0 0 0) 36)]) (λw h=>h.fewer (.cons_cons _ (.cons_cons _ (.cons_cons _ (.cons _ .slnil))))) ?_
  refine BI (by simp) (by kernel_rfl) (D7 _ Ef 0 0 0 (Ax p) s (b▸.inl ⟨o,rfl⟩) (λq a=>⟨(Ev a).1▸r,(Ev a).2⟩) 0 i e f) ?_;rintro I _ l ⟨D,G,F,E,H,j,rfl⟩
  simp only[List.cons_append,List.nil_append]
  refine gr ?_
  exact⟨j.p2 λq a=>(by rw[b]at a;cases a),rfl⟩
 refine gg ?_
 obtain⟨vs,refs,nodes,Q⟩:∃vs refs nodes,cens p.st p.root p.next p.dead=some (vs,refs,nodes):=by obtain⟨⟨vs,refs,nodes⟩,Q⟩:=poChk_is.1 (Classical.not_not.1 o);exact⟨vs,refs,nodes,Q⟩
 have aa:=(K vs refs nodes Q).1
 have k:FB p=if 16<=vs.length\/p.next=4294967295 then .error 9 else Y0 p (SQ p.st):=by grind[FB]
 refine gj (λS=>?_) λS=>?_
 ·refine gh ?_
  have b:FB p=.error 9:=k.trans (if_pos (.inl (by omega)))
  refine AK (M':=s) (L':=[(e,cE [.int .i64 9] 39),(f,cE [.int .u32 0] 33),(i,cE (AO Ef 0 0 0) 36)]) (λw h=>h.fewer (.cons_cons _ (.cons_cons _ (.cons_cons _ (.cons _ .slnil))))) ?_
  refine BI (by simp) (by kernel_rfl) (D7 _ Ef 0 0 0 9 s (b▸.inl ⟨by decide,rfl⟩) (λq a=>⟨(Ev a).1▸r,(Ev a).2⟩) 0 i e f) ?_;rintro I _ l ⟨D,G,F,E,H,j,rfl⟩
  simp only[List.cons_append,List.nil_append]
  refine gr ?_
  exact⟨j.p2 λq a=>(by rw[b]at a;cases a),rfl⟩
 refine gj (λC=>?_) λC=>?_
 ·refine gh ?_
  have b:FB p=.error 9:=k.trans (if_pos (.inr C))
  refine AK (M':=s) (L':=[(e,cE [.int .i64 9] 39),(f,cE [.int .u32 0] 33),(i,cE (AO Ef 0 0 0) 36)]) (λw h=>h.fewer (.cons_cons _ (.cons_cons _ (.cons_cons _ (.cons _ .slnil))))) ?_
  refine BI (by simp) (by kernel_rfl) (D7 _ Ef 0 0 0 9 s (b▸.inl ⟨by decide,rfl⟩) (λq a=>⟨(Ev a).1▸r,(Ev a).2⟩) 0 i e f) ?_;rintro I _ l ⟨D,G,F,E,H,j,rfl⟩
  simp only[List.cons_append,List.nil_append]
  refine gr ?_
  exact⟨j.p2 λq a=>(by rw[b]at a;cases a),rfl⟩
 refine ga λb6=>?_
 refine gc (Yg p.st _ _ _ _ s ((h.mono z).st)) ?_;rintro _ J R P
 obtain⟨qa,Z,Y,X,n,T,rfl,a⟩:=P.q
 refine gj (λB=>?_) λB=>?_
 ·refine gh ?_
  obtain⟨h9,c⟩|⟨rfl,_⟩:=a
  rotate_left
  ·omega
  have b:FB p=.error T:=by rw[k,if_neg (by omega),c];rfl
  refine AK (M':=J) (L':=[(e,cE [.int .i64 T] 39),(f,cE [.int .u32 0] 33),(i,cE (AO Ef 0 0 0) 36)]) (λw h=>h.fewer (.cons _ (.cons_cons _ (.cons_cons _ (.cons_cons _ (.cons _ .slnil)))))) ?_
  refine BI (by simp) (by kernel_rfl) (D7 _ Ef 0 0 0 T J (b▸.inl ⟨B,rfl⟩) (λq a=>⟨(Ev a).1▸r,(Ev a).2⟩) 0 i e f) ?_;rintro I _ l ⟨D,G,F,E,H,j,rfl⟩
  simp only[List.cons_append,List.nil_append]
  refine gr ?_
  exact⟨j.p2 λq a=>(by rw[b]at a;cases a),rfl⟩
 refine gh ?_
 obtain⟨h9,_⟩|⟨rfl,t,c,ab,g1,g2,g3,g4⟩:=a
 ·omega
 have O:PT5 J ⟨qa,Z,Y,X,x.d⟩ ⟨t,p.gen,p.root,p.next+1,p.dead⟩:=⟨g1,g2,g3,g4,h.d.mono (z.trans R)⟩
 refine gh ?_
 refine lq (wMo rfl rfl rfl rfl rfl (by rw[IntKind.wrap_u32];omega)) ?_
 refine gc (H4 ⟨t,p.gen,p.root,p.next+1,p.dead⟩ ⟨qa,Z,Y,X,x.d⟩ J O r ⟨p.next,n,false,0⟩ hn) ?_;rintro _ U ac N
 obtain⟨y,g,V,m,e3,rfl,L⟩:=N.q
 refine gh ?_
 refine Hr [4,5,6] [1,2,4,5,6] [0,1,2,3,104,105,106] U (_) ([(b6,cE (CU ⟨p.next,n,false,0⟩) 82)]) ?_
 refine gh ?_
 have b:FB p=Dq ⟨t,p.gen,p.root,p.next+1,p.dead⟩ ⟨p.next,n,false,0⟩:=by rw[k,if_neg (by omega),c];rfl
 refine AK (M':=U) (L':=[(e,cE [.int .i64 e3] 39),(f,cE [.int .u32 p.next] 33),(i,cE (AO y g V m) 36)]) (λw h=>h.fewer (.cons _ (.cons_cons _ (.cons_cons _ (.cons_cons _ (.cons _ .slnil)))))) ?_
 refine BI (by simp) (by kernel_rfl) (D7 _ y g V m e3 U (b▸L) (λq a=>⟨(Ev a).1▸r,(Ev a).2⟩) p.next i e f) ?_;rintro I _ l ⟨D,G,F,E,H,j,rfl⟩
 simp only[List.cons_append,List.nil_append]
 refine gr ?_
 exact⟨j.p2 λq a=>rfl,rfl⟩
set_option maxRecDepth 8000
set_option maxHeartbeats 40000000
theorem TI(bs:List (List By))(ws:List Wt)(c d:Value)(M:Mem)(t:LS M c bs)(e:WS M d ws)(b:dkOk bs ws)(k:Int)(hk:0<=k/\k<256)(a:List By)(f:Value)(o:BS M f a)(m:a.length=128)(h:ws.length=4096):
  SpecL prog 100 #[.agg #[c,d],.int .i64 k,f] M [] λu M' y=>u=.tuple #[wDo,.int .i64 9]/\y=[]:=by
 obtain⟨E,B,g,rfl,r,i,j,s⟩:=id e
 obtain⟨da,z,rfl,n,l⟩:=id o
 refine sB func100 ntmps100 ?_;intro W
 refine EV λD C=>?_
 refine gQ (HE bs ws c _ M t e b k hk) ?_
 refine gu ?_
 exact⟨rfl,rfl⟩
def DwQ(bs:List (List By))(ws:List Wt)(k:Int)(data:List By)(M':Mem)(a b:Sl)(e:Int):Prop:=(e=9/\ws.length=4096/\a=⟨none,0,0⟩/\b=⟨none,0,0⟩)\/(e=0/\ws.length≠4096/\LS M' a.v bs/\WS M' b.v (ws++[(k,data)]))
theorem VT(bs:List (List By))(ws:List Wt)(m i:Value)(M:Mem)(y:LS M m bs)(j:WS M i ws)(f:dkOk bs ws)(k:Int)(hk:0<=k/\k<256)(c:List By)(l:Value)(t:BS M l c)(g:c.length=128):SpecL prog 100 #[.agg #[m,i],.int .i64 k,l] M [] λu M' o=>(∃(a b:Sl)(e:Int),u=.tuple #[.agg #[a.v,b.v],.int .i64 e]/\DwQ bs ws k c M' a b e)/\o=[]:=by
 by_cases n:ws.length=4096
 ·exact (TI bs ws m i M y j f k hk c l t g n).mono λu M' o h=>⟨⟨⟨none,0,0⟩,⟨none,0,0⟩,9,h.1,.inl ⟨rfl,n,rfl,rfl⟩⟩,h.2⟩
 refine(Hy bs ws m i M y j f k hk c l t g (by have:=f.2.1;omega)).mono λu M' o ⟨⟨d,C,D,z,B,s,r⟩,j⟩=>?_
 subst C B
 obtain⟨a,rfl⟩:=s.sl
 obtain⟨b,rfl⟩:=r.sl
 exact⟨⟨a,b,0,rfl,.inr ⟨rfl,n,s,r⟩⟩,j⟩
def Nj(s:Sto)(data:List By):List Nat->Except Int (Sto×Int)
 |[]=>.error 9
 |k::_=>if s.waits.length=4096 then .error 9 else .ok (⟨s.blocks,s.waits++[((k:Int),data)],s.now.set k 1,s.last⟩,(k:Int))
def DU(s:Sto)(data:List By):Except Int (Sto×Int):=if Aq s then Nj s data (frN s 256)else .error 8
def PtY(r:Except Int (Sto×Int))(M':Mem)(a b c d:Sl)(n e:Int):Prop:=PtQ r M' a b c d n e/\(e≠0->a=⟨none,0,0⟩/\b=⟨none,0,0⟩/\c=⟨none,0,0⟩/\d=⟨none,0,0⟩/\n=0)
variable{M':Mem}{a:Sl}{n:Int}{r:Except Int (Sto×Int)}
theorem PtY.p{b c d:Sl}{e:Int}(h:PtY r M' a b c d n e):PtPost r (.tuple #[.agg #[a.v,b.v,c.v,d.v],.int .i64 n,.int .i64 e]) M':=by
 obtain⟨f,rfl⟩|⟨rfl,t,rfl,l,k,j,i,g⟩:=h.1
 ·obtain ⟨rfl,rfl,rfl,rfl,rfl⟩:=h.2 f;exact⟨f,rfl⟩
 exact⟨_,rfl,⟨_,_,_,_,rfl,k,j,i,g⟩,l⟩
variable{k:Nat}{l:List Nat}{s:Sto}
theorem Ro{n:Nat}(h:frN s n=k::l):8<=k/\k<n:=by
 have b:k∈frN s n:=by rw[h];simp
 unfold frN at b
 have c:=List.mem_filter.1 b
 have d:=List.mem_range.1 c.1
 have a:=c.2
 unfold JM at a
 rw[Bool.and_eq_true]at a
 exact⟨of_decide_eq_true a.1,d⟩
variable{data:List By}
theorem Ut(h:Aq s)(hk:8<=k/\k<256)(b:data.length=128)(a:s.waits.length≠4096):Aq ⟨s.blocks,s.waits++[((k:Int),data)],s.now.set k 1,s.last⟩:=by
 obtain⟨⟨g,i,f,e⟩,d,c⟩:=h
 refine⟨⟨g,by rw[List.length_append];show _+1<=_;omega,f,λw a=>?_⟩,Gn hk.1 d,c⟩
 rcases List.mem_append.1 a with a|a
 ·exact e w a
 rw[List.mem_singleton.1 a];exact⟨by show (0:Int)<=k;omega,by show (k:Int)<256;omega,b⟩
theorem Us(s:Sto)(B o nv lw:Value)(M:Mem)(h1:LS M B s.blocks)(h2:WS M o s.waits)(h3:BS M nv s.now)(h4:BS M lw s.last)(a:List By)(dv:Value)(S:BS M dv a)(T:a.length=128):
  SpecL prog 117 #[.agg #[B,o,nv,lw],dv] M [] λu M' L'=>PtPost (DU s a) u M'/\L'=[]:=by
 obtain⟨da,dc,rfl,ax,av⟩:=id S
 obtain⟨nb,K,rfl,al,ak⟩:=id h3
 obtain⟨lb,N,rfl,ao,am⟩:=id h4
 refine sB func117 ntmps117 ?_;intro W
 refine ga λb2=>?_
 refine lh (Bf rfl rfl rfl rfl) ?_;rintro _ _ _ ⟨b3,rfl,rfl,rfl⟩
 refine Rl λb4 b5 b6=>?_
 refine gQ (CD s _ M ⟨B,o,_,_,rfl,h1,h2,h3,h4⟩) ?_
 refine gj (λD=>?_) λD=>?_
 ·refine gr ?_
  have hn:¬Aq s:=λhs=>D (if_pos hs)
  exact⟨by rw[show DU s a=.error 8 from if_neg hn,show Dp s=8 from if_neg hn];exact⟨by decide,rfl⟩,rfl⟩
 refine gg ?_
 have b:Aq s:=Classical.byContradiction λhn=>D (by unfold Dp;rw[if_neg hn];decide)
 obtain⟨aw,⟨ac,_⟩,⟨ad,_⟩⟩:=id b
 refine gt ?_
 refine gC (free_spec B o _ _ M) ?_;rintro _ M1 _ j ⟨fb,rfl,ae,rfl⟩
 simp only[List.nil_append]
 refine gh ?_
 refine D1 (R:=[(b6,cE [.int .i64 0] 39),(b5,cE [.int .i64 0] 3),(b4,cE [.slice none 0 0,.slice none 0 0,.slice none 0 0,.slice none 0 0] 32),(b3,cE [.slice da a.length dc] 30),(b2,cE [B,o,.slice nb s.now.length K,.slice lb s.last.length N] 32)]) (xs:=frN s 256) (enc:=(λy:Nat=>[Value.int .i64 (y:Int)])) (ps:=[24]) rfl (by kernel_rfl) (Qq s B o _ _ M1 (h1.mono j) (h2.mono j) (h3.mono j) (h4.mono j) b fb ae)
  (λpre _ R=>pre=[]/\R=[(b6,cE [.int .i64 0] 39),(b5,cE [.int .i64 0] 3),(b4,cE [.slice none 0 0,.slice none 0 0,.slice none 0 0,.slice none 0 0] 32),(b3,cE [.slice da a.length dc] 30),(b2,cE [B,o,.slice nb s.now.length K,.slice lb s.last.length N] 32)])
  (λc _ M' R=>c=.ret/\∃(qa qb qc qd:Sl)(n e:Int),PtY (DU s a) M' qa qb qc qd n e/\R=[(b6,cE [.int .i64 e] 39),(b5,cE [.int .i64 n] 3),(b4,cE [qa.v,qb.v,qc.v,qd.v] 32)])
  (λ_=>rfl) (by decide) ⟨rfl,rfl⟩ ?_ ?_ ?_
 ·intro l W2 pre y M2 R2 C Z r
  obtain⟨rfl,rfl⟩:=Z
  obtain⟨tl,m⟩:∃tl,frN s 256=y::tl:=by obtain⟨tl,h⟩:=r;exact⟨tl,h.symm⟩
  have ab:=Ro m
  have k:=j.trans C
  have P:DU s a=Nj s a (y::tl):=by unfold DU;rw[if_pos b,m]
  refine gh ?_
  refine jK λW'=>?_
  refine gc (VT s.blocks s.waits B o M2 (h1.mono k) (h2.mono k) b.1 (y:Int) (by omega) a _ (S.mono k) T) ?_;rintro _ M3 X ⟨va,vb,er,rfl,Q⟩
  refine gA λb9=>?_
  obtain⟨J,H,I⟩:=va
  obtain⟨G,E,F⟩:=vb
  refine gj (λaa=>?_) λaa=>?_
  ·refine gh ?_
   refine AK (M':=M3) (L':=[(b6,cE [.int .i64 er] 39),(b5,cE [.int .i64 0] 3),(b4,cE [.slice none 0 0,.slice none 0 0,.slice none 0 0,.slice none 0 0] 32)]) (λw h=>h.fewer (.cons _ (.cons_cons _ (.cons_cons _ (.cons_cons _ (.cons _ (.cons _ .slnil))))))) ?_
   refine jQr ?_
   obtain⟨rfl,hw,_⟩|⟨h0,_⟩:=Q
   rotate_left
   ·exact absurd h0 aa
   exact⟨rfl,⟨none,0,0⟩,⟨none,0,0⟩,⟨none,0,0⟩,⟨none,0,0⟩,0,9,⟨.inl ⟨by decide,by rw[P];exact if_pos hw⟩,λ_=>⟨rfl,rfl,rfl,rfl,rfl⟩⟩,rfl⟩
  refine gC (Bv _ s.now M3 ((h3.mono k).mono X) (by omega)) ?_;rintro _ M4 R4 V t
  obtain⟨cg,z,au,e0,e1,aq,ap,_⟩:=t.open (by omega)
  cases e0;subst e1
  simp only[List.cons_append,List.nil_append]
  refine gh ?_
  refine Dz rfl (CZ rfl rfl rfl rfl rfl rfl t rfl (by omega)) ?_;rintro _ _ _ ⟨rfl,R6,rfl,f⟩
  rw[Nat.mul_one,Nat.zero_add,Int.toNat_natCast]at f
  refine gh ?_
  refine Hr [7,8,9] [6,7,8,9] [0,1,2,3,6,104,5,107,108,109] M4 (_) ([]) ?_
  refine gh ?_
  refine DA rfl rfl rfl (Bu rfl rfl rfl rfl rfl (by kernel_rfl) (Bv _ s.last M4 (((h4.mono k).mono X).mono V) (by omega))) ?_;rintro _ M5 _ ⟨i,R5,rfl,g⟩
  refine⟨_,_,MLe.refl _,i,λ_ h=>h,λ_ hp=>List.mem_append_right _ hp,?_⟩
  obtain⟨O,L,rfl⟩:=g.form
  refine dq rfl (Bk (cs:=[_,_,_,_]) rfl rfl rfl (by rfl)) ?_
  refine Ed rfl rfl (Ae rfl rfl rfl rfl rfl rfl rfl rfl) ?_;rintro _ _ _ ⟨rfl,rfl⟩
  refine⟨i,by simp,?_⟩
  refine G1 rfl rfl (Ae rfl rfl rfl rfl rfl rfl rfl rfl) ?_;rintro _ _ _ ⟨rfl,rfl⟩
  refine⟨i,by simp,?_⟩
  refine G1 rfl rfl (Ae rfl rfl rfl rfl rfl rfl rfl rfl) ?_;rintro _ _ _ ⟨rfl,rfl⟩
  refine⟨i,by simp,?_⟩
  refine gh ?_
  refine MP g (by simp) ?_
  intro Ma a5 c5 af e5 aj ai;cases e5
  refine MP f (by simp) ?_
  intro Mb a6 c6 U e6 ah ag;cases e6
  refine AK (M':=Mb) (L':=[(b6,cE [.int .i64 0] 39),(b5,cE [.int .i64 (y:Int)] 3),(b4,cE [.slice J H I,.slice G E F,.slice (some ⟨cg,0,none⟩) s.now.length z,.slice O s.last.length L] 32)]) (λw h=>h.fewer (.cons _ (.cons_cons _ (.cons_cons _ (.cons_cons _ (.cons _ (.cons _ .slnil))))))) ?_
  refine jQr ?_
  obtain⟨h0,_⟩|⟨_,hw,g1,g2⟩:=Q
  ·omega
  have Y:=V.trans (i.trans (af.trans U))
  refine⟨rfl,⟨J,H,I⟩,⟨G,E,F⟩,⟨some ⟨cg,0,none⟩,s.now.length,z⟩,⟨O,s.last.length,L⟩,(y:Int),0,⟨.inr ⟨rfl,_,by rw[P];exact if_neg hw,Ut b ab T hw,g1.mono Y,g2.mono Y,?_,⟨_,_,rfl,aj,ai.mono U⟩⟩,λh=>absurd rfl h⟩,rfl⟩
  exact⟨_,_,by show Value.slice _ _ _=Value.slice _ (s.now.set y 1).length _;rw[List.length_set],by show (s.now.set y 1).length<=_;rw[List.length_set];exact ah,by show SM Mb _ (Ab (s.now.set y 1));unfold Ab;rw[List.map_set];exact ag⟩
 ·intro d M2 R2 C Z
  obtain⟨m,rfl⟩:=Z
  simp only[List.cons_append,List.nil_append]
  refine gh ?_
  refine Bi (L2:=_) (by first|exact List.Perm.refl _|exact Rm.perm) ?_
  refine gr ?_
  exact⟨by rw[show DU s a=.error 9 by unfold DU;rw[if_pos b,m];rfl];exact⟨by decide,rfl⟩,rfl⟩
 intro d c pre M2 R2 C r Z
 obtain⟨rfl,qa,qb,qc,qd,n,e,hz,rfl⟩:=Z
 simp only[List.cons_append,List.nil_append]
 refine gh ?_
 refine Bi (L2:=_) (by first|exact List.Perm.refl _|exact Rm.perm) ?_
 refine gr ?_
 exact⟨hz.p,rfl⟩
set_option maxRecDepth 8000
set_option maxHeartbeats 40000000
theorem Ur(s:Sto)(v:Value)(M:Mem)(h:ST M v s)(a:List By)(e:Value)(c:BS M e a)(d:a.length=128):SpecL prog 117 #[v,e] M [] λu M' k=>PtPost (DU s a) u M'/\k=[]:=by
 obtain⟨b,w,n,l,rfl,j,i,g,f⟩:=h.ex
 exact Us s b w n l M j i g f a e c d
def L7(d:List By):List By:=d++List.replicate (128-d.length) 0
variable{d:List By}
theorem Ke(h:d.length<=128):(L7 d).length=128:=by unfold L7;rw[List.length_append,List.length_replicate];omega
theorem U3(h:d.length<=128):(List.replicate (128:Int).toNat [Value.int .u8 0]).flatten.take 0++Ab d++(List.replicate (128:Int).toNat [Value.int .u8 0]).flatten.drop (0+(Ab d).length)=Ab (L7 d):=by
 have a:(List.replicate (128:Int).toNat [Value.int .u8 0]).flatten=List.replicate 128 (Value.int .u8 0):=by simp
 rw[a,List.take_zero,List.nil_append,Nat.zero_add,Af,List.drop_replicate]
 unfold L7 Ab
 rw[List.map_append,List.map_replicate];rfl
def wMt(p:Po):Except Int (Sto×Int)->Except Int (Po×Int)
 |.error e=>.error e
 |.ok (t,k)=>.ok (⟨t,p.gen,p.root,p.next,p.dead⟩,k)
def ET(p:Po)(d:List By):Except Int (Po×Int):=if Ax p=0 then (if 128<d.length then .error 3 else wMt p (DU p.st (L7 d)))else .error (Ax p)
def VL:Except Int (Po×Int)->Except Int Po
 |.error e=>.error e
 |.ok (q,_)=>.ok q
def Ho(p:Po)(d:List By):Except Int (Po×Int):=match ET p d with
 |.error e=>.error e
 |.ok (q,k)=>Ex (JU (.ok q)) k
variable{e:Int}
theorem NZ{p:Po}(h:ET p d=.error e)(k:Int):Ho p d=Ex (JU (VL (ET p d))) k:=by unfold Ho;rw[h];rfl
variable{k:Int}
theorem wJc{p q:Po}(h:ET p d=.ok (q,k)):Ho p d=Ex (JU (VL (ET p d))) k:=by unfold Ho;rw[h];rfl
variable{s:Sto}
theorem wGc{t:Sto}(h:DU s d=.ok (t,k))(e:d.length=128):Aq t:=by
 unfold DU at h
 split at h
 ·rename_i c
  cases b:frN s 256 with
  |nil=>rw[b]at h;cases h
  |cons j l=>
   rw[b]at h
   by_cases a:s.waits.length=4096
   ·rw [show Nj s d (j::l)=.error 9 from if_pos a]at h;cases h
   rw[show Nj s d (j::l)=.ok (⟨s.blocks,s.waits++[((j:Int),d)],s.now.set j 1,s.last⟩,(j:Int))from if_neg a]at h;cases h;exact Ut c (Ro b) e a
 cases h
theorem FL{p q:Po}(h:VL (ET p d)=.ok q):q.dead=p.dead/\Aq q.st:=by
 unfold ET at h
 split at h
 ·split at h
  ·cases h
  rename_i b
  cases a:DU p.st (L7 d)with
  |error e=>rw[a]at h;cases h
  |ok x=>obtain⟨t,k⟩:=x;rw[a]at h;cases h;exact⟨rfl,wGc a (Ke (by omega))⟩
 cases h
theorem wBm(p:Po)(x:V5)(M:Mem)(h:PT5 M x p)(D:p.dead.length<=1000000)(a:List By)(dv:Value)(aa:BS M dv a):
  SpecL prog 63 #[.agg (AO x p.gen p.root p.next).toArray,dv] M [] λu M' L'=>PoP2 .i64 (Ho p a) u M'/\L'=[]:=by
 obtain⟨da,dc,rfl,F,z⟩:=id aa
 refine sB func63 ntmps63 ?_;intro W
 refine ga4 λb2 s m r=>?_
 refine Ko rfl rfl rfl rfl rfl ?_
 refine gc (Fn p _ M h.pt D) ?_;rintro _ R C rfl
 refine gj (λg=>?_) λg=>?_
 ·refine gh ?_
  have b:ET p a=.error (Ax p):=if_neg g
  refine AK (M':=R) (L':=[(r,cE [.int .i64 (Ax p)] 39),(m,cE [.int .i64 0] 3),(s,cE (AO Ef 0 0 0) 36)]) (λw h=>h.fewer (.cons_cons _ (.cons_cons _ (.cons_cons _ (.cons _ .slnil))))) ?_
  refine BI (by simp) (by kernel_rfl) (HY (VL (ET p a)) Ef 0 0 0 (Ax p) R (b▸.inl ⟨g,rfl⟩) (λq c=>⟨(FL c).1▸D,(FL c).2⟩) 0 s r m) ?_;rintro M9 _ B ⟨S,g9,X,V,e9,y,rfl⟩
  simp only[List.cons_append,List.nil_append]
  refine gr ?_
  exact⟨by rw[NZ b 0];exact y.p2 λq c=>rfl,rfl⟩
 refine gj (λaf=>?_) λaf=>?_
 ·refine gh ?_
  have b:ET p a=.error 3:=(if_pos (Classical.not_not.1 g)).trans (if_pos (by omega))
  refine AK (M':=R) (L':=[(r,cE [.int .i64 3] 39),(m,cE [.int .i64 0] 3),(s,cE (AO Ef 0 0 0) 36)]) (λw h=>h.fewer (.cons_cons _ (.cons_cons _ (.cons_cons _ (.cons _ .slnil))))) ?_
  refine BI (by simp) (by kernel_rfl) (HY (VL (ET p a)) Ef 0 0 0 3 R (b▸.inl ⟨by decide,rfl⟩) (λq c=>⟨(FL c).1▸D,(FL c).2⟩) 0 s r m) ?_;rintro M9 _ B ⟨S,g9,X,V,e9,y,rfl⟩
  simp only[List.cons_append,List.nil_append]
  refine gr ?_
  exact⟨by rw[NZ b 0];exact y.p2 λq c=>rfl,rfl⟩
 refine gh ?_
 refine lh (EJ rfl rfl rfl rfl (by omega) (by rfl)) ?_;rintro _ _ _ ⟨H,rfl,rfl,rfl⟩
 refine gh ?_
 have f:a.length<=128:=by omega
 refine gh ?_
 refine lh (wCi (cs:=Ab a) rfl rfl rfl rfl (by rw[Af];omega) ((z.mono C).sj _) (by intro v hv;obtain⟨x,_,rfl⟩:=List.mem_map.1 hv;rfl) (by rw[Af];simp;omega)) ?_;rintro _ _ _ ⟨rfl,rfl,rfl⟩
 refine Am (jT (Ao ?_))
 rw[U3 f]
 refine B1 H (by simp) ?_
 intro I G ah
 have ab:BS I (.slice (some ⟨H,0,none⟩) 128 128) (L7 a):=⟨_,128,by rw[Ke f],by rw[Ke f];omega,SM.of_block ah⟩
 refine gc (Ur p.st _ I ((h.mono (C.trans G)).st) (L7 a) _ ab (Ke f)) ?_;rintro _ Q ad Y
 have ae:=C.trans (G.trans ad)
 obtain⟨N,L,K,J,n,er,rfl,c⟩:=Y.q
 refine gA λb9=>?_
 refine gj (λj=>?_) λj=>?_
 ·refine gh ?_
  obtain⟨h9,i⟩|⟨rfl,_⟩:=c
  rotate_left
  ·exact absurd rfl j
  have b:ET p a=.error er:=by unfold ET;rw[if_pos (Classical.not_not.1 g),if_neg (by omega),i];rfl
  refine AK (M':=Q) (L':=[(r,cE [.int .i64 er] 39),(m,cE [.int .i64 0] 3),(s,cE (AO Ef 0 0 0) 36)]) (λw h=>h.fewer (.cons _ (.cons_cons _ (.cons_cons _ (.cons_cons _ (.cons _ .slnil)))))) ?_
  refine BI (by simp) (by kernel_rfl) (HY (VL (ET p a)) Ef 0 0 0 er Q (b▸.inl ⟨j,rfl⟩) (λq c=>⟨(FL c).1▸D,(FL c).2⟩) 0 s r m) ?_;rintro M9 _ B ⟨S,g9,X,V,e9,y,rfl⟩
  simp only[List.cons_append,List.nil_append]
  refine gr ?_
  exact⟨by rw[NZ b 0];exact y.p2 λq c=>rfl,rfl⟩
 refine gh ?_
 obtain⟨h9,_⟩|⟨rfl,t,i,aj,g1,g2,g3,g4⟩:=c
 ·exact absurd (Classical.not_not.1 j) h9
 refine Hr [5,7] [5,6,7] [0,1,2,4,103,105,6,107] Q ([(b9,cE [N.v,L.v,K.v,J.v] 32),(b2,cE (AO x p.gen p.root p.next) 36)]) ([]) ?_
 refine gh ?_
 obtain⟨U,T,ag,ai,E⟩:=h.d
 refine dh rfl (Bu rfl rfl rfl rfl rfl (by kernel_rfl) (by rw[ag];exact De U _ T (Al p.dead) Q (E.mono ae) (Ay _) (DB _) D)) ?_;rintro _ M4 _ ⟨e,R4,rfl,o⟩
 refine⟨e,by simp,?_⟩
 obtain⟨l,k,rfl⟩:=o.form
 refine Ed rfl rfl (Ae rfl rfl rfl rfl rfl rfl rfl rfl) ?_;rintro _ _ _ ⟨rfl,rfl⟩
 refine⟨(by first|exact e|exact MLe.refl _),by simp,?_⟩
 refine Hq rfl rfl rfl (Ak rfl rfl rfl rfl rfl) ?_
 refine G1 rfl rfl (Ae rfl rfl rfl rfl rfl rfl rfl rfl) ?_;rintro _ _ _ ⟨rfl,rfl⟩
 refine⟨(by first|exact e|exact MLe.refl _),by simp,?_⟩
 refine gh ?_
 refine JF o (by simp) ?_
 intro P al ak ac ed F z;cases ed
 have O:=e.trans ac
 have Z:PT5 P ⟨N,L,K,J,⟨l,p.dead.length,k⟩⟩ ⟨t,p.gen,p.root,p.next,p.dead⟩:=⟨g1.mono O,g2.mono O,g3.mono O,g4.mono O,⟨l,k,rfl,F,z⟩⟩
 refine Hr [2,3,4] [1,2,3,4] [0,1,102,103,104] P (_) ([(m,cE [.int .i64 n] 3)]) ?_
 refine dq rfl (Gz rfl rfl rfl rfl rfl) ?_
 refine Vr rfl rfl rfl (AE rfl rfl rfl rfl (CJ.loc rfl)) ?_
 refine Ed rfl rfl (Ae rfl rfl rfl rfl rfl rfl rfl rfl) ?_;rintro _ _ _ ⟨rfl,rfl⟩
 refine⟨(by first|exact e|exact MLe.refl _),by simp,?_⟩
 refine G1 rfl rfl (Ae rfl rfl rfl rfl rfl rfl rfl rfl) ?_;rintro _ _ _ ⟨rfl,rfl⟩
 refine⟨(by first|exact e|exact MLe.refl _),by simp,?_⟩
 refine G1 rfl rfl (Ae rfl rfl rfl rfl rfl rfl rfl rfl) ?_;rintro _ _ _ ⟨rfl,rfl⟩
 refine⟨(by first|exact e|exact MLe.refl _),by simp,?_⟩
 refine gh ?_
 have b:ET p a=.ok (⟨t,p.gen,p.root,p.next,p.dead⟩,n):=by unfold ET;rw[if_pos (Classical.not_not.1 g),if_neg (by omega),i];rfl
 refine AK (M':=P) (L':=[(r,cE [.int .i64 0] 39),(m,cE [.int .i64 n] 3),(s,cE (AO ⟨N,L,K,J,⟨l,p.dead.length,k⟩⟩ p.gen p.root p.next) 36)]) (λw h=>h.fewer (.cons _ (.cons_cons _ (.cons_cons _ (.cons_cons _ (.cons _ .slnil)))))) ?_
 refine BI (by simp) (by kernel_rfl) (HY (VL (ET p a)) ⟨N,L,K,J,⟨l,p.dead.length,k⟩⟩ p.gen p.root p.next 0 P (b▸.inr ⟨rfl,_,rfl,Z,rfl,rfl,rfl⟩) (λq c=>⟨(FL c).1▸D,(FL c).2⟩) n s r m) ?_;rintro M9 _ B ⟨S,g9,X,V,e9,y,rfl⟩
 simp only[List.cons_append,List.nil_append]
 refine gr ?_
 exact⟨by rw[wJc b];exact y.p2 λq c=>rfl,rfl⟩
end Go.Proofs.YtdahhoicackcaaaGreat
