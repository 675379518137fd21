/- Lemmas. -/
import Derived.Test.YtjheijhahehnmaaGreatDoorXDelf
namespace Go.Proofs.YtjheijhahehnmaaGreatDoor
open List (length_take getElem_mem filter_append mem_of_mem_drop length_drop mem_of_mem_take not_mem_nil)
set_option linter.unusedSimpArgs false
set_option linter.unusedVariables false
set_option linter.unusedSectionVars false
set_option maxRecDepth 8000
open Go.RowKit
def wLh(held:Int):List Int:=if held=0 then []else [held]
variable{lv:Int}{s:Sto}{xs:List It}
theorem wWg(c:Au s)(h:Cx lv xs=true)(hk:∀x∈xs,Bh x.key)(d:∀x∈xs,x.ref≠0->¬s.now.getD x.ref.toNat 0=0)(u:Ku s lv xs=0):ExtB s (Ew s lv xs):=by
 obtain⟨z,o,w,i,g⟩:=wJu c h hk d u;generalize C:BD (Ai s xs)=a at *;have B:s.now.length=256:=c.2.1.1;have f:Ag s a=none:=by unfold Ag;rw[iP o]
 refine⟨λn r j=>?_,λk b=>?_⟩
 ·rw [i n,iN (λe=>by rw[e,f]at j;cases j)];exact j
 have l:k≠a:=λe=>by rw[e]at b;exact b o
 by_cases m:k=0
 ·subst m;have y:=c.2.1.2;have:=List.all_eq_true.1 y (s.now.getD 0 0) (by
   rw[show s.now.getD 0 0=(s.now.take 8)[0]'(by rw[length_take];omega)by rw[List.getElem_take,D4 (by omega)]];exact getElem_mem _)
  exact aD (by simpa using this) b
 have:=g k (by omega) l;have:(s.now.getD k 0).toNat≠0:=λe=>b (UInt8.toNat.inj e);exact FP (by omega)
variable{held:Int}
theorem PE{t:Sto}{l:List It}(d:Au t)(c:Cx lv l=true)(hk:∀x∈l,Bh x.key)(b:∀x∈l,x.ref≠0->¬t.now.getD x.ref.toNat 0=0)(P:held=0\/(8<=held/\held<256/\∃x∈l,x.ref=held)):
  (∃e,Da t lv l held=.error e/\(e=9\/e=70))\/∃u a,Da t lv l held=.ok (u,a)/\Au u/\ExtB t u/\Ag u a.toNat=some (lv,l)/\(8<=a/\a<256)/\u.waits.length=t.waits.length+1/\
   ∀S R,En t S (wLh held++R)->(0<lv->∀x∈l,x.ref.toNat∈S/\∃zs,Ag t x.ref.toNat=some (lv-1,zs))->(lv=0->∀x∈l,x.ref≠0->x.ref.toNat∉S)->∃S',En u S' (a::R)/\a.toNat∈S'/\Sub t S S'/\Apa t S S':=by
 unfold Da;rcases ZB d c b with e|e
 ·rw [iP e];have f:=wWg d c hk b e;obtain⟨V,O,Q,I,w⟩:=wJu d c hk b e;have o:=GW e d.1.2.1;have i:=HN d c o.2.2.1 o.2.2.2;have m:Ag (Ew t lv l) (BD (Ai t l))=some (lv,l):=by rw[I,iP rfl]
  rcases P with rfl|⟨T,y,x,B,g⟩
  ·rw [iN (by omega)];refine .inr ⟨_,_,rfl,i,f,by rw[tN];exact m,by omega,XH _ _ _,λS R C h j=>?_⟩;obtain⟨S',F,z,E,_,_,_,D⟩:=En.make (R:=R) C j c hk h b e;exact⟨S',F,by rw[tN];exact z,E,D⟩
  have W:(Ew t lv l).now.length=256:=i.2.1.1;have H:held.toNat≠BD (Ai t l):=λL=>by
   have:=b x B (by omega);rw[g,L]at this;exact this O
  have U:2<=((Ew t lv l).now.getD held.toNat 0).toNat:=by
   rw[w held.toNat (by omega) H];have Y:0<(l.map (·.ref)).count ((held.toNat:Nat):Int):=List.count_pos_iff.2 (List.mem_map.2 ⟨x,B,by omega⟩);have X:(t.now.getD held.toNat 0).toNat≠0:=λL=>b x B (by omega) (by rw[g];exact UInt8.toNat.inj L);omega
  obtain⟨n,M⟩:=FU (s:=Ew t lv l) (k:=held.toNat) (by omega) U;have J:Cg (Ew t lv l) held.toNat=0:=iN (FP (by omega));rw[iP (by omega),iP J];refine .inr ⟨_,_,rfl,CU i (by omega),f.trans n,by rw[tN];exact n.nd _ _ m,by omega,by show (Ew t lv l).waits.length=_;exact XH _ _ _,λS R C h j=>?_⟩;have K:wLh held++R=held::R:=by unfold wLh;rw[iN (by omega)];rfl
  rw[K]at C;obtain⟨S',F,z,E,_,_,_,D⟩:=En.make (R:=held::R) C j c hk h b e;have G:=Ke z m B;rw[g]at G;obtain⟨_,_,N⟩:=En.loose (k:=held) (F.perm (List.Perm.swap _ _ _)) ⟨T,y⟩ (.inl (by omega));exact⟨S',N,by rw[tN];exact z,E,D⟩
 rw[iN (by rcases e with e|e<;>rw[e]<;>decide)];exact .inl ⟨_,rfl,e⟩
def Ec(q:Ky)(x:It):Bool:=decide (x.key≠q)
theorem E4{q:Ky}{l:List It}(h:∀y∈l,y.key≠q):l.filter (Ec q)=l:=List.filter_eq_self.2 λy a=>dT (h y a)
variable{a:Ky}
theorem Lq{b:Ky}(h:Ap a b=true):a≠b:=λe=>by rw[e,XP]at h;cases h
variable{P:List It}
theorem Yu{M Q:List It}{q:Ky}(h:Srt (P++M++Q))(d:∃y∈M,y.key=q):(P++M++Q).filter (Ec q)=P++M.filter (Ec q)++Q:=by
 obtain⟨y,b,e⟩:=d;have c:=List.pairwise_append.1 h;have f:=List.pairwise_append.1 c.1;rw[filter_append,filter_append,E4 (l:=P) λz a=>Lq (by have:=f.2.2 z a y b;rwa[e]at this),E4 (l:=Q) λz a=>(Lq (by have:=c.2.2 y (List.mem_append_right _ b) z a;rwa[e]at this)).symm]
variable{l:Nat}
theorem wAf{q:Ky}(c:Shp s l xs)(b:Srt (Ax s l xs))(j:BJ xs q<xs.length):
  Ax s l xs=Ax s l (xs.take (BJ xs q))++Ba s l xs[BJ xs q]++Ax s l (xs.drop (BJ xs q+1))/\(∀y∈Ax s l (xs.take (BJ xs q)),Ap y.key q=true)/\∀y∈Ax s l (xs.drop (BJ xs q+1)),Ap q y.key=true:=by
 have m:=Jl c b;have e:=ED j;have w:Ax s l xs=Ax s l (xs.take (BJ xs q))++Ba s l xs[BJ xs q]++Ax s l (xs.drop (BJ xs q+1)):=by
  conv=>lhs;rw[e]
  rw[A3,A3,Dg]
 refine⟨w,?_⟩;rw[w]at b;have u:=List.pairwise_append.1 b;have D:=List.pairwise_append.1 u.1;refine⟨λy d=>?_,λy d=>?_⟩
 ·have E:0<BJ xs q:=Nat.pos_of_ne_zero λG=>by rw[G]at d;simp[Ax]at d
  obtain⟨a,C,F⟩:=Lg (c.one (x:=xs[BJ xs q]) (getElem_mem j));have o:=D.2.2 y d a C;rw[F]at o;exact Qh o (wGc m j E)
 obtain⟨z,g,h⟩:=List.mem_flatMap.1 d;have f:z∈xs:=mem_of_mem_drop g;have i:Srt (Ba s l z):=by
  obtain⟨A,B,k⟩:=List.append_of_mem g;have n:=u.2.1;rw[k,A3,Dq]at n;exact(List.pairwise_append.1 (List.pairwise_append.1 n).2.1).1
 exact Qh (wGd m z g) (wJd (c.one f) i y h)
theorem wRy{q:Ky}(hs:Srt xs)(i:∃y∈xs,y.key=q):∃c:place xs q<xs.length,xs[place xs q].key=q:=by
 obtain⟨y,b,a⟩:=i;obtain⟨l,k⟩:=Dd (q:=q) hs;rw[<-List.take_append_drop (place xs q) xs]at b;rcases mA b with b|b
 ·exact aD a (Lq (l y b))
 obtain⟨j,g,f,rfl⟩:=FT b;have c:place xs q<xs.length:=by omega
 refine⟨c,?_⟩;rcases Nat.lt_or_ge (place xs q) j with h|h
 ·have e:=PC hs c g h;rw[a]at e;have d:=k _ (Pl c (lR));rw[e]at d;cases d
 have:j=place xs q:=by omega
 subst this;exact a
theorem wKe{q:Ky}(hs:Srt xs)(i:∃y∈xs,y.key=q):GF ⟨0,xs,place xs q⟩=xs.filter (Ec q)/\(xs.filter (Ec q)).length+1=xs.length:=by
 obtain⟨c,d⟩:=wRy hs i;obtain⟨k,n⟩:=Dd (q:=q) hs;have m:(xs.take (place xs q)).filter (Ec q)=xs.take (place xs q):=E4 λy b=>Lq (k y b);have l:(xs.drop (place xs q+1)).filter (Ec q)=xs.drop (place xs q+1):=E4 λy b=>by
  obtain⟨j,g,f,rfl⟩:=FT b;have:=PC hs c g (by omega);rw[d]at this;exact(Lq this).symm
 have e:xs.filter (Ec q)=xs.take (place xs q)++xs.drop (place xs q+1):=by
  have a:[xs[place xs q]].filter (Ec q)=[]:=by
   rw[List.filter_cons_of_neg (by unfold Ec;rw[dF (λh=>h d)];decide)];rfl
  conv=>lhs;rw[ED c]
  rw[filter_append,filter_append,m,l,a,List.append_nil]
 refine⟨e.symm,?_⟩;rw[e,List.length_append,length_take,length_drop];omega
variable{y:It}{ys:List It}
theorem wWk{t:Sto}(a:ExtB s t)(h:Ag s y.ref.toNat=some ((l:Int),ys)):kid t y=ys/\kid s y=ys:=by
 unfold kid;rw[h,a.nd _ _ h];exact⟨rfl,rfl⟩
def Nb(s:Sto)(l:Nat)(xs A:List It):Prop:=A=[]\/∃y∈xs,Ag s y.ref.toNat=some ((l:Int),A)/\Shp s l A
structure Joins(s t:Sto)(l:Nat)(xs:List It)(p:Nat)(hp:p<xs.length)(l1:List It)(lv:Int)(A B X Z:List It):Prop where
 eq:(AH t ⟨lv,xs,p⟩ l1).1=A++l1++B
 set:∀a,Ry ⟨lv,xs,p⟩ (AH t ⟨lv,xs,p⟩ l1) a=X++[⟨Bw (A++l1++B),a,[]⟩]++Z
 subX:∀y∈X,y∈xs
 subZ:∀y∈Z,y∈xs
 all:Ax s (l+1) xs=Ax s (l+1) X++(Ax s l A++Ba s (l+1) xs[p]++Ax s l B)++Ax s (l+1) Z
 nbA:Nb s l xs A
 nbB:Nb s l xs B
 len:l1.length<=5->(A++l1++B).length<=5
 many:X.length+1+Z.length<=xs.length
variable{l1:List It}{w:Stp}
theorem So{t:Sto}(h:AH t w l1=(l1,w.at_,1)){p:Nat}(c:p<xs.length)(d:w=⟨lv,xs,p⟩):Joins s t l xs p c l1 lv [] [] (xs.take p) (xs.drop (p+1)):=by
 subst d;refine⟨by rw[h];simp,λa=>by unfold Ry;rw[h];simp,λy b=>mem_of_mem_take b,λy b=>mem_of_mem_drop b,?_,.inl rfl,.inl rfl,λh=>by simpa using h,?_⟩
 ·have e:=ED c;conv=>lhs;rw[e]
  rw[A3,A3,Dg];simp[Ax]
 rw[length_take,length_drop];omega
theorem XT{t:Sto}{p:Nat}(k:p<xs.length)(g:List It)(lv:Int)(j:Shp s (l+1) xs)(C:ExtB s t):∃A B X Z,Joins s t l xs p k g lv A B X Z:=by
 cases c:nxt ⟨lv,xs,p⟩with
 |none=>exact⟨_,_,_,_,So (by unfold AH;rw[c]) k rfl⟩
 |some i=>
  have z:i<xs.length/\(i=p+1\/i+1=p):=by
   unfold nxt at c
   simp only at c
   split at c
   ·split at c
    ·cases c
    cases c;omega
   cases c;omega
  obtain⟨b,o⟩:=z
  have m:xs[i]? =some xs[i]:=List.getElem?_eq_getElem b
  obtain⟨ys,n,E,D,u⟩:=j _ (getElem_mem b)
  obtain⟨w,_⟩:=wWk C n
  have f:AH t ⟨lv,xs,p⟩ g=if 5<ys.length+g.length then (g,p,1)else if i<p then (ys++g,i,2)else (g++ys,p,2):=by
   unfold AH;rw[c];simp only[m,w]
  by_cases d:5<ys.length+g.length
  ·exact ⟨_,_,_,_,So (by rw[f,iP d]) k rfl⟩
  rw[iN d]at f
  rcases o with rfl|rfl
  ·rw [iN (by omega)]at f
   refine⟨[],ys,xs.take p,xs.drop (p+2),by rw[f];simp,λa=>by unfold Ry;rw[f];simp,λy h=>mem_of_mem_take h,λy h=>mem_of_mem_drop h,?_,.inl rfl,.inr ⟨_,getElem_mem b,n,u⟩,λ_=>by simp;omega,?_⟩
   ·have e:xs=xs.take p++[xs[p]]++([xs[p+1]]++xs.drop (p+2)):=by
     conv=>lhs;rw[ED k]
     rw[List.drop_eq_getElem_cons b];rfl
    conv=>lhs;rw[e]
    rw[A3,A3,A3,Dg,Dg,Bf n]
    simp[Ax]
   rw[length_take,length_drop];omega
  rw[iP (by omega)]at f
  refine⟨ys,[],xs.take i,xs.drop (i+2),by rw[f];simp,λa=>by unfold Ry;rw[f];simp,λy h=>mem_of_mem_take h,λy h=>mem_of_mem_drop h,?_,.inr ⟨_,getElem_mem b,n,u⟩,.inl rfl,λ_=>by simp;omega,?_⟩
  ·have e:xs=xs.take i++[xs[i]]++([xs[i+1]]++xs.drop (i+2)):=by
    conv=>lhs;rw[ED b]
    rw[List.drop_eq_getElem_cons k];rfl
   conv=>lhs;rw[e]
   rw[A3,A3,A3,Dg,Dg,Bf n]
   simp[Ax]
  rw[length_take,length_drop];omega
variable{ws:List Stp}
theorem XM(h:ws≠[]):FV (w::ws)=FV ws:=by
 obtain⟨a,b,rfl⟩:=List.exists_cons_of_ne_nil h;unfold FV;rw[List.getLast?_cons_cons]
theorem WM(s:Sto)(q:Ky):∀(l:Nat)(xs:List It),AB s q l xs≠[]
 |0,_=>by rw[AB];exact λh=>by cases h
 |l+1,_=>by rw[AB];exact λh=>by cases h
structure ItL(l:Nat)(ys:List It):Prop where
 bad:∀y∈ys,Bv y=false
 key:∀y∈ys,Bh y.key
 up:0<l->∀y∈ys,y.ref≠0/\y.val=[]
theorem ItL.app(h:ItL l xs)(k:ItL l ys):ItL l (xs++ys):=
 ⟨λy a=>(mA a).elim (h.bad y) (k.bad y),λy a=>(mA a).elim (h.key y) (k.key y),λb y a=>(mA a).elim (h.up b y) (k.up b y)⟩
theorem ItL.sub(h:ItL l xs)(hs:∀y∈ys,y∈xs):ItL l ys:=⟨λy a=>h.bad y (hs y a),λy a=>h.key y (hs y a),λb y a=>h.up b y (hs y a)⟩
variable{k:Nat}
theorem ItL.of(h:Ag s k=some ((l:Int),xs)):ItL l xs:=by
 have b:=Fq h;exact⟨λy a=>(b y a).1,λy a=>(b y a).2.1,λc y a=>(b y a).2.2 (by omega)⟩
theorem ItL.nil:ItL l []:=⟨λ_ h=>(not_mem_nil h).elim,λ_ h=>(not_mem_nil h).elim,λ_ _ h=>(not_mem_nil h).elim⟩
variable{A:List It}
theorem wJr(h:Nb s l xs A):ItL l A:=by
 rcases h with rfl|⟨y,_,h,_⟩
 ·exact ItL.nil
 exact ItL.of h
theorem wJp(h:Nb s l xs A):Shp s l A:=by
 rcases h with rfl|⟨y,_,_,h⟩
 ·cases l<;>exact λx a=>by cases a
 exact h
variable{R:List Int}{S:List Nat}
theorem wUf(h:Nb s l xs A)(d:En s S R)(hk:k∈S)(b:Ag s k=some (((l+1:Nat):Int),xs))(f:0<l):∀x∈A,x.ref.toNat∈S/\∃zs,Ag s x.ref.toNat=some ((l:Int)-1,zs):=λx c=>by
 rcases h with rfl|⟨y,e,h,_⟩
 ·cases c
 obtain⟨a,_⟩:=d.closed k hk _ _ b (by omega) y e
 exact d.closed _ a _ _ h (by omega) x c
theorem wJq(h:Nb s 0 xs A)(d:En s S R)(hk:k∈S)(c:Ag s k=some (((0+1:Nat):Int),xs)):∀x∈A,x.ref≠0->x.ref.toNat∉S/\¬s.now.getD x.ref.toNat 0=0:=λx b e=>by
 rcases h with rfl|⟨y,f,h,g⟩
 ·cases b
 obtain⟨a,_⟩:=d.closed k hk _ _ c (by omega) y f
 exact⟨d.disj _ a _ h x b e,(g x b).resolve_left e⟩
theorem wMf{t:Sto}(f:l<6)(b:l≠0->ys≠[])(a:ys.length<=5)(d:ItL l ys)(hs:Srt ys):Cx (l:Int) ys=true:=by
 unfold Cx;rw[Bool.and_eq_true];refine⟨decide_eq_true ⟨by omega,by omega,a,λh e=>b (by omega) (List.eq_nil_of_length_eq_zero e)⟩,Qs (λx c=>⟨d.bad x c,λe=>d.up (by have:=oT e;omega) x c⟩) hs (λq e=>by cases e)⟩
theorem UG{t:Sto}(h:Shp t l ys):∀x∈ys,x.ref≠0->¬t.now.getD x.ref.toNat 0=0:=λx a b=>by
 cases l with
 |zero=>exact(h x a).resolve_left b
 |succ l=>obtain⟨ys,c,_⟩:=h x a;exact B4 c
structure DnOk(s t:Sto)(q:Ky)(l:Nat)(xs:List It)(k:Nat)(l1:List It)(held:Int):Prop where
 ok:Au t
 ext:ExtB s t
 shp:Shp t l l1
 all:Ax t l l1=(Ax s l xs).filter (Ec q)
 len:l1.length<=xs.length
 itl:ItL l l1
 hel:held=0\/(8<=held/\held<256/\∃x∈l1,x.ref=held)
 waits:t.waits.length<=s.waits.length+l
 en:∀S R,En s S R->k∈S->∃S',En t S' (wLh held++R)/\Sub s S S'/\(0<l->∀x∈l1,x.ref.toNat∈S')/\(l=0->∀x∈l1,x.ref≠0->x.ref.toNat∉S')/\Apa s S S'
theorem wMm{q:Ky}(aa:Au s):∀(l:Nat)(xs:List It)(k:Nat),Ag s k=some ((l:Int),xs)->Shp s l xs->Srt (Ax s l xs)->(∃y∈Ax s l xs,y.key=q)->
  (∃e,dn s (FV (AB s q l xs)) (AB s q l xs).dropLast=.error e/\(e=9\/e=70))\/∃t l1 held,dn s (FV (AB s q l xs)) (AB s q l xs).dropLast=.ok (t,l1,held)/\DnOk s t q l xs k l1 held
 |0,xs,k,d,j,i,hf=>by
  rw[Ci]at i hf;obtain⟨h1,f⟩:=wKe i hf;have m:∀y∈xs.filter (Ec q),y∈xs:=λy g=>(List.mem_filter.1 g).1;refine .inr ⟨s,xs.filter (Ec q),0,?_,aa,ExtB.refl s,j.sub m,by rw[Ci,Ci],by omega,(ItL.of d).sub m,.inl rfl,lR,λS R D G=>⟨S,D,λn hn _=>hn,(λh=>by omega),λ_ x c W=>D.disj k G xs d x (m x c) W,Apa.refl s S⟩⟩;show dn s (GF ⟨0,xs,place xs q⟩) []=_;rw[h1];rfl
 |l+1,xs,k,d,j,i,hf=>by
  have ac:=Ar d;have ak:=FR d (by omega);have Y:=Hw (q:=q) ak;obtain⟨ys,w,av,au,ah⟩:=j _ (getElem_mem Y);have ae:kid s xs[BJ xs q]=ys:=by unfold kid;rw[w]
  have M:AB s q (l+1) xs=⟨((l+1:Nat):Int),xs,BJ xs q⟩::AB s q l ys:=by
   rw[AB,List.getElem?_eq_getElem Y];show _::AB s q l (kid s xs[BJ xs q])=_;rw[ae]
  obtain⟨w1,w2,w3⟩:=wAf j i Y;have N:∃y∈Ax s l ys,y.key=q:=by
   obtain⟨y,g,P⟩:=hf;rw[w1]at g;rcases mA g with g|g
   ·rcases mA g with g|g
    ·exact aD P (Lq (w2 y g))
    exact⟨y,by rw[<-Bf w];exact g,P⟩
   exact aD P.symm (Lq (w3 y g))
  have ai:Srt (Ax s l ys):=by
   rw[w1]at i;have:=(List.pairwise_append.1 (List.pairwise_append.1 i).1).2.1;rwa[Bf w]at this
  have ag:(Ax s (l+1) xs).filter (Ec q)=Ax s (l+1) (xs.take (BJ xs q))++(Ax s l ys).filter (Ec q)++Ax s (l+1) (xs.drop (BJ xs q+1)):=by
   rw[w1,filter_append,filter_append,E4 λy g=>Lq (w2 y g),E4 λy g=>(Lq (w3 y g)).symm,Bf w]
  have ap:(AB s q (l+1) xs).dropLast=⟨((l+1:Nat):Int),xs,BJ xs q⟩::(AB s q l ys).dropLast:=by
   rw[M,List.dropLast_cons_of_ne_nil (WM s q l ys)]
  rw[ap,M,XM (WM s q l ys)];rcases wMm aa l ys _ w ah ai N with⟨e,h1,f⟩|⟨t,l1,held,h1,f⟩
  ·exact .inl ⟨e,by rw[dn,h1],f⟩
  have ao:dn s (FV (AB s q l ys)) (⟨((l+1:Nat):Int),xs,BJ xs q⟩::(AB s q l ys).dropLast)=wPt t ⟨((l+1:Nat):Int),xs,BJ xs q⟩ l1 held:=by rw[dn,h1]
  rw[ao];unfold wPt;have aw:=ac.len;by_cases U:l1=[]
  ·subst U;rw[iP rfl];have W:held=0:=f.hel.resolve_right λ⟨_,_,x,c,_⟩=>by cases c
   subst W;have m:∀y∈GF ⟨((l+1:Nat):Int),xs,BJ xs q⟩,y∈xs:=λy g=>by
    unfold GF at g;exact(mA g).elim mem_of_mem_take mem_of_mem_drop
   obtain⟨e1,e2⟩:=f.ext.shp (j.sub m);have ad:(Ax s l ys).filter (Ec q)=[]:=by rw[<-f.all];rfl
   refine .inr ⟨t,_,0,rfl,f.ok,f.ext,e1,?_,?_,(ItL.of d).sub m,.inl rfl,by have:=f.waits;omega,λS R D G=>?_⟩
   ·rw [e2,ag,ad,List.append_nil];unfold GF;rw[A3]
   ·unfold GF;show (xs.take _++xs.drop _).length<=_;rw[List.length_append,length_take,length_drop];omega
   obtain⟨V,_⟩:=D.closed k G _ _ d (by omega) _ (getElem_mem Y);obtain⟨S',k1,O,k3,k4,k5⟩:=f.en S R D V;refine⟨S',k1,O,λ_ x c=>?_,λe=>aD e (by omega),k5⟩;obtain⟨a,zs,b⟩:=D.closed k G _ _ d (by omega) x (m x c);exact O _ a (by rw[b];simp)
  rw[iN U];obtain⟨A,B,X,Z,o⟩:=XT (t:=t) Y l1 ((l+1:Nat):Int) j f.ext;rw[o.eq];obtain⟨a1,a2⟩:=f.ext.shp (wJp o.nbA);obtain⟨b1,b2⟩:=f.ext.shp (wJp o.nbB);have C:Shp t l (A++l1++B):=(a1.app f.shp).app b1;have I:Ax t l (A++l1++B)=Ax s l A++(Ax s l ys).filter (Ec q)++Ax s l B:=by rw[A3,A3,a2,b2,f.all]
  have T:Srt (Ax t l (A++l1++B)):=by
   rw[I];have h5:=i;rw[o.all,Bf w]at h5;have h6:=(List.pairwise_append.1 (List.pairwise_append.1 h5).1).2.1;exact List.Pairwise.sublist (((List.Sublist.refl _).append List.filter_sublist).append (List.Sublist.refl _)) h6
  have H:ItL l (A++l1++B):=((wJr o.nbA).app f.itl).app (wJr o.nbB);have aq:ys.length<=5:=(Ar w).len;have F:A++l1++B≠[]:=λe=>U (List.append_eq_nil_iff.1 (List.append_eq_nil_iff.1 e).1).2;have aj:=wMf (t:=t) (l:=l) (by have:=ac.lev;omega) (λ_=>F) (o.len (by have:=f.len;omega)) H (Jl C T);have al:((l+1:Nat):Int)-1=(l:Int):=by omega
  dsimp only;rw[al];rcases PE (held:=held) f.ok aj H.key (UG C) (f.hel.imp id λ⟨J,E,x,c,c3⟩=>⟨J,E,x,by simp[c],c3⟩)with⟨e,m1,m2⟩|⟨u,a,m1,m2,m3,m4,m5,m6,m7⟩
  ·exact .inl ⟨e,by rw[m1],m2⟩
  rw[m1];dsimp only;rw[o.set];have Q:=f.ext.trans m3;obtain⟨x1,x2⟩:=Q.shp (j.sub o.subX);obtain⟨z1,z2⟩:=Q.shp (j.sub o.subZ);obtain⟨j1,j2⟩:=m3.shp C;have ab:Shp u (l+1) [⟨Bw (A++l1++B),a,[]⟩]:=λx c=>by
   rw[mS c];exact⟨_,m4,F,rfl,j1⟩
  have af:Bh (Bw (A++l1++B)):=by
   obtain⟨z,zs,e⟩:=List.exists_cons_of_ne_nil F;rw[e];exact H.key z (by rw[e];simp)
  have L:ItL (l+1) [⟨Bw (A++l1++B),a,[]⟩]:=⟨λy g=>by rw[mS g];exact WQ ⟨rfl,m5⟩,λy g=>by rw[mS g];exact af,λ_ y g=>by rw[mS g];exact⟨by show a≠0;omega,rfl⟩⟩;refine .inr ⟨u,_,a,rfl,m2,Q,(x1.app ab).app z1,?_,?_,(((ItL.of d).sub o.subX).app L).app ((ItL.of d).sub o.subZ),.inr ⟨m5.1,m5.2,⟨Bw (A++l1++B),a,[]⟩,by simp,rfl⟩,by have:=f.waits;omega,λS R D G=>?_⟩
  ·rw [A3,A3,x2,z2,Dg,Bf (x:=⟨Bw (A++l1++B),a,[]⟩) m4,j2,I];have e3:(Ax s (l+1) xs).filter (Ec q)=Ax s (l+1) X++(Ax s l A++(Ax s l ys).filter (Ec q)++Ax s l B)++Ax s (l+1) Z:=by
    have h5:=i;rw[o.all,Bf w]at h5⊢;have e:Ax s (l+1) X++(Ax s l A++Ax s l ys++Ax s l B)++Ax s (l+1) Z=(Ax s (l+1) X++Ax s l A)++Ax s l ys++(Ax s l B++Ax s (l+1) Z):=by simp only[List.append_assoc]
    rw[e]at h5⊢;rw[Yu h5 N];simp only[List.append_assoc]
   rw[e3]
  ·have:=o.many;simp only[List.length_append,List.length_singleton];omega
  obtain⟨V,_⟩:=D.closed k G _ _ d (by omega) _ (getElem_mem Y);obtain⟨S1,k1,O,k3,k4,k5⟩:=f.en S R D V;have am:(l:Int)=0->∀x∈A++l1++B,x.ref≠0->x.ref.toNat∉S1:=λK x c W=>by
   obtain rfl:l=0:=by omega
   rcases mA c with c|c
   ·rcases mA c with c|c
    ·obtain ⟨J,E⟩:=wJq o.nbA D G d x c W;exact k5 _ E J
    exact k4 rfl x c W
   obtain⟨J,E⟩:=wJq o.nbB D G d x c W;exact k5 _ E J
  obtain⟨S2,n1,n2,n3,n4⟩:=(λh=>m7 S1 R k1 h am) λhl x c=>by
   have K:0<l:=by omega
   rcases mA c with c|c
   ·rcases mA c with c|c
    ·obtain ⟨J,zs,E⟩:=wUf o.nbA D G d K x c;exact⟨O _ J (by rw[E];simp),zs,f.ext.nd _ _ E⟩
    obtain⟨l0,rfl⟩:∃l0,l=l0+1:=⟨l-1,by omega⟩;obtain⟨zs,e1,_⟩:=f.shp x c;exact⟨k3 K x c,zs,by rw[e1];congr 2;omega⟩
   obtain⟨J,zs,E⟩:=wUf o.nbB D G d K x c;exact⟨O _ J (by rw[E];simp),zs,f.ext.nd _ _ E⟩
  have hh:wLh a++R=a::R:=by unfold wLh;rw[iN (by omega)];rfl
  refine⟨S2,by rw[hh];exact n1,O.trans f.ext n3,λ_ x c=>?_,λe=>aD e (by omega),k5.trans f.ext n4⟩;have hold:∀y∈xs,y.ref.toNat∈S2:=λy g=>by
   obtain⟨J,zs,E⟩:=D.closed k G _ _ d (by omega) y g;exact n3 _ (O _ J (by rw[E];simp)) (by rw[f.ext.nd _ _ E];simp)
  rcases mA c with c|c
  ·rcases mA c with c|c
   ·exact hold x (o.subX x c)
   rw[mS c];exact n2
  exact hold x (o.subZ x c)
def Lev(s:Sto):Nat->List It->Prop
 |0,_=>True
 |l+1,xs=>∀x∈xs,∃ys,Ag s x.ref.toNat=some ((l:Int),ys)/\Lev s l ys
variable{s:Sto}
theorem wKd:∀{l:Nat}{xs:List It},Shp s l xs->Lev s l xs
 |0,_,_=>trivial
 |l+1,xs,h=>λx a=>by obtain⟨ys,c,_,_,b⟩:=h x a;exact⟨ys,c,wKd b⟩
variable{lv:Int}{zs:List It}
theorem ZF{t:Sto}{r:Nat}(b:Ag s r=some (lv,zs))(h:∀n,n≠r->Ag t n=Ag s n):∀{l:Nat}{xs:List It},(l:Int)<=lv->Lev s l xs->Lev t l xs
 |0,_,_,_=>trivial
 |l+1,xs,g,d=>λx c=>by
  obtain⟨ys,a,f⟩:=d x c;refine⟨ys,?_,ZF b h (by omega) f⟩;rw[h _ (λe=>by rw[e,b]at a;cases a;omega)];exact a
variable{k:Nat}
theorem wFi{n:Nat}(h:n≠k):Ag (AS s k) n=Ag s n:=by
 have a:seen (AS s k) n=seen s n:=rfl;unfold Ag;rw[a];show (if (s.now.set k 0).getD n 0=0 then none else _)=_;rw[AJ h]
theorem wPy{xs:List By}(hk:k<xs.length):(xs.getD k 0).toNat<=Dy xs:=by
 have:=KS (v:=0) hk;have a:(0:By).toNat=0:=rfl;omega
variable{l:Nat}{ys:List It}
theorem wDk{t:Sto}{r:Int}{x:It}(j:Au t)(S:8<=r/\r<256)(U:8<=x.ref/\x.ref<256)(m:Ag t r.toNat=some (((l+1:Nat):Int),[x]))(o:Ag t x.ref.toNat=some ((l:Int),ys))(J:Bj t x.ref.toNat=0):
  ∃u,leave (A7 t x.ref.toNat) r=some u/\Au u/\(∀n,n≠r.toNat->Ag u n=Ag t n)/\u.waits=t.waits:=by
 have T:t.now.length=256:=j.2.1.1;obtain⟨Q,y⟩:=Jn J;obtain⟨R,d⟩:=FK (s:=t) (k:=x.ref.toNat) (by omega) J;have N:=GO (s:=t) (k:=x.ref.toNat) (by omega) y;have E:x.ref.toNat≠r.toNat:=λe=>by rw[e,m]at o;cases o
 have c:=Jm (s:=t) (k:=x.ref.toNat) j (by omega);have L:(t.now.getD x.ref.toNat 0).toNat≠0:=λe=>Q (UInt8.toNat.inj e);have w:=N x.ref.toNat;rw[iP rfl]at w;have C:(A7 t x.ref.toNat).now.length=256:=c.2.1.1;have H:=wPy (xs:=(A7 t x.ref.toNat).now) (k:=x.ref.toNat) (by omega);have g:Ag (A7 t x.ref.toNat) r.toNat=some (((l+1:Nat):Int),[x]):=by rw[d];exact m
 have h:=B4 g;obtain⟨f,O⟩:∃f,Dy (A7 t x.ref.toNat).now=f+2:=⟨Dy (A7 t x.ref.toNat).now-2,by omega⟩;unfold leave;rw[O];have G:(A7 t x.ref.toNat).waits=t.waits:=rfl;generalize A7 t x.ref.toNat=b at *;by_cases z:b.now.getD r.toNat 0=1
 ·have D:¬(b.now.getD r.toNat 0=0\/((0:Int)<= -1/\((l+1:Nat):Int)≠ -1)):=by
   rintro (e|⟨a,_⟩)
   ·rw [z]at e;cases e
   omega
  rw[Ex h z g,iN D,iP (by omega)];show ∃u,L5 b.now (f+1) (AS b r.toNat) ((x.ref,((l+1:Nat):Int)-1)::[])=some u/\_;have i:(AS b r.toNat).now.getD x.ref.toNat 0=b.now.getD x.ref.toNat 0:=by
   show (b.now.set r.toNat 0).getD _ 0=_;exact AJ E
  have P:(AS b r.toNat).now.length=256:=by show (b.now.set _ _).length=_;rw[List.length_set];exact C
  obtain⟨K,B⟩:=FU (s:=AS b r.toNat) (k:=x.ref.toNat) (by omega) (by rw[i];omega);rw[Pa (by rw[i];exact FP (by omega)) (by rw[i];intro e;rw[e]at w;have:(1:By).toNat=1:=rfl;omega)];refine⟨_,by rw[show L5 b.now f (AM (AS b r.toNat) x.ref.toNat) []=some (AM (AS b r.toNat) x.ref.toNat)by cases f<;>rfl],CU (E7 c (by omega)) (by omega),λn F=>?_,?_⟩
  ·rw [B,wFi F,d]
  exact G
 rw[Pa h z];have I:(b.now.getD r.toNat 0).toNat≠0:=λe=>h (UInt8.toNat.inj e);have M:(b.now.getD r.toNat 0).toNat≠1:=λe=>z (UInt8.toNat.inj (by rw[e];rfl));obtain⟨K,B⟩:=FU (s:=b) (k:=r.toNat) (by omega) (by omega);refine⟨_,by rw[show L5 b.now (f+1) (AM b r.toNat) []=some (AM b r.toNat)from rfl],CU c (by omega),λn _=>by rw[B,d],?_⟩;exact G
def Kp(s:Sto)(S:List Nat)(t:Sto)(S':List Nat)(R:List Int):Prop:=∀r∈R,8<=r/\r<256->r.toNat∈S->∀(l:Nat) xs,Ag s r.toNat=some ((l:Int),xs)->Shp s l xs->r.toNat∈S'/\Ag t r.toNat=some ((l:Int),xs)/\Shp t l xs/\Ax t l xs=Ax s l xs
theorem Kp.refl(s:Sto)(S:List Nat)(R:List Int):Kp s S s S R:=λr _ _ a l xs c b=>⟨a,c,b,rfl⟩
variable{R:List Int}{S S':List Nat}
theorem Kp.trans{t u:Sto}{e:List Nat}(h:Kp s S t S' R)(k:Kp t S' u e R):Kp s S u e R:=λr f g i l xs m j=>by
 obtain⟨a,b,c,d⟩:=h r f g i l xs m j
 obtain⟨y,w,o,n⟩:=k r f g a l xs b c
 exact⟨y,w,o,n.trans d⟩
theorem Kp.ext{t:Sto}(h:ExtB s t)(hs:Sub s S S'):Kp s S t S' R:=λr f g b l xs a c=>by
 obtain⟨e,d⟩:=h.shp c
 exact⟨hs _ b (by rw[a];simp),h.nd _ _ a,e,d⟩
theorem Kp.thin{t:Sto}(h:Thin s t)(f:En t S R):Kp s S t S R:=λr e g d l xs j i=>by
 obtain⟨a,b,c⟩:=h.tree f e g d j i
 exact⟨d,a,b,c⟩
theorem Kp.sub{t:Sto}{R':List Int}(h:Kp s S t S' R)(hs:∀r∈R',r∈R):Kp s S t S' R':=λr a=>h r (hs r a)
theorem ZD:∀(n:Nat){t:Sto}{r:Int}{l:Nat}{xs:List It},En t S (r::R)->r.toNat∈S->(8<=r/\r<256)->Ag t r.toNat=some ((l:Int),xs)->Shp t l xs->l<n->
  Ed n t r=.error 70\/∃u c e b,Ed n t r=.ok (u,c)/\En u S (c::R)/\c.toNat∈S/\(8<=c/\c<256)/\Ag u c.toNat=some (((e:Nat):Int),b)/\Shp u e b/\Ax u e b=Ax t l xs/\e<=l/\u.waits=t.waits/\Kp t S u S R
 |0,t,r,l,xs,_,_,_,_,_,hl=>by omega
 |n+1,t,r,l,xs,B,J,w,a,d,hl=>by
  have f:Ed (n+1) t r=.ok (t,r)->Ed (n+1) t r=.error 70\/∃u c e b,Ed (n+1) t r=.ok (u,c)/\En u S (c::R)/\c.toNat∈S/\(8<=c/\c<256)/\Ag u c.toNat=some (((e:Nat):Int),b)/\Shp u e b/\Ax u e b=Ax t l xs/\e<=l/\u.waits=t.waits/\Kp t S u S R:=
   λh=>.inr ⟨t,r,l,xs,h,B,J,w,a,d,rfl,lR,rfl,Kp.refl _ _ _⟩
  cases l with
  |zero=>exact f (by rw[Ed,a];exact iP rfl)
  |succ l=>
   match xs,a,d with
   |[],a,_=>exact f (by rw[Ed,a];exact iN (by omega))
   |y::z::zs,a,_=>exact f (by rw[Ed,a];exact iN (by omega))
   |[x],a,d=>
    obtain⟨ys,K,h2,h3,h4⟩:=d x (by simp)
    have g:=Ar a
    have I:8<=x.ref/\x.ref<256:=by have:=g.ref x (by simp);have:=g.up (by omega) x (by simp);omega
    have j:Ed (n+1) t r=if Bj t x.ref.toNat=0 then (match leave (A7 t x.ref.toNat) r with
     |none=>.error 8
     |some u=>Ed n u x.ref)else .error (Bj t x.ref.toNat):=by rw[Ed,a];exact iN (by omega)
    rw[j]
    rcases KZ (B4 K)with⟨L,_⟩|o
    ·rw [iP L]
     have aa:t.now.length=256:=B.ok.2.1.1
     obtain⟨F,i⟩:=FK (s:=t) (k:=x.ref.toNat) (by omega) L
     have G:=B.share I L
     obtain⟨u,k1,E,D⟩:=GX (G.perm (List.Perm.swap _ _ _)) w J (by rw[i];exact a)
     rw[k1]
     obtain⟨m,_⟩:=B.closed _ J _ _ a (by omega) x (by simp)
     obtain⟨N,M⟩:=F.shp h4
     obtain⟨m1,Z,Y⟩:=D.tree E (r:=x.ref) (by simp) I m (F.nd _ _ K) N
     have H:Kp t S u S R:=(Kp.ext F λn hn _=>hn).trans ((Kp.thin D E).sub λr w=>by simp[w])
     rcases ZD n E m I m1 Z (by omega)with h|⟨v,c,e,b,X,W,V,U,T,Q,P,n8,O,C⟩
     ·exact .inl h
     refine .inr ⟨v,c,e,b,X,W,V,U,T,Q,?_,by omega,?_,H.trans C⟩
     ·rw [P,Y,M,Dg,Bf K]
     rw[O,D.waits];rfl
    rw[iN (by rw[o];decide),o];exact .inl rfl
structure DelOk(s t:Sto)(root now:Int)(q:Ky)(R:List Int)(S S':List Nat):Prop where
 en:En t S' (now::R)
 inS:now.toNat∈S'
 rng:8<=now/\now<256
 chk:(AN t now).2=0
 high:(AN t now).1<=(AN s root).1
 all:AT t now=(AT s root).filter (Ec q)
 other:∀r∈R,r.toNat∈S->(AN s r).2=0->AN t r=AN s r/\AT t r=AT s r/\r.toNat∈S'
 waits:(t.waits.length:Int)<=s.waits.length+(AN s root).1
 apa:Apa s S S'
theorem Kp.tree{t:Sto}(h:Kp s S t S' R)(i:Au t){r:Int}(m:r∈R)(n:r.toNat∈S)(k:(AN s r).2=0):AN t r=AN s r/\AT t r=AT s r/\r.toNat∈S':=by
 obtain⟨_,l,e,_,lev,xs,g,j,o⟩:=CR k;obtain⟨a,b,c,d⟩:=h r m ⟨l,e⟩ n lev xs g (Kj j);have f:Srt (Ax t lev xs):=by rw[d];exact Fd j
 obtain⟨w,u⟩:=LN i ⟨l,e⟩ b (KR c f);refine⟨?_,?_,a⟩
 ·rw [w,<-o];exact Prod.ext rfl k.symm
 rw[u,d];unfold AT;rw[g];rfl
variable{lev:Nat}{xs:List It}{y:It}
theorem Z2{root:Int}{q:Ky}(c:(AN s root).2=0)(a:NG s root q=some y)(b:Ag s root.toNat=some ((lev:Int),xs)):LR s root q=LQ s root (AB s q lev xs):=by
 unfold NG at a;rw[b]at a;change BP s q lev xs=some y at a;unfold LR;rw[iP c,b];show (match BP s q ((lev:Int)).toNat xs with|none=>_|some _=>LQ s root (AB s q ((lev:Int)).toNat xs))=_;rw[tN,a]
theorem TR{root:Int}{q:Ky}(c:(AN s root).2=0)(a:NG s root q=none):LR s root q=.error 6:=by
 obtain⟨_,_,_,_,lev,xs,b,_,_⟩:=CR c;unfold NG at a;rw[b]at a;unfold LR;rw[iP c,b];change BP s q lev xs=none at a;show (match BP s q ((lev:Int)).toNat xs with|none=>_|some _=>_)=_;rw[tN,a]
theorem wMq{root:Int}{q:Ky}(a:¬(AN s root).2=0):LR s root q=.error (AN s root).2:=by unfold LR;rw[iN a]
structure TopOk(s u:Sto)(q:Ky)(lev:Nat)(xs:List It)(k:Nat)(a:Int)(L:Nat)(l1:List It):Prop where
 ok:Au u
 ext:ExtB s u
 nd:Ag u a.toNat=some ((L:Int),l1)
 rng:8<=a/\a<256
 shp:Shp u L l1
 le:L<=lev
 all:Ax u L l1=(Ax s lev xs).filter (Ec q)
 waits:u.waits.length<=s.waits.length+lev+1
 en:∀S R,En s S R->k∈S->∃S',En u S' (a::R)/\a.toNat∈S'/\Sub s S S'/\Apa s S S'
theorem Y6{q:Ky}(o:Au s)(i:Ag s k=some ((lev:Int),xs))(j:Shp s lev xs)(f:Srt (Ax s lev xs))(hf:∃y∈Ax s lev xs,y.key=q):
  (∃e,TQ (((AB s q lev xs).length:Int)-1) (dn s (FV (AB s q lev xs)) (AB s q lev xs).dropLast)=.error e/\(e=9\/e=70))\/∃u a L l1,TQ (((AB s q lev xs).length:Int)-1) (dn s (FV (AB s q lev xs)) (AB s q lev xs).dropLast)=.ok (u,a)/\TopOk s u q lev xs k a L l1:=by
 have aa:=(Ar i).lev;have ab:=(Ar i).len;rcases wMm (q:=q) o lev xs k i j f hf with⟨e,E,b⟩|⟨t,l1,held,E,b⟩
 ·exact .inl ⟨e,by rw[E];rfl,b⟩
 rw[E,EY];obtain⟨L,hL,D,c⟩:∃L:Nat,(if l1=[]then (0:Int)else ((lev+1:Nat):Int)-1)=(L:Int)/\(L≠0->l1≠[])/\(L=lev\/(L=0/\l1=[])):=by
  by_cases h:l1=[]
  ·exact ⟨0,iP h,λI=>aD rfl I,.inr ⟨rfl,h⟩⟩
  exact⟨lev,by rw[iN h];omega,λ_=>h,.inl rfl⟩
 have g:Shp t L l1/\Ax t L l1=Ax t lev l1/\ItL L l1:=by
  rcases c with rfl|⟨rfl,rfl⟩
  ·exact ⟨b.shp,rfl,b.itl⟩
  exact⟨λx d=>(not_mem_nil d).elim,rfl,ItL.nil⟩
 obtain⟨F,K,J⟩:=g;have w:Srt (Ax t L l1):=by rw[K,b.all];exact f.filter _
 have z:=wMf (t:=t) (l:=L) (by rcases c with rfl|⟨rfl,_⟩<;>omega) D (by have:=b.len;omega) J (Jl F w);show (∃e,Da t (if l1=[]then 0 else ((lev+1:Nat):Int)-1) l1 held=.error e/\_)\/∃u a L l2,Da t (if l1=[]then 0 else ((lev+1:Nat):Int)-1) l1 held=.ok (u,a)/\_;rw[hL];rcases PE (held:=held) b.ok z J.key (UG F) b.hel with⟨e,n,m⟩|⟨u,a,n,m,G,X,W,m6,V⟩
 ·exact .inl ⟨e,n,m⟩
 obtain⟨O,N⟩:=G.shp F;refine .inr ⟨u,a,L,l1,n,m,b.ext.trans G,X,W,O,by rcases c with rfl|⟨rfl,_⟩<;>omega,by rw[N,K,b.all],by have:=b.waits;omega,λS R he hk=>?_⟩;obtain⟨M,k1,k2,k3,Z,Y⟩:=b.en S R he hk;have B:(L:Int)=0->∀x∈l1,x.ref≠0->x.ref.toNat∉M:=λI x d=>by
  rcases c with rfl|⟨rfl,rfl⟩
  ·exact Z (by omega) x d
  cases d
 obtain⟨S2,U,T,Q,P⟩:=(λh=>V M R k1 h B) λhl x d=>by
  rcases c with rfl|⟨rfl,rfl⟩
  ·have C:0<L:=by omega
   obtain⟨H,rfl⟩:∃H,L=H+1:=⟨L-1,by omega⟩;obtain⟨zs,e1,_⟩:=b.shp x d;exact⟨k3 C x d,zs,by rw[e1];congr 2;omega⟩
  cases d
 exact⟨S2,U,T,k2.trans b.ext Q,Y.trans b.ext P⟩
theorem Z1{root:Int}{q:Ky}(N:(AN s root).2=0)(B:NG s root q=some y)(he:En s S (root::R))(T:root.toNat∈S):
  (∃e,LR s root q=.error e/\(e=9\/e=70))\/∃t l S',LR s root q=.ok (t,l)/\DelOk s t root l q R S S':=by
 obtain⟨J,U,i,_,lev,j,b,n,V⟩:=CR N;have f:=Kj n;have d:=Fd n;obtain⟨m,I⟩:=V7 N B;have C:AT s root=Ax s lev j:=by unfold AT;rw[b];rfl
 rw[C]at m;rw[Z2 N B b];unfold LQ;have aa:=(Ar b).lev;rcases Y6 (q:=q) J b f d ⟨y,m,I⟩with⟨e,H,c⟩|⟨u,a,L,l1,H,c⟩
 ·exact .inl ⟨e,by rw[H];rfl,c⟩
 rw[H];obtain⟨S1,n1,n2,n3,n4⟩:=c.en S (root::R) he T;show (∃e,KJ root (Ed 7 u a)=.error e/\_)\/_;rcases ZD 7 n1 n2 c.rng c.nd c.shp (by have:=c.le;omega)with h|⟨v,O,Q,D,m1,m2,P,F,m5,m6,m7,m8,m9,G⟩
 ·exact .inl ⟨70,by rw[h];rfl,.inr rfl⟩
 have z:=(Kp.ext (R:=root::R) c.ext n3).trans G;obtain⟨Y,X,r3,r4⟩:=z root (by simp) ⟨U,i⟩ T lev j b f;obtain⟨w,o1,k,E⟩:=GX (m2.perm (List.Perm.swap _ _ _)) ⟨U,i⟩ Y X;obtain⟨p1,p2,Z⟩:=E.tree k (r:=O) (by simp) F P m5 m6;have g:Ax w Q D=(Ax s lev j).filter (Ec q):=by rw[Z,m7,c.all]
 obtain⟨W,f2⟩:=LN k.ok F p1 (KR p2 (by rw[g];exact d.filter _));refine .inr ⟨w,O,S1,?_,k,P,F,by rw[W],by rw[W,V];have:=c.le;show (Q:Int)+1<=_;omega,by rw[f2,g,C],λr o M K=>?_,?_,n4⟩
 ·show KJ root (Ed 7 u a)=_;rw[m1];show (match leave v root with|none=>_|some u=>_)=_;rw[o1]
 ·exact ((z.sub (R':=R) λr o=>by simp[o]).trans ((Kp.thin E k).sub λr o=>by simp[o])).tree k.ok o M K
 rw[E.waits,m9,V];have:=c.waits;omega
end Go.Proofs.YtjheijhahehnmaaGreatDoor
