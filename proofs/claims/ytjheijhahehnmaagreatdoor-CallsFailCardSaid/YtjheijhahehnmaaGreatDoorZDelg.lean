/- An item taken out, without a program in sight: what becomes of the trees. No statement of the seat is proved here. -/
import Derived.Test.YtjheijhahehnmaaGreatDoorZDelf
namespace Go.Proofs.YtjheijhahehnmaaGreatDoor
open List (length_take getElem_mem filter_append mem_of_mem_drop length_drop mem_of_mem_take not_mem_nil)
set_option linter.unusedSimpArgs false
set_option linter.unusedVariables false
set_option linter.unusedSectionVars false
set_option maxRecDepth 8000
open Go.RowKit
def wPc(held:Int):List Int:=if held=0 then []else [held]
variable{lv:Int}{s:Sto}{xs:List It}
theorem wZd(c:Av s)(h:CD lv xs=true)(hk:∀x∈xs,Bj x.key)(d:∀x∈xs,x.ref≠0->¬s.now.getD x.ref.toNat 0=0)(u:KS s lv xs=0):ExtB s (EM s lv xs):=by
 obtain⟨z,o,w,i,g⟩:=wMs c h hk d u;generalize C:BH (Am s xs)=a at *;have B:s.now.length=256:=c.2.1.1;have f:Ak s a=none:=by unfold Ak;rw[if_pos o]
 refine⟨λn r j=>?_,λk b=>?_⟩
 ·rw [i n,if_neg (λe=>by rw[e,f]at j;cases j)];exact j
 have l:k≠a:=λe=>by rw[e]at b;exact b o
 by_cases m:k=0
 ·subst m;have y:=c.2.1.2;have:=List.all_eq_true.1 y (s.now.getD 0 0) (by
   rw[show s.now.getD 0 0=(s.now.take 8)[0]'(by rw[length_take];omega)by rw[List.getElem_take,Ej (by omega)]];exact getElem_mem _)
  exact absurd (by simpa using this) b
 have:=g k (by omega) l;have:(s.now.getD k 0).toNat≠0:=λe=>b (UInt8.toNat.inj e);exact Ga (by omega)
variable{held:Int}
theorem P1{t:Sto}{l:List It}(d:Av t)(c:CD lv l=true)(hk:∀x∈l,Bj x.key)(b:∀x∈l,x.ref≠0->¬t.now.getD x.ref.toNat 0=0)(Q:held=0\/(8<=held/\held<256/\∃x∈l,x.ref=held)):
  (∃e,Dj t lv l held=.error e/\(e=9\/e=70))\/∃u a,Dj t lv l held=.ok (u,a)/\Av u/\ExtB t u/\Ak u a.toNat=some (lv,l)/\(8<=a/\a<256)/\u.waits.length=t.waits.length+1/\
   ∀S R,En t S (wPc held++R)->(0<lv->∀x∈l,x.ref.toNat∈S/\∃zs,Ak t x.ref.toNat=some (lv-1,zs))->(lv=0->∀x∈l,x.ref≠0->x.ref.toNat∉S)->∃g,En u g (a::R)/\a.toNat∈g/\Sub t S g/\Apa t S g:=by
 unfold Dj;rcases wBe d c b with e|e
 ·rw [if_pos e];have f:=wZd d c hk b e;obtain⟨W,P,T,J,y⟩:=wMs d c hk b e;have w:=Hh e d.1.2.1;have j:=Jc d c w.2.2.1 w.2.2.2;have n:Ak (EM t lv l) (BH (Am t l))=some (lv,l):=by rw[J,if_pos rfl]
  rcases Q with rfl|⟨U,z,x,C,h⟩
  ·rw [if_neg (by omega)];refine .inr ⟨_,_,rfl,j,f,by rw[Int.toNat_natCast];exact n,by omega,YK _ _ _,λS R D i m=>?_⟩;obtain⟨g,G,B,F,_,_,_,E⟩:=En.make (R:=R) D m c hk i b e;exact⟨g,G,by rw[Int.toNat_natCast];exact B,F,E⟩
  have X:(EM t lv l).now.length=256:=j.2.1.1;have I:held.toNat≠BH (Am t l):=λM=>by
   have:=b x C (by omega);rw[h,M]at this;exact this P
  have V:2<=((EM t lv l).now.getD held.toNat 0).toNat:=by
   rw[y held.toNat (by omega) I];have Z:0<(l.map (·.ref)).count ((held.toNat:Nat):Int):=List.count_pos_iff.2 (List.mem_map.2 ⟨x,C,by omega⟩);have Y:(t.now.getD held.toNat 0).toNat≠0:=λM=>b x C (by omega) (by rw[h];exact UInt8.toNat.inj M);omega
  obtain⟨o,N⟩:=Gf (s:=EM t lv l) (k:=held.toNat) (by omega) V;have K:Cj (EM t lv l) held.toNat=0:=if_neg (Ga (by omega));rw[if_pos (by omega),if_pos K];refine .inr ⟨_,_,rfl,C2 j (by omega),f.trans o,by rw[Int.toNat_natCast];exact o.nd _ _ n,by omega,by show (EM t lv l).waits.length=_;exact YK _ _ _,λS R D i m=>?_⟩;have L:wPc held++R=held::R:=by unfold wPc;rw[if_neg (by omega)];rfl
  rw[L]at D;obtain⟨g,G,B,F,_,_,_,E⟩:=En.make (R:=held::R) D m c hk i b e;have H:=KC B n C;rw[h]at H;obtain⟨_,_,O⟩:=En.loose (k:=held) (G.perm (List.Perm.swap _ _ _)) ⟨U,z⟩ (.inl (by omega));exact⟨g,O,by rw[Int.toNat_natCast];exact B,F,E⟩
 rw[if_neg (by rcases e with e|e<;>rw[e]<;>decide)];exact .inl ⟨_,rfl,e⟩
def Er(q:Ky)(x:It):Bool:=decide (x.key≠q)
theorem Fu{q:Ky}{l:List It}(h:∀y∈l,y.key≠q):l.filter (Er q)=l:=List.filter_eq_self.2 λy a=>decide_eq_true (h y a)
variable{a:Ky}
theorem LP{b:Ky}(h:Ap a b=true):a≠b:=λe=>by rw[e,YS]at h;cases h
variable{P:List It}
theorem Zw{M Q:List It}{q:Ky}(h:Srt (P++M++Q))(d:∃y∈M,y.key=q):(P++M++Q).filter (Er q)=P++M.filter (Er q)++Q:=by
 obtain⟨y,b,e⟩:=d;have c:=List.pairwise_append.1 h;have f:=List.pairwise_append.1 c.1;rw[filter_append,filter_append,Fu (l:=P) λz a=>LP (by have:=f.2.2 z a y b;rwa[e]at this),Fu (l:=Q) λz a=>(LP (by have:=c.2.2 y (List.mem_append_right _ b) z a;rwa[e]at this)).symm]
variable{l:Nat}
theorem wCt{q:Ky}(c:Shp s l xs)(b:Srt (Ax s l xs))(j:BO xs q<xs.length):
  Ax s l xs=Ax s l (xs.take (BO xs q))++Bc s l xs[BO xs q]++Ax s l (xs.drop (BO xs q+1))/\(∀y∈Ax s l (xs.take (BO xs q)),Ap y.key q=true)/\∀y∈Ax s l (xs.drop (BO xs q+1)),Ap q y.key=true:=by
 have m:=JR c b;have e:=ER j;have w:Ax s l xs=Ax s l (xs.take (BO xs q))++Bc s l xs[BO xs q]++Ax s l (xs.drop (BO xs q+1)):=by
  conv=>lhs;rw[e]
  rw[A5,A5,Dp]
 refine⟨w,?_⟩;rw[w]at b;have u:=List.pairwise_append.1 b;have D:=List.pairwise_append.1 u.1;refine⟨λy d=>?_,λy d=>?_⟩
 ·have E:0<BO xs q:=Nat.pos_of_ne_zero λG=>by rw[G]at d;simp[Ax]at d
  obtain⟨a,C,F⟩:=LI (c.one (x:=xs[BO xs q]) (getElem_mem j));have o:=D.2.2 y d a C;rw[F]at o;exact QI o (wJt m j E)
 obtain⟨z,g,h⟩:=List.mem_flatMap.1 d;have f:z∈xs:=mem_of_mem_drop g;have i:Srt (Bc s l z):=by
  obtain⟨A,B,k⟩:=List.append_of_mem g;have n:=u.2.1;rw[k,A5,Dy]at n;exact(List.pairwise_append.1 (List.pairwise_append.1 n).2.1).1
 exact QI (wJu m z g) (wMa (c.one f) i y h)
theorem wUr{q:Ky}(hs:Srt xs)(i:∃y∈xs,y.key=q):∃c:place xs q<xs.length,xs[place xs q].key=q:=by
 obtain⟨y,b,a⟩:=i;obtain⟨l,k⟩:=Dl (q:=q) hs;rw[<-List.take_append_drop (place xs q) xs]at b;rcases List.mem_append.1 b with b|b
 ·exact absurd a (LP (l y b))
 obtain⟨j,g,f,rfl⟩:=Ge b;have c:place xs q<xs.length:=by omega
 refine⟨c,?_⟩;rcases Nat.lt_or_ge (place xs q) j with h|h
 ·have e:=PZ hs c g h;rw[a]at e;have d:=k _ (PG c (Nat.le_refl _));rw[e]at d;cases d
 have:j=place xs q:=by omega
 subst this;exact a
theorem wNb{q:Ky}(hs:Srt xs)(i:∃y∈xs,y.key=q):G0 ⟨0,xs,place xs q⟩=xs.filter (Er q)/\(xs.filter (Er q)).length+1=xs.length:=by
 obtain⟨c,d⟩:=wUr hs i;obtain⟨k,n⟩:=Dl (q:=q) hs;have m:(xs.take (place xs q)).filter (Er q)=xs.take (place xs q):=Fu λy b=>LP (k y b);have l:(xs.drop (place xs q+1)).filter (Er q)=xs.drop (place xs q+1):=Fu λy b=>by
  obtain⟨j,g,f,rfl⟩:=Ge b;have:=PZ hs c g (by omega);rw[d]at this;exact(LP this).symm
 have e:xs.filter (Er q)=xs.take (place xs q)++xs.drop (place xs q+1):=by
  have a:[xs[place xs q]].filter (Er q)=[]:=by
   rw[List.filter_cons_of_neg (by unfold Er;rw[decide_eq_false (λh=>h d)];decide)];rfl
  conv=>lhs;rw[ER c]
  rw[filter_append,filter_append,m,l,a,List.append_nil]
 refine⟨e.symm,?_⟩;rw[e,List.length_append,length_take,length_drop];omega
variable{y:It}{ys:List It}
theorem Lp{t:Sto}(a:ExtB s t)(h:Ak s y.ref.toNat=some ((l:Int),ys)):kid t y=ys/\kid s y=ys:=by
 unfold kid;rw[h,a.nd _ _ h];exact⟨rfl,rfl⟩
def Nb(s:Sto)(l:Nat)(xs A:List It):Prop:=A=[]\/∃y∈xs,Ak s y.ref.toNat=some ((l:Int),A)/\Shp s l A
structure Joins(s t:Sto)(l:Nat)(xs:List It)(p:Nat)(hp:p<xs.length)(l1:List It)(lv:Int)(A B X Z:List It):Prop where
 eq:(AJ t ⟨lv,xs,p⟩ l1).1=A++l1++B
 set:∀a,Se ⟨lv,xs,p⟩ (AJ t ⟨lv,xs,p⟩ l1) a=X++[⟨BC (A++l1++B),a,[]⟩]++Z
 subX:∀y∈X,y∈xs
 subZ:∀y∈Z,y∈xs
 all:Ax s (l+1) xs=Ax s (l+1) X++(Ax s l A++Bc s (l+1) xs[p]++Ax s l B)++Ax s (l+1) Z
 nbA:Nb s l xs A
 nbB:Nb s l xs B
 len:l1.length<=5->(A++l1++B).length<=5
 many:X.length+1+Z.length<=xs.length
variable{l1:List It}{w:Stp}
theorem Tc{t:Sto}(h:AJ t w l1=(l1,w.at_,1)){p:Nat}(c:p<xs.length)(d:w=⟨lv,xs,p⟩):Joins s t l xs p c l1 lv [] [] (xs.take p) (xs.drop (p+1)):=by
 subst d;refine⟨by rw[h];simp,λa=>by unfold Se;rw[h];simp,λy b=>mem_of_mem_take b,λy b=>mem_of_mem_drop b,?_,.inl rfl,.inl rfl,λh=>by simpa using h,?_⟩
 ·have e:=ER c;conv=>lhs;rw[e]
  rw[A5,A5,Dp];simp[Ax]
 rw[length_take,length_drop];omega
theorem YW{t:Sto}{p:Nat}(k:p<xs.length)(g:List It)(lv:Int)(j:Shp s (l+1) xs)(C:ExtB s t):∃A B X Z,Joins s t l xs p k g lv A B X Z:=by
 cases c:nxt ⟨lv,xs,p⟩with
 |none=>exact⟨_,_,_,_,Tc (by unfold AJ;rw[c]) k rfl⟩
 |some i=>
  have z:i<xs.length/\(i=p+1\/i+1=p):=by
   unfold nxt at c
   simp only at c
   split at c
   ·split at c
    ·cases c
    cases c;omega
   cases c;omega
  obtain⟨b,o⟩:=z
  have m:xs[i]? =some xs[i]:=List.getElem?_eq_getElem b
  obtain⟨ys,n,E,D,u⟩:=j _ (getElem_mem b)
  obtain⟨w,_⟩:=Lp C n
  have f:AJ t ⟨lv,xs,p⟩ g=if 5<ys.length+g.length then (g,p,1)else if i<p then (ys++g,i,2)else (g++ys,p,2):=by
   unfold AJ;rw[c];simp only[m,w]
  by_cases d:5<ys.length+g.length
  ·exact ⟨_,_,_,_,Tc (by rw[f,if_pos d]) k rfl⟩
  rw[if_neg d]at f
  rcases o with rfl|rfl
  ·rw [if_neg (by omega)]at f
   refine⟨[],ys,xs.take p,xs.drop (p+2),by rw[f];simp,λa=>by unfold Se;rw[f];simp,λy h=>mem_of_mem_take h,λy h=>mem_of_mem_drop h,?_,.inl rfl,.inr ⟨_,getElem_mem b,n,u⟩,λ_=>by simp;omega,?_⟩
   ·have e:xs=xs.take p++[xs[p]]++([xs[p+1]]++xs.drop (p+2)):=by
     conv=>lhs;rw[ER k]
     rw[List.drop_eq_getElem_cons b];rfl
    conv=>lhs;rw[e]
    rw[A5,A5,A5,Dp,Dp,Bg n]
    simp[Ax]
   rw[length_take,length_drop];omega
  rw[if_pos (by omega)]at f
  refine⟨ys,[],xs.take i,xs.drop (i+2),by rw[f];simp,λa=>by unfold Se;rw[f];simp,λy h=>mem_of_mem_take h,λy h=>mem_of_mem_drop h,?_,.inr ⟨_,getElem_mem b,n,u⟩,.inl rfl,λ_=>by simp;omega,?_⟩
  ·have e:xs=xs.take i++[xs[i]]++([xs[i+1]]++xs.drop (i+2)):=by
    conv=>lhs;rw[ER b]
    rw[List.drop_eq_getElem_cons k];rfl
   conv=>lhs;rw[e]
   rw[A5,A5,A5,Dp,Dp,Bg n]
   simp[Ax]
  rw[length_take,length_drop];omega
variable{ws:List Stp}
theorem YP(h:ws≠[]):Gg (w::ws)=Gg ws:=by
 obtain⟨a,b,rfl⟩:=List.exists_cons_of_ne_nil h;unfold Gg;rw[List.getLast?_cons_cons]
theorem XT(s:Sto)(q:Ky):∀(l:Nat)(xs:List It),AE s q l xs≠[]
 |0,_=>by rw[AE];exact λh=>by cases h
 |l+1,_=>by rw[AE];exact λh=>by cases h
structure ItL(l:Nat)(ys:List It):Prop where
 bad:∀y∈ys,BB y=false
 key:∀y∈ys,Bj y.key
 up:0<l->∀y∈ys,y.ref≠0/\y.val=[]
theorem ItL.app(h:ItL l xs)(k:ItL l ys):ItL l (xs++ys):=
 ⟨λy a=>(List.mem_append.1 a).elim (h.bad y) (k.bad y),λy a=>(List.mem_append.1 a).elim (h.key y) (k.key y),λb y a=>(List.mem_append.1 a).elim (h.up b y) (k.up b y)⟩
theorem ItL.sub(h:ItL l xs)(hs:∀y∈ys,y∈xs):ItL l ys:=⟨λy a=>h.bad y (hs y a),λy a=>h.key y (hs y a),λb y a=>h.up b y (hs y a)⟩
variable{k:Nat}
theorem ItL.of(h:Ak s k=some ((l:Int),xs)):ItL l xs:=by
 have b:=FK h;exact⟨λy a=>(b y a).1,λy a=>(b y a).2.1,λc y a=>(b y a).2.2 (by omega)⟩
theorem ItL.nil:ItL l []:=⟨λ_ h=>(not_mem_nil h).elim,λ_ h=>(not_mem_nil h).elim,λ_ _ h=>(not_mem_nil h).elim⟩
variable{A:List It}
theorem wMo(h:Nb s l xs A):ItL l A:=by
 rcases h with rfl|⟨y,_,h,_⟩
 ·exact ItL.nil
 exact ItL.of h
theorem wMm(h:Nb s l xs A):Shp s l A:=by
 rcases h with rfl|⟨y,_,_,h⟩
 ·cases l<;>exact λx a=>by cases a
 exact h
variable{R:List Int}{S:List Nat}
theorem wXa(h:Nb s l xs A)(d:En s S R)(hk:k∈S)(b:Ak s k=some (((l+1:Nat):Int),xs))(f:0<l):∀x∈A,x.ref.toNat∈S/\∃zs,Ak s x.ref.toNat=some ((l:Int)-1,zs):=λx c=>by
 rcases h with rfl|⟨y,e,h,_⟩
 ·cases c
 obtain⟨a,_⟩:=d.closed k hk _ _ b (by omega) y e
 exact d.closed _ a _ _ h (by omega) x c
theorem wMn(h:Nb s 0 xs A)(d:En s S R)(hk:k∈S)(c:Ak s k=some (((0+1:Nat):Int),xs)):∀x∈A,x.ref≠0->x.ref.toNat∉S/\¬s.now.getD x.ref.toNat 0=0:=λx b e=>by
 rcases h with rfl|⟨y,f,h,g⟩
 ·cases b
 obtain⟨a,_⟩:=d.closed k hk _ _ c (by omega) y f
 exact⟨d.disj _ a _ h x b e,(g x b).resolve_left e⟩
theorem wQa{t:Sto}(f:l<6)(b:l≠0->ys≠[])(a:ys.length<=5)(d:ItL l ys)(hs:Srt ys):CD (l:Int) ys=true:=by
 unfold CD;rw[Bool.and_eq_true];refine⟨decide_eq_true ⟨by omega,by omega,a,λh e=>b (by omega) (List.eq_nil_of_length_eq_zero e)⟩,QU (λx c=>⟨d.bad x c,λe=>d.up (by have:=of_decide_eq_true e;omega) x c⟩) hs (λq e=>by cases e)⟩
theorem VA{t:Sto}(h:Shp t l ys):∀x∈ys,x.ref≠0->¬t.now.getD x.ref.toNat 0=0:=λx a b=>by
 cases l with
 |zero=>exact(h x a).resolve_left b
 |succ l=>obtain⟨ys,c,_⟩:=h x a;exact B7 c
structure DnOk(s t:Sto)(q:Ky)(l:Nat)(xs:List It)(k:Nat)(l1:List It)(held:Int):Prop where
 ok:Av t
 ext:ExtB s t
 shp:Shp t l l1
 all:Ax t l l1=(Ax s l xs).filter (Er q)
 len:l1.length<=xs.length
 itl:ItL l l1
 hel:held=0\/(8<=held/\held<256/\∃x∈l1,x.ref=held)
 waits:t.waits.length<=s.waits.length+l
 en:∀S R,En s S R->k∈S->∃S',En t S' (wPc held++R)/\Sub s S S'/\(0<l->∀x∈l1,x.ref.toNat∈S')/\(l=0->∀x∈l1,x.ref≠0->x.ref.toNat∉S')/\Apa s S S'
theorem wQg{q:Ky}(aa:Av s):∀(l:Nat)(xs:List It)(k:Nat),Ak s k=some ((l:Int),xs)->Shp s l xs->Srt (Ax s l xs)->(∃y∈Ax s l xs,y.key=q)->
  (∃e,dn s (Gg (AE s q l xs)) (AE s q l xs).dropLast=.error e/\(e=9\/e=70))\/∃t l1 held,dn s (Gg (AE s q l xs)) (AE s q l xs).dropLast=.ok (t,l1,held)/\DnOk s t q l xs k l1 held
 |0,xs,k,d,j,i,hf=>by
  rw[Cl]at i hf;obtain⟨h1,f⟩:=wNb i hf;have m:∀y∈xs.filter (Er q),y∈xs:=λy g=>(List.mem_filter.1 g).1;refine .inr ⟨s,xs.filter (Er q),0,?_,aa,ExtB.refl s,j.sub m,by rw[Cl,Cl],by omega,(ItL.of d).sub m,.inl rfl,Nat.le_refl _,λS R D G=>⟨S,D,λn hn _=>hn,(λh=>by omega),λ_ x c Y=>D.disj k G xs d x (m x c) Y,Apa.refl s S⟩⟩;show dn s (G0 ⟨0,xs,place xs q⟩) []=_;rw[h1];rfl
 |l+1,xs,k,d,j,i,hf=>by
  have ac:=Ar d;have ak:=Gc d (by omega);have hp:=HU (q:=q) ak;obtain⟨ys,w,av,au,ah⟩:=j _ (getElem_mem hp);have ae:kid s xs[BO xs q]=ys:=by unfold kid;rw[w]
  have M:AE s q (l+1) xs=⟨((l+1:Nat):Int),xs,BO xs q⟩::AE s q l ys:=by
   rw[AE,List.getElem?_eq_getElem hp];show _::AE s q l (kid s xs[BO xs q])=_;rw[ae]
  obtain⟨w1,w2,w3⟩:=wCt j i hp;have O:∃y∈Ax s l ys,y.key=q:=by
   obtain⟨y,g,Q⟩:=hf;rw[w1]at g;rcases List.mem_append.1 g with g|g
   ·rcases List.mem_append.1 g with g|g
    ·exact absurd Q (LP (w2 y g))
    exact⟨y,by rw[<-Bg w];exact g,Q⟩
   exact absurd Q.symm (LP (w3 y g))
  have ai:Srt (Ax s l ys):=by
   rw[w1]at i;have:=(List.pairwise_append.1 (List.pairwise_append.1 i).1).2.1;rwa[Bg w]at this
  have ag:(Ax s (l+1) xs).filter (Er q)=Ax s (l+1) (xs.take (BO xs q))++(Ax s l ys).filter (Er q)++Ax s (l+1) (xs.drop (BO xs q+1)):=by
   rw[w1,filter_append,filter_append,Fu λy g=>LP (w2 y g),Fu λy g=>(LP (w3 y g)).symm,Bg w]
  have ap:(AE s q (l+1) xs).dropLast=⟨((l+1:Nat):Int),xs,BO xs q⟩::(AE s q l ys).dropLast:=by
   rw[M,List.dropLast_cons_of_ne_nil (XT s q l ys)]
  rw[ap,M,YP (XT s q l ys)];rcases wQg aa l ys _ w ah ai O with⟨e,h1,f⟩|⟨t,l1,held,h1,f⟩
  ·exact .inl ⟨e,by rw[dn,h1],f⟩
  have ao:dn s (Gg (AE s q l ys)) (⟨((l+1:Nat):Int),xs,BO xs q⟩::(AE s q l ys).dropLast)=wSq t ⟨((l+1:Nat):Int),xs,BO xs q⟩ l1 held:=by rw[dn,h1]
  rw[ao];unfold wSq;have aw:=ac.len;by_cases V:l1=[]
  ·subst V;rw[if_pos rfl];have Y:held=0:=f.hel.resolve_right λ⟨_,_,x,c,_⟩=>by cases c
   subst Y;have m:∀y∈G0 ⟨((l+1:Nat):Int),xs,BO xs q⟩,y∈xs:=λy g=>by
    unfold G0 at g;exact(List.mem_append.1 g).elim mem_of_mem_take mem_of_mem_drop
   obtain⟨e1,e2⟩:=f.ext.shp (j.sub m);have ad:(Ax s l ys).filter (Er q)=[]:=by rw[<-f.all];rfl
   refine .inr ⟨t,_,0,rfl,f.ok,f.ext,e1,?_,?_,(ItL.of d).sub m,.inl rfl,by have:=f.waits;omega,λS R D G=>?_⟩
   ·rw [e2,ag,ad,List.append_nil];unfold G0;rw[A5]
   ·unfold G0;show (xs.take _++xs.drop _).length<=_;rw[List.length_append,length_take,length_drop];omega
   obtain⟨W,_⟩:=D.closed k G _ _ d (by omega) _ (getElem_mem hp);obtain⟨S',k1,P,k3,k4,k5⟩:=f.en S R D W;refine⟨S',k1,P,λ_ x c=>?_,λe=>absurd e (by omega),k5⟩;obtain⟨a,zs,b⟩:=D.closed k G _ _ d (by omega) x (m x c);exact P _ a (by rw[b];simp)
  rw[if_neg V];obtain⟨A,B,X,Z,o⟩:=YW (t:=t) hp l1 ((l+1:Nat):Int) j f.ext;rw[o.eq];obtain⟨a1,a2⟩:=f.ext.shp (wMm o.nbA);obtain⟨b1,b2⟩:=f.ext.shp (wMm o.nbB);have C:Shp t l (A++l1++B):=(a1.app f.shp).app b1;have I:Ax t l (A++l1++B)=Ax s l A++(Ax s l ys).filter (Er q)++Ax s l B:=by rw[A5,A5,a2,b2,f.all]
  have U:Srt (Ax t l (A++l1++B)):=by
   rw[I];have h5:=i;rw[o.all,Bg w]at h5;have h6:=(List.pairwise_append.1 (List.pairwise_append.1 h5).1).2.1;exact List.Pairwise.sublist (((List.Sublist.refl _).append List.filter_sublist).append (List.Sublist.refl _)) h6
  have H:ItL l (A++l1++B):=((wMo o.nbA).app f.itl).app (wMo o.nbB);have aq:ys.length<=5:=(Ar w).len;have F:A++l1++B≠[]:=λe=>V (List.append_eq_nil_iff.1 (List.append_eq_nil_iff.1 e).1).2;have aj:=wQa (t:=t) (l:=l) (by have:=ac.lev;omega) (λ_=>F) (o.len (by have:=f.len;omega)) H (JR C U);have al:((l+1:Nat):Int)-1=(l:Int):=by omega
  dsimp only;rw[al];rcases P1 (held:=held) f.ok aj H.key (VA C) (f.hel.imp id λ⟨J,E,x,c,c3⟩=>⟨J,E,x,by simp[c],c3⟩)with⟨e,m1,m2⟩|⟨u,a,m1,m2,m3,m4,m5,m6,m7⟩
  ·exact .inl ⟨e,by rw[m1],m2⟩
  rw[m1];dsimp only;rw[o.set];have T:=f.ext.trans m3;obtain⟨x1,x2⟩:=T.shp (j.sub o.subX);obtain⟨z1,z2⟩:=T.shp (j.sub o.subZ);obtain⟨j1,j2⟩:=m3.shp C;have ab:Shp u (l+1) [⟨BC (A++l1++B),a,[]⟩]:=λx c=>by
   rw[List.mem_singleton.1 c];exact⟨_,m4,F,rfl,j1⟩
  have af:Bj (BC (A++l1++B)):=by
   obtain⟨z,zs,e⟩:=List.exists_cons_of_ne_nil F;rw[e];exact H.key z (by rw[e];simp)
  have L:ItL (l+1) [⟨BC (A++l1++B),a,[]⟩]:=⟨λy g=>by rw[List.mem_singleton.1 g];exact XX ⟨rfl,m5⟩,λy g=>by rw[List.mem_singleton.1 g];exact af,λ_ y g=>by rw[List.mem_singleton.1 g];exact⟨by show a≠0;omega,rfl⟩⟩;refine .inr ⟨u,_,a,rfl,m2,T,(x1.app ab).app z1,?_,?_,(((ItL.of d).sub o.subX).app L).app ((ItL.of d).sub o.subZ),.inr ⟨m5.1,m5.2,⟨BC (A++l1++B),a,[]⟩,by simp,rfl⟩,by have:=f.waits;omega,λS R D G=>?_⟩
  ·rw [A5,A5,x2,z2,Dp,Bg (x:=⟨BC (A++l1++B),a,[]⟩) m4,j2,I];have e3:(Ax s (l+1) xs).filter (Er q)=Ax s (l+1) X++(Ax s l A++(Ax s l ys).filter (Er q)++Ax s l B)++Ax s (l+1) Z:=by
    have h5:=i;rw[o.all,Bg w]at h5⊢;have e:Ax s (l+1) X++(Ax s l A++Ax s l ys++Ax s l B)++Ax s (l+1) Z=(Ax s (l+1) X++Ax s l A)++Ax s l ys++(Ax s l B++Ax s (l+1) Z):=by simp only[List.append_assoc]
    rw[e]at h5⊢;rw[Zw h5 O];simp only[List.append_assoc]
   rw[e3]
  ·have:=o.many;simp only[List.length_append,List.length_singleton];omega
  obtain⟨W,_⟩:=D.closed k G _ _ d (by omega) _ (getElem_mem hp);obtain⟨S1,k1,P,k3,k4,k5⟩:=f.en S R D W;have am:(l:Int)=0->∀x∈A++l1++B,x.ref≠0->x.ref.toNat∉S1:=λK x c Y=>by
   obtain rfl:l=0:=by omega
   rcases List.mem_append.1 c with c|c
   ·rcases List.mem_append.1 c with c|c
    ·obtain ⟨J,E⟩:=wMn o.nbA D G d x c Y;exact k5 _ E J
    exact k4 rfl x c Y
   obtain⟨J,E⟩:=wMn o.nbB D G d x c Y;exact k5 _ E J
  obtain⟨S2,n1,n2,n3,n4⟩:=(λh=>m7 S1 R k1 h am) λhl x c=>by
   have K:0<l:=by omega
   rcases List.mem_append.1 c with c|c
   ·rcases List.mem_append.1 c with c|c
    ·obtain ⟨J,zs,E⟩:=wXa o.nbA D G d K x c;exact⟨P _ J (by rw[E];simp),zs,f.ext.nd _ _ E⟩
    obtain⟨l0,rfl⟩:∃l0,l=l0+1:=⟨l-1,by omega⟩;obtain⟨zs,e1,_⟩:=f.shp x c;exact⟨k3 K x c,zs,by rw[e1];congr 2;omega⟩
   obtain⟨J,zs,E⟩:=wXa o.nbB D G d K x c;exact⟨P _ J (by rw[E];simp),zs,f.ext.nd _ _ E⟩
  have hh:wPc a++R=a::R:=by unfold wPc;rw[if_neg (by omega)];rfl
  refine⟨S2,by rw[hh];exact n1,P.trans f.ext n3,λ_ x c=>?_,λe=>absurd e (by omega),k5.trans f.ext n4⟩;have N:∀y∈xs,y.ref.toNat∈S2:=λy g=>by
   obtain⟨J,zs,E⟩:=D.closed k G _ _ d (by omega) y g;exact n3 _ (P _ J (by rw[E];simp)) (by rw[f.ext.nd _ _ E];simp)
  rcases List.mem_append.1 c with c|c
  ·rcases List.mem_append.1 c with c|c
   ·exact N x (o.subX x c)
   rw[List.mem_singleton.1 c];exact n2
  exact N x (o.subZ x c)
def Lev(s:Sto):Nat->List It->Prop
 |0,_=>True
 |l+1,xs=>∀x∈xs,∃ys,Ak s x.ref.toNat=some ((l:Int),ys)/\Lev s l ys
variable{s:Sto}
theorem wNa:∀{l:Nat}{xs:List It},Shp s l xs->Lev s l xs
 |0,_,_=>trivial
 |l+1,xs,h=>λx a=>by obtain⟨ys,c,_,_,b⟩:=h x a;exact⟨ys,c,wNa b⟩
variable{lv:Int}{zs:List It}
theorem wBi{t:Sto}{r:Nat}(b:Ak s r=some (lv,zs))(h:∀n,n≠r->Ak t n=Ak s n):∀{l:Nat}{xs:List It},(l:Int)<=lv->Lev s l xs->Lev t l xs
 |0,_,_,_=>trivial
 |l+1,xs,g,d=>λx c=>by
  obtain⟨ys,a,f⟩:=d x c;refine⟨ys,?_,wBi b h (by omega) f⟩;rw[h _ (λe=>by rw[e,b]at a;cases a;omega)];exact a
variable{k:Nat}
theorem wHw{n:Nat}(h:n≠k):Ak (AS s k) n=Ak s n:=by
 have a:seen (AS s k) n=seen s n:=rfl;unfold Ak;rw[a];show (if (s.now.set k 0).getD n 0=0 then none else _)=_;rw[AK h]
theorem wSu{xs:List By}(hk:k<xs.length):(xs.getD k 0).toNat<=DI xs:=by
 have:=Ls (v:=0) hk;have a:(0:By).toNat=0:=rfl;omega
variable{l:Nat}{ys:List It}
theorem wFx{t:Sto}{r:Int}{x:It}(j:Av t)(S:8<=r/\r<256)(U:8<=x.ref/\x.ref<256)(m:Ak t r.toNat=some (((l+1:Nat):Int),[x]))(o:Ak t x.ref.toNat=some ((l:Int),ys))(J:Bl t x.ref.toNat=0):
  ∃u,Df (Bb t x.ref.toNat) r=some u/\Av u/\(∀n,n≠r.toNat->Ak u n=Ak t n)/\u.waits=t.waits:=by
 have T:t.now.length=256:=j.2.1.1;obtain⟨Q,y⟩:=JU J;obtain⟨R,d⟩:=F3 (s:=t) (k:=x.ref.toNat) (by omega) J;have N:=G7 (s:=t) (k:=x.ref.toNat) (by omega) y;have E:x.ref.toNat≠r.toNat:=λe=>by rw[e,m]at o;cases o
 have c:=JT (s:=t) (k:=x.ref.toNat) j (by omega);have L:(t.now.getD x.ref.toNat 0).toNat≠0:=λe=>Q (UInt8.toNat.inj e);have w:=N x.ref.toNat;rw[if_pos rfl]at w;have C:(Bb t x.ref.toNat).now.length=256:=c.2.1.1;have H:=wSu (xs:=(Bb t x.ref.toNat).now) (k:=x.ref.toNat) (by omega);have g:Ak (Bb t x.ref.toNat) r.toNat=some (((l+1:Nat):Int),[x]):=by rw[d];exact m
 have h:=B7 g;obtain⟨f,O⟩:∃f,DI (Bb t x.ref.toNat).now=f+2:=⟨DI (Bb t x.ref.toNat).now-2,by omega⟩;unfold Df;rw[O];have G:(Bb t x.ref.toNat).waits=t.waits:=rfl;generalize Bb t x.ref.toNat=b at *;by_cases z:b.now.getD r.toNat 0=1
 ·have D:¬(b.now.getD r.toNat 0=0\/((0:Int)<= -1/\((l+1:Nat):Int)≠ -1)):=by
   rintro (e|⟨a,_⟩)
   ·rw [z]at e;cases e
   omega
  rw[EN h z g,if_neg D,if_pos (by omega)];show ∃u,MQ b.now (f+1) (AS b r.toNat) ((x.ref,((l+1:Nat):Int)-1)::[])=some u/\_;have i:(AS b r.toNat).now.getD x.ref.toNat 0=b.now.getD x.ref.toNat 0:=by
   show (b.now.set r.toNat 0).getD _ 0=_;exact AK E
  have P:(AS b r.toNat).now.length=256:=by show (b.now.set _ _).length=_;rw[List.length_set];exact C
  obtain⟨K,B⟩:=Gf (s:=AS b r.toNat) (k:=x.ref.toNat) (by omega) (by rw[i];omega);rw[Py (by rw[i];exact Ga (by omega)) (by rw[i];intro e;rw[e]at w;have:(1:By).toNat=1:=rfl;omega)];refine⟨_,by rw[show MQ b.now f (AO (AS b r.toNat) x.ref.toNat) []=some (AO (AS b r.toNat) x.ref.toNat)by cases f<;>rfl],C2 (Fx c (by omega)) (by omega),λn F=>?_,?_⟩
  ·rw [B,wHw F,d]
  exact G
 rw[Py h z];have I:(b.now.getD r.toNat 0).toNat≠0:=λe=>h (UInt8.toNat.inj e);have M:(b.now.getD r.toNat 0).toNat≠1:=λe=>z (UInt8.toNat.inj (by rw[e];rfl));obtain⟨K,B⟩:=Gf (s:=b) (k:=r.toNat) (by omega) (by omega);refine⟨_,by rw[show MQ b.now (f+1) (AO b r.toNat) []=some (AO b r.toNat)from rfl],C2 c (by omega),λn _=>by rw[B,d],?_⟩;exact G
variable{lev:Nat}{xs:List It}{y:It}
theorem wCg{root:Int}{q:Ky}(c:(AQ s root).2=0)(a:N3 s root q=some y)(b:Ak s root.toNat=some ((lev:Int),xs)):MH s root q=MG s root (AE s q lev xs):=by
 unfold N3 at a;rw[b]at a;change BW s q lev xs=some y at a;unfold MH;rw[if_pos c,b];show (match BW s q ((lev:Int)).toNat xs with|none=>_|some _=>MG s root (AE s q ((lev:Int)).toNat xs))=_;rw[Int.toNat_natCast,a]
theorem Uz{root:Int}{q:Ky}(c:(AQ s root).2=0)(a:N3 s root q=none):MH s root q=.error 6:=by
 obtain⟨_,_,_,_,lev,xs,b,_,_⟩:=CW c;unfold N3 at a;rw[b]at a;unfold MH;rw[if_pos c,b];change BW s q lev xs=none at a;show (match BW s q ((lev:Int)).toNat xs with|none=>_|some _=>_)=_;rw[Int.toNat_natCast,a]
theorem wQk{root:Int}{q:Ky}(a:¬(AQ s root).2=0):MH s root q=.error (AQ s root).2:=by unfold MH;rw[if_neg a]
structure TopOk(s u:Sto)(q:Ky)(lev:Nat)(xs:List It)(k:Nat)(a:Int)(L:Nat)(l1:List It):Prop where
 ok:Av u
 ext:ExtB s u
 nd:Ak u a.toNat=some ((L:Int),l1)
 rng:8<=a/\a<256
 shp:Shp u L l1
 le:L<=lev
 all:Ax u L l1=(Ax s lev xs).filter (Er q)
 waits:u.waits.length<=s.waits.length+lev+1
 en:∀S R,En s S R->k∈S->∃S',En u S' (a::R)/\a.toNat∈S'/\Sub s S S'/\Apa s S S'
theorem Z6{q:Ky}(o:Av s)(i:Ak s k=some ((lev:Int),xs))(j:Shp s lev xs)(f:Srt (Ax s lev xs))(hf:∃y∈Ax s lev xs,y.key=q):
  (∃e,Uy (((AE s q lev xs).length:Int)-1) (dn s (Gg (AE s q lev xs)) (AE s q lev xs).dropLast)=.error e/\(e=9\/e=70))\/∃u a L l1,Uy (((AE s q lev xs).length:Int)-1) (dn s (Gg (AE s q lev xs)) (AE s q lev xs).dropLast)=.ok (u,a)/\TopOk s u q lev xs k a L l1:=by
 have aa:=(Ar i).lev;have ab:=(Ar i).len;rcases wQg (q:=q) o lev xs k i j f hf with⟨e,E,b⟩|⟨t,l1,held,E,b⟩
 ·exact .inl ⟨e,by rw[E];rfl,b⟩
 rw[E,Fk];obtain⟨L,hL,D,c⟩:∃L:Nat,(if l1=[]then (0:Int)else ((lev+1:Nat):Int)-1)=(L:Int)/\(L≠0->l1≠[])/\(L=lev\/(L=0/\l1=[])):=by
  by_cases h:l1=[]
  ·exact ⟨0,if_pos h,λI=>absurd rfl I,.inr ⟨rfl,h⟩⟩
  exact⟨lev,by rw[if_neg h];omega,λ_=>h,.inl rfl⟩
 have g:Shp t L l1/\Ax t L l1=Ax t lev l1/\ItL L l1:=by
  rcases c with rfl|⟨rfl,rfl⟩
  ·exact ⟨b.shp,rfl,b.itl⟩
  exact⟨λx d=>(not_mem_nil d).elim,rfl,ItL.nil⟩
 obtain⟨F,K,J⟩:=g;have w:Srt (Ax t L l1):=by rw[K,b.all];exact f.filter _
 have z:=wQa (t:=t) (l:=L) (by rcases c with rfl|⟨rfl,_⟩<;>omega) D (by have:=b.len;omega) J (JR F w);show (∃e,Dj t (if l1=[]then 0 else ((lev+1:Nat):Int)-1) l1 held=.error e/\_)\/∃u a L l2,Dj t (if l1=[]then 0 else ((lev+1:Nat):Int)-1) l1 held=.ok (u,a)/\_;rw[hL];rcases P1 (held:=held) b.ok z J.key (VA F) b.hel with⟨e,n,m⟩|⟨u,a,n,m,G,X,W,m6,V⟩
 ·exact .inl ⟨e,n,m⟩
 obtain⟨O,N⟩:=G.shp F;refine .inr ⟨u,a,L,l1,n,m,b.ext.trans G,X,W,O,by rcases c with rfl|⟨rfl,_⟩<;>omega,by rw[N,K,b.all],by have:=b.waits;omega,λS R he hk=>?_⟩;obtain⟨M,k1,k2,k3,Z,Y⟩:=b.en S R he hk;have B:(L:Int)=0->∀x∈l1,x.ref≠0->x.ref.toNat∉M:=λI x d=>by
  rcases c with rfl|⟨rfl,rfl⟩
  ·exact Z (by omega) x d
  cases d
 obtain⟨S2,U,T,Q,P⟩:=(λh=>V M R k1 h B) λhl x d=>by
  rcases c with rfl|⟨rfl,rfl⟩
  ·have C:0<L:=by omega
   obtain⟨H,rfl⟩:∃H,L=H+1:=⟨L-1,by omega⟩;obtain⟨zs,e1,_⟩:=b.shp x d;exact⟨k3 C x d,zs,by rw[e1];congr 2;omega⟩
  cases d
 exact⟨S2,U,T,k2.trans b.ext Q,Y.trans b.ext P⟩
end Go.Proofs.YtjheijhahehnmaaGreatDoor
