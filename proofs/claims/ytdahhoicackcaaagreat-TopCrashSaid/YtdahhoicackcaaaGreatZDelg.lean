/- An item taken out, without a program in sight: what becomes of the trees. No statement of the seat is proved here. -/
import Derived.Test.YtdahhoicackcaaaGreatZDelf
namespace Go.Proofs.YtdahhoicackcaaaGreat
open List (length_take getElem_mem filter_append mem_of_mem_drop length_drop mem_of_mem_take not_mem_nil)
set_option linter.unusedSimpArgs false
set_option linter.unusedVariables false
set_option linter.unusedSectionVars false
open Go.RowKit
set_option maxRecDepth 8000
def wCh(held:Int):List Int:=if held=0 then []else [held]
variable{lv:Int}{s:Sto}{xs:List It}
theorem wMs(c:Aq s)(h:Cw lv xs=true)(hk:∀x∈xs,BP x.key)(d:∀x∈xs,x.ref≠0->¬s.now.getD x.ref.toNat 0=0)(t:mkE s lv xs=0):ExtB s (mkS s lv xs):=by
 obtain⟨z,o,u,i,g⟩:=wBe c h hk d t
 generalize C:mkAt (Ag s xs)=a at *
 have B:s.now.length=256:=c.2.1.1
 have f:Ai s a=none:=by unfold Ai;rw[if_pos o]
 refine⟨λn r j=>?_,λk b=>?_⟩
 ·rw [i n,if_neg (λe=>by rw[e,f]at j;cases j)];exact j
 have l:k≠a:=λe=>by rw[e]at b;exact b o
 by_cases m:k=0
 ·subst m
  have y:=c.2.1.2
  have:=List.all_eq_true.1 y (s.now.getD 0 0) (by
   rw[show s.now.getD 0 0=(s.now.take 8)[0]'(by rw[length_take];omega)by rw[List.getElem_take,Dy (by omega)]]
   exact getElem_mem _)
  exact absurd (by simpa using this) b
 have:=g k (by omega) l
 have:(s.now.getD k 0).toNat≠0:=λe=>b (UInt8.toNat.inj e)
 exact FG (by omega)
variable{held:Int}{t:Sto}
theorem Nu{l:List It}(d:Aq t)(c:Cw lv l=true)(hk:∀x∈l,BP x.key)(b:∀x∈l,x.ref≠0->¬t.now.getD x.ref.toNat 0=0)(P:held=0\/(8<=held/\held<256/\∃x∈l,x.ref=held)):
  (∃e,Cb t lv l held=.error e/\(e=9\/e=70))\/∃u a,Cb t lv l held=.ok (u,a)/\Aq u/\ExtB t u/\Ai u a.toNat=some (lv,l)/\(8<=a/\a<256)/\u.waits.length=t.waits.length+1/\
   ∀S R,En t S (wCh held++R)->(0<lv->∀x∈l,x.ref.toNat∈S/\∃zs,Ai t x.ref.toNat=some (lv-1,zs))->(lv=0->∀x∈l,x.ref≠0->x.ref.toNat∉S)->∃S',En u S' (a::R)/\a.toNat∈S'/\Sub t S S'/\Apa t S S':=by
 unfold Cb
 rcases WP d c b with e|e
 ·rw [if_pos e]
  have f:=wMs d c hk b e
  obtain⟨V,O,Q,I,r⟩:=wBe d c hk b e
  have o:=GE e d.1.2.1
  have i:=Hl d c o.2.2.1 o.2.2.2
  have m:Ai (mkS t lv l) (mkAt (Ag t l))=some (lv,l):=by rw[I,if_pos rfl]
  rcases P with rfl|⟨T,y,x,B,g⟩
  ·rw [if_neg (by omega)]
   refine .inr ⟨_,_,rfl,i,f,by rw[Int.toNat_natCast];exact m,by omega,Vd _ _ _,λS R C h j=>?_⟩
   obtain⟨S',F,z,E,_,_,_,D⟩:=En.make (R:=R) C j c hk h b e
   exact⟨S',F,by rw[Int.toNat_natCast];exact z,E,D⟩
  have W:(mkS t lv l).now.length=256:=i.2.1.1
  have H:held.toNat≠mkAt (Ag t l):=λL=>by
   have:=b x B (by omega)
   rw[g,L]at this;exact this O
  have U:2<=((mkS t lv l).now.getD held.toNat 0).toNat:=by
   rw[r held.toNat (by omega) H]
   have Y:0<(l.map (·.ref)).count ((held.toNat:Nat):Int):=List.count_pos_iff.2 (List.mem_map.2 ⟨x,B,by omega⟩)
   have X:(t.now.getD held.toNat 0).toNat≠0:=λL=>b x B (by omega) (by rw[g];exact UInt8.toNat.inj L)
   omega
  obtain⟨n,M⟩:=FK (s:=mkS t lv l) (k:=held.toNat) (by omega) U
  have J:looseE (mkS t lv l) held.toNat=0:=if_neg (FG (by omega))
  rw[if_pos (by omega),if_pos J]
  refine .inr ⟨_,_,rfl,CY i (by omega),f.trans n,by rw[Int.toNat_natCast];exact n.nd _ _ m,by omega,by show (mkS t lv l).waits.length=_;exact Vd _ _ _,λS R C h j=>?_⟩
  have K:wCh held++R=held::R:=by unfold wCh;rw[if_neg (by omega)];rfl
  rw[K]at C
  obtain⟨S',F,z,E,_,_,_,D⟩:=En.make (R:=held::R) C j c hk h b e
  have G:=G5 z m B
  rw[g]at G
  obtain⟨_,_,N⟩:=En.loose (k:=held) (F.perm (List.Perm.swap _ _ _)) ⟨T,y⟩ (.inl (by omega))
  exact⟨S',N,by rw[Int.toNat_natCast];exact z,E,D⟩
 rw[if_neg (by rcases e with e|e<;>rw[e]<;>decide)]
 exact .inl ⟨_,rfl,e⟩
def Ec(q:Ky)(x:It):Bool:=decide (x.key≠q)
theorem EZ{q:Ky}{l:List It}(h:∀y∈l,y.key≠q):l.filter (Ec q)=l:=List.filter_eq_self.2 λy a=>decide_eq_true (h y a)
variable{a:Ky}
theorem Km{b:Ky}(h:Ap a b=true):a≠b:=λe=>by rw[e,Vm]at h;cases h
variable{P:List It}
theorem VR{M Q:List It}{q:Ky}(h:Srt (P++M++Q))(d:∃y∈M,y.key=q):(P++M++Q).filter (Ec q)=P++M.filter (Ec q)++Q:=by
 obtain⟨y,b,e⟩:=d
 have c:=List.pairwise_append.1 h
 have f:=List.pairwise_append.1 c.1
 rw[filter_append,filter_append,EZ (l:=P) λz a=>Km (by have:=f.2.2 z a y b;rwa[e]at this),EZ (l:=Q) λz a=>(Km (by have:=c.2.2 y (List.mem_append_right _ b) z a;rwa[e]at this)).symm]
variable{l:Nat}
theorem Xx{q:Ky}(c:Shp s l xs)(b:Srt (Aw s l xs))(hp:Bz xs q<xs.length):
  Aw s l xs=Aw s l (xs.take (Bz xs q))++allOne s l xs[Bz xs q]++Aw s l (xs.drop (Bz xs q+1))/\(∀y∈Aw s l (xs.take (Bz xs q)),Ap y.key q=true)/\∀y∈Aw s l (xs.drop (Bz xs q+1)),Ap q y.key=true:=by
 have k:=HN c b
 have e:=EA hp
 have r:Aw s l xs=Aw s l (xs.take (Bz xs q))++allOne s l xs[Bz xs q]++Aw s l (xs.drop (Bz xs q+1)):=by
  conv=>lhs;rw[e]
  rw[A1,A1,Db]
 refine⟨r,?_⟩
 rw[r]at b
 have o:=List.pairwise_append.1 b
 have u:=List.pairwise_append.1 o.1
 refine⟨λy d=>?_,λy d=>?_⟩
 ·have C:0<Bz xs q:=Nat.pos_of_ne_zero λE=>by rw[E]at d;simp[Aw]at d
  obtain⟨a,t,D⟩:=Kg (c.one (x:=xs[Bz xs q]) (getElem_mem hp))
  have n:=u.2.2 y d a t
  rw[D]at n
  exact N2 n (Zr k hp C)
 obtain⟨z,g,h⟩:=List.mem_flatMap.1 d
 have f:z∈xs:=mem_of_mem_drop g
 have i:Srt (allOne s l z):=by
  obtain⟨A,B,j⟩:=List.append_of_mem g
  have m:=o.2.1
  rw[j,A1,Dh]at m
  exact(List.pairwise_append.1 (List.pairwise_append.1 m).2.1).1
 exact N2 (Zs k z g) (wAp (c.one f) i y h)
theorem wJb{q:Ky}(hs:Srt xs)(i:∃y∈xs,y.key=q):∃c:place xs q<xs.length,xs[place xs q].key=q:=by
 obtain⟨y,b,a⟩:=i
 obtain⟨l,k⟩:=Da (q:=q) hs
 rw[<-List.take_append_drop (place xs q) xs]at b
 rcases List.mem_append.1 b with b|b
 ·exact absurd a (Km (l y b))
 obtain⟨j,g,f,rfl⟩:=FJ b
 have c:place xs q<xs.length:=by omega
 refine⟨c,?_⟩
 rcases Nat.lt_or_ge (place xs q) j with h|h
 ·have e:=Nq hs c g h
  rw[a]at e
  have d:=k _ (MT c (Nat.le_refl _))
  rw[e]at d;cases d
 have:j=place xs q:=by omega
 subst this;exact a
theorem wBk{q:Ky}(hs:Srt xs)(i:∃y∈xs,y.key=q):Gm ⟨0,xs,place xs q⟩=xs.filter (Ec q)/\(xs.filter (Ec q)).length+1=xs.length:=by
 obtain⟨c,d⟩:=wJb hs i
 obtain⟨k,n⟩:=Da (q:=q) hs
 have m:(xs.take (place xs q)).filter (Ec q)=xs.take (place xs q):=EZ λy b=>Km (k y b)
 have l:(xs.drop (place xs q+1)).filter (Ec q)=xs.drop (place xs q+1):=EZ λy b=>by
  obtain⟨j,g,f,rfl⟩:=FJ b
  have:=Nq hs c g (by omega)
  rw[d]at this
  exact(Km this).symm
 have e:xs.filter (Ec q)=xs.take (place xs q)++xs.drop (place xs q+1):=by
  have a:[xs[place xs q]].filter (Ec q)=[]:=by
   rw[List.filter_cons_of_neg (by unfold Ec;rw[decide_eq_false (λh=>h d)];decide)];rfl
  conv=>lhs;rw[EA c]
  rw[filter_append,filter_append,m,l,a,List.append_nil]
 refine⟨e.symm,?_⟩
 rw[e,List.length_append,length_take,length_drop];omega
variable{y:It}{ys:List It}
theorem wMw(a:ExtB s t)(h:Ai s y.ref.toNat=some ((l:Int),ys)):kid t y=ys/\kid s y=ys:=by
 unfold kid;rw[h,a.nd _ _ h];exact⟨rfl,rfl⟩
def Nb(s:Sto)(l:Nat)(xs A:List It):Prop:=A=[]\/∃y∈xs,Ai s y.ref.toNat=some ((l:Int),A)/\Shp s l A
structure Joins(s t:Sto)(l:Nat)(xs:List It)(p:Nat)(hp:p<xs.length)(l1:List It)(lv:Int)(A B X Z:List It):Prop where
 eq:(AA t ⟨lv,xs,p⟩ l1).1=A++l1++B
 set:∀a,PK ⟨lv,xs,p⟩ (AA t ⟨lv,xs,p⟩ l1) a=X++[⟨Bt (A++l1++B),a,[]⟩]++Z
 subX:∀y∈X,y∈xs
 subZ:∀y∈Z,y∈xs
 all:Aw s (l+1) xs=Aw s (l+1) X++(Aw s l A++allOne s (l+1) xs[p]++Aw s l B)++Aw s (l+1) Z
 nbA:Nb s l xs A
 nbB:Nb s l xs B
 len:l1.length<=5->(A++l1++B).length<=5
 many:X.length+1+Z.length<=xs.length
variable{l1:List It}
theorem Qg{w:Stp}(h:AA t w l1=(l1,w.at_,1)){p:Nat}(hp:p<xs.length)(c:w=⟨lv,xs,p⟩):Joins s t l xs p hp l1 lv [] [] (xs.take p) (xs.drop (p+1)):=by
 subst c
 refine⟨by rw[h];simp,λa=>by unfold PK;rw[h];simp,λy b=>mem_of_mem_take b,λy b=>mem_of_mem_drop b,?_,.inl rfl,.inl rfl,λh=>by simpa using h,?_⟩
 ·have e:=EA hp
  conv=>lhs;rw[e]
  rw[A1,A1,Db];simp[Aw]
 rw[length_take,length_drop];omega
theorem Vq{p:Nat}(hp:p<xs.length)(g:List It)(lv:Int)(j:Shp s (l+1) xs)(z:ExtB s t):∃A B X Z,Joins s t l xs p hp g lv A B X Z:=by
 cases c:nxt ⟨lv,xs,p⟩with
 |none=>exact⟨_,_,_,_,Qg (by unfold AA;rw[c]) hp rfl⟩
 |some i=>
  have u:i<xs.length/\(i=p+1\/i+1=p):=by
   unfold nxt at c
   simp only at c
   split at c
   ·split at c
    ·cases c
    cases c;omega
   cases c;omega
  obtain⟨b,n⟩:=u
  have k:xs[i]? =some xs[i]:=List.getElem?_eq_getElem b
  obtain⟨ys,m,D,C,o⟩:=j _ (getElem_mem b)
  obtain⟨r,_⟩:=wMw z m
  have f:AA t ⟨lv,xs,p⟩ g=if 5<ys.length+g.length then (g,p,1)else if i<p then (ys++g,i,2)else (g++ys,p,2):=by
   unfold AA;rw[c];simp only[k,r]
  by_cases d:5<ys.length+g.length
  ·exact ⟨_,_,_,_,Qg (by rw[f,if_pos d]) hp rfl⟩
  rw[if_neg d]at f
  rcases n with rfl|rfl
  ·rw [if_neg (by omega)]at f
   refine⟨[],ys,xs.take p,xs.drop (p+2),by rw[f];simp,λa=>by unfold PK;rw[f];simp,λy h=>mem_of_mem_take h,λy h=>mem_of_mem_drop h,?_,.inl rfl,.inr ⟨_,getElem_mem b,m,o⟩,λ_=>by simp;omega,?_⟩
   ·have e:xs=xs.take p++[xs[p]]++([xs[p+1]]++xs.drop (p+2)):=by
     conv=>lhs;rw[EA hp]
     rw[List.drop_eq_getElem_cons b];rfl
    conv=>lhs;rw[e]
    rw[A1,A1,A1,Db,Db,A3 m]
    simp[Aw]
   rw[length_take,length_drop];omega
  rw[if_pos (by omega)]at f
  refine⟨ys,[],xs.take i,xs.drop (i+2),by rw[f];simp,λa=>by unfold PK;rw[f];simp,λy h=>mem_of_mem_take h,λy h=>mem_of_mem_drop h,?_,.inr ⟨_,getElem_mem b,m,o⟩,.inl rfl,λ_=>by simp;omega,?_⟩
  ·have e:xs=xs.take i++[xs[i]]++([xs[i+1]]++xs.drop (i+2)):=by
    conv=>lhs;rw[EA b]
    rw[List.drop_eq_getElem_cons hp];rfl
   conv=>lhs;rw[e]
   rw[A1,A1,A1,Db,Db,A3 m]
   simp[Aw]
  rw[length_take,length_drop];omega
variable{ws:List Stp}
theorem Vj{w:Stp}(h:ws≠[]):Dt (w::ws)=Dt ws:=by
 obtain⟨a,b,rfl⟩:=List.exists_cons_of_ne_nil h
 unfold Dt;rw[List.getLast?_cons_cons]
theorem Uj(s:Sto)(q:Ky):∀(l:Nat)(xs:List It),Av s q l xs≠[]
 |0,_=>by rw[Av];exact λh=>by cases h
 |l+1,_=>by rw[Av];exact λh=>by cases h
structure ItL(l:Nat)(ys:List It):Prop where
 bad:∀y∈ys,BQ y=false
 key:∀y∈ys,BP y.key
 up:0<l->∀y∈ys,y.ref≠0/\y.val=[]
theorem ItL.app(h:ItL l xs)(k:ItL l ys):ItL l (xs++ys):=
 ⟨λy a=>(List.mem_append.1 a).elim (h.bad y) (k.bad y),λy a=>(List.mem_append.1 a).elim (h.key y) (k.key y),λb y a=>(List.mem_append.1 a).elim (h.up b y) (k.up b y)⟩
theorem ItL.sub(h:ItL l xs)(hs:∀y∈ys,y∈xs):ItL l ys:=⟨λy a=>h.bad y (hs y a),λy a=>h.key y (hs y a),λb y a=>h.up b y (hs y a)⟩
variable{k:Nat}
theorem ItL.of(h:Ai s k=some ((l:Int),xs)):ItL l xs:=by
 have b:=Ju h
 exact⟨λy a=>(b y a).1,λy a=>(b y a).2.1,λc y a=>(b y a).2.2 (by omega)⟩
theorem ItL.nil:ItL l []:=⟨λ_ h=>(not_mem_nil h).elim,λ_ h=>(not_mem_nil h).elim,λ_ _ h=>(not_mem_nil h).elim⟩
variable{A:List It}
theorem wBb(h:Nb s l xs A):ItL l A:=by
 rcases h with rfl|⟨y,_,h,_⟩
 ·exact ItL.nil
 exact ItL.of h
theorem wAy(h:Nb s l xs A):Shp s l A:=by
 rcases h with rfl|⟨y,_,_,h⟩
 ·cases l<;>exact λx a=>by cases a
 exact h
variable{R:List Int}{S:List Nat}
theorem wLh(h:Nb s l xs A)(d:En s S R)(hk:k∈S)(b:Ai s k=some (((l+1:Nat):Int),xs))(f:0<l):∀x∈A,x.ref.toNat∈S/\∃zs,Ai s x.ref.toNat=some ((l:Int)-1,zs):=λx c=>by
 rcases h with rfl|⟨y,e,h,_⟩
 ·cases c
 obtain⟨a,_⟩:=d.closed k hk _ _ b (by omega) y e
 exact d.closed _ a _ _ h (by omega) x c
theorem wBa(h:Nb s 0 xs A)(d:En s S R)(hk:k∈S)(c:Ai s k=some (((0+1:Nat):Int),xs)):∀x∈A,x.ref≠0->x.ref.toNat∉S/\¬s.now.getD x.ref.toNat 0=0:=λx b e=>by
 rcases h with rfl|⟨y,f,h,g⟩
 ·cases b
 obtain⟨a,_⟩:=d.closed k hk _ _ c (by omega) y f
 exact⟨d.disj _ a _ h x b e,(g x b).resolve_left e⟩
theorem wDi{t:Sto}(f:l<6)(b:l≠0->ys≠[])(a:ys.length<=5)(d:ItL l ys)(hs:Srt ys):Cw (l:Int) ys=true:=by
 unfold Cw
 rw[Bool.and_eq_true]
 refine⟨decide_eq_true ⟨by omega,by omega,a,λh e=>b (by omega) (List.eq_nil_of_length_eq_zero e)⟩,Pb (λx c=>⟨d.bad x c,λe=>d.up (by have:=of_decide_eq_true e;omega) x c⟩) hs (λq e=>by cases e)⟩
theorem So(h:Shp t l ys):∀x∈ys,x.ref≠0->¬t.now.getD x.ref.toNat 0=0:=λx a b=>by
 cases l with
 |zero=>exact(h x a).resolve_left b
 |succ l=>obtain⟨ys,c,_⟩:=h x a;exact B0 c
structure DnOk(s t:Sto)(q:Ky)(l:Nat)(xs:List It)(k:Nat)(l1:List It)(held:Int):Prop where
 ok:Aq t
 ext:ExtB s t
 shp:Shp t l l1
 all:Aw t l l1=(Aw s l xs).filter (Ec q)
 len:l1.length<=xs.length
 itl:ItL l l1
 hel:held=0\/(8<=held/\held<256/\∃x∈l1,x.ref=held)
 waits:t.waits.length<=s.waits.length+l
 en:∀S R,En s S R->k∈S->∃S',En t S' (wCh held++R)/\Sub s S S'/\(0<l->∀x∈l1,x.ref.toNat∈S')/\(l=0->∀x∈l1,x.ref≠0->x.ref.toNat∉S')/\Apa s S S'
theorem wDq{q:Ky}(aa:Aq s):∀(l:Nat)(xs:List It)(k:Nat),Ai s k=some ((l:Int),xs)->Shp s l xs->Srt (Aw s l xs)->(∃y∈Aw s l xs,y.key=q)->
  (∃e,dn s (Dt (Av s q l xs)) (Av s q l xs).dropLast=.error e/\(e=9\/e=70))\/∃t l1 held,dn s (Dt (Av s q l xs)) (Av s q l xs).dropLast=.ok (t,l1,held)/\DnOk s t q l xs k l1 held
 |0,xs,k,d,j,i,hf=>by
  rw[B2]at i hf
  obtain⟨h1,f⟩:=wBk i hf
  have m:∀y∈xs.filter (Ec q),y∈xs:=λy g=>(List.mem_filter.1 g).1
  refine .inr ⟨s,xs.filter (Ec q),0,?_,aa,ExtB.refl s,j.sub m,by rw[B2,B2],by omega,(ItL.of d).sub m,.inl rfl,Nat.le_refl _,λS R D G=>⟨S,D,λn hn _=>hn,(λh=>by omega),λ_ x c W=>D.disj k G xs d x (m x c) W,Apa.refl s S⟩⟩
  show dn s (Gm ⟨0,xs,place xs q⟩) []=_
  rw[h1];rfl
 |l+1,xs,k,d,j,i,hf=>by
  have ac:=Ar d
  have ak:=FH d (by omega)
  have Y:=G6 (q:=q) ak
  obtain⟨ys,r,av,au,ah⟩:=j _ (getElem_mem Y)
  have ae:kid s xs[Bz xs q]=ys:=by unfold kid;rw[r]
  have M:Av s q (l+1) xs=⟨((l+1:Nat):Int),xs,Bz xs q⟩::Av s q l ys:=by
   rw[Av,List.getElem?_eq_getElem Y];show _::Av s q l (kid s xs[Bz xs q])=_;rw[ae]
  obtain⟨w1,w2,w3⟩:=Xx j i Y
  have N:∃y∈Aw s l ys,y.key=q:=by
   obtain⟨y,g,P⟩:=hf
   rw[w1]at g
   rcases List.mem_append.1 g with g|g
   ·rcases List.mem_append.1 g with g|g
    ·exact absurd P (Km (w2 y g))
    exact⟨y,by rw[<-A3 r];exact g,P⟩
   exact absurd P.symm (Km (w3 y g))
  have ai:Srt (Aw s l ys):=by
   rw[w1]at i
   have:=(List.pairwise_append.1 (List.pairwise_append.1 i).1).2.1
   rwa[A3 r]at this
  have ag:(Aw s (l+1) xs).filter (Ec q)=Aw s (l+1) (xs.take (Bz xs q))++(Aw s l ys).filter (Ec q)++Aw s (l+1) (xs.drop (Bz xs q+1)):=by
   rw[w1,filter_append,filter_append,EZ λy g=>Km (w2 y g),EZ λy g=>(Km (w3 y g)).symm,A3 r]
  have ap:(Av s q (l+1) xs).dropLast=⟨((l+1:Nat):Int),xs,Bz xs q⟩::(Av s q l ys).dropLast:=by
   rw[M,List.dropLast_cons_of_ne_nil (Uj s q l ys)]
  rw[ap,M,Vj (Uj s q l ys)]
  rcases wDq aa l ys _ r ah ai N with⟨e,h1,f⟩|⟨t,l1,held,h1,f⟩
  ·exact .inl ⟨e,by rw[dn,h1],f⟩
  have ao:dn s (Dt (Av s q l ys)) (⟨((l+1:Nat):Int),xs,Bz xs q⟩::(Av s q l ys).dropLast)=wFm t ⟨((l+1:Nat):Int),xs,Bz xs q⟩ l1 held:=by rw[dn,h1]
  rw[ao]
  unfold wFm
  have aw:=ac.len
  by_cases U:l1=[]
  ·subst U
   rw[if_pos rfl]
   have W:held=0:=f.hel.resolve_right λ⟨_,_,x,c,_⟩=>by cases c
   subst W
   have m:∀y∈Gm ⟨((l+1:Nat):Int),xs,Bz xs q⟩,y∈xs:=λy g=>by
    unfold Gm at g
    exact(List.mem_append.1 g).elim mem_of_mem_take mem_of_mem_drop
   obtain⟨e1,e2⟩:=f.ext.shp (j.sub m)
   have ad:(Aw s l ys).filter (Ec q)=[]:=by rw[<-f.all];rfl
   refine .inr ⟨t,_,0,rfl,f.ok,f.ext,e1,?_,?_,(ItL.of d).sub m,.inl rfl,by have:=f.waits;omega,λS R D G=>?_⟩
   ·rw [e2,ag,ad,List.append_nil]
    unfold Gm;rw[A1]
   ·unfold Gm;show (xs.take _++xs.drop _).length<=_;rw[List.length_append,length_take,length_drop];omega
   obtain⟨V,_⟩:=D.closed k G _ _ d (by omega) _ (getElem_mem Y)
   obtain⟨S',k1,O,k3,k4,k5⟩:=f.en S R D V
   refine⟨S',k1,O,λ_ x c=>?_,λe=>absurd e (by omega),k5⟩
   obtain⟨a,zs,b⟩:=D.closed k G _ _ d (by omega) x (m x c)
   exact O _ a (by rw[b];simp)
  rw[if_neg U]
  obtain⟨A,B,X,Z,o⟩:=Vq (t:=t) Y l1 ((l+1:Nat):Int) j f.ext
  rw[o.eq]
  obtain⟨a1,a2⟩:=f.ext.shp (wAy o.nbA)
  obtain⟨b1,b2⟩:=f.ext.shp (wAy o.nbB)
  have C:Shp t l (A++l1++B):=(a1.app f.shp).app b1
  have I:Aw t l (A++l1++B)=Aw s l A++(Aw s l ys).filter (Ec q)++Aw s l B:=by rw[A1,A1,a2,b2,f.all]
  have T:Srt (Aw t l (A++l1++B)):=by
   rw[I]
   have h5:=i
   rw[o.all,A3 r]at h5
   have h6:=(List.pairwise_append.1 (List.pairwise_append.1 h5).1).2.1
   exact List.Pairwise.sublist (((List.Sublist.refl _).append List.filter_sublist).append (List.Sublist.refl _)) h6
  have H:ItL l (A++l1++B):=((wBb o.nbA).app f.itl).app (wBb o.nbB)
  have aq:ys.length<=5:=(Ar r).len
  have F:A++l1++B≠[]:=λe=>U (List.append_eq_nil_iff.1 (List.append_eq_nil_iff.1 e).1).2
  have aj:=wDi (t:=t) (l:=l) (by have:=ac.lev;omega) (λ_=>F) (o.len (by have:=f.len;omega)) H (HN C T)
  have al:((l+1:Nat):Int)-1=(l:Int):=by omega
  dsimp only
  rw[al]
  rcases Nu (held:=held) f.ok aj H.key (So C) (f.hel.imp id λ⟨J,E,x,c,c3⟩=>⟨J,E,x,by simp[c],c3⟩)with⟨e,m1,m2⟩|⟨u,a,m1,m2,m3,m4,m5,m6,m7⟩
  ·exact .inl ⟨e,by rw[m1],m2⟩
  rw[m1];dsimp only;rw[o.set]
  have Q:=f.ext.trans m3
  obtain⟨x1,x2⟩:=Q.shp (j.sub o.subX)
  obtain⟨z1,z2⟩:=Q.shp (j.sub o.subZ)
  obtain⟨j1,j2⟩:=m3.shp C
  have ab:Shp u (l+1) [⟨Bt (A++l1++B),a,[]⟩]:=λx c=>by
   rw[List.mem_singleton.1 c]
   exact⟨_,m4,F,rfl,j1⟩
  have af:BP (Bt (A++l1++B)):=by
   obtain⟨z,zs,e⟩:=List.exists_cons_of_ne_nil F
   rw[e];exact H.key z (by rw[e];simp)
  have L:ItL (l+1) [⟨Bt (A++l1++B),a,[]⟩]:=⟨λy g=>by rw[List.mem_singleton.1 g];exact Um ⟨rfl,m5⟩,λy g=>by rw[List.mem_singleton.1 g];exact af,λ_ y g=>by rw[List.mem_singleton.1 g];exact⟨by show a≠0;omega,rfl⟩⟩
  refine .inr ⟨u,_,a,rfl,m2,Q,(x1.app ab).app z1,?_,?_,(((ItL.of d).sub o.subX).app L).app ((ItL.of d).sub o.subZ),.inr ⟨m5.1,m5.2,⟨Bt (A++l1++B),a,[]⟩,by simp,rfl⟩,by have:=f.waits;omega,λS R D G=>?_⟩
  ·rw [A1,A1,x2,z2,Db,A3 (x:=⟨Bt (A++l1++B),a,[]⟩) m4,j2,I]
   have e3:(Aw s (l+1) xs).filter (Ec q)=Aw s (l+1) X++(Aw s l A++(Aw s l ys).filter (Ec q)++Aw s l B)++Aw s (l+1) Z:=by
    have h5:=i
    rw[o.all,A3 r]at h5⊢
    have e:Aw s (l+1) X++(Aw s l A++Aw s l ys++Aw s l B)++Aw s (l+1) Z=(Aw s (l+1) X++Aw s l A)++Aw s l ys++(Aw s l B++Aw s (l+1) Z):=by simp only[List.append_assoc]
    rw[e]at h5⊢
    rw[VR h5 N];simp only[List.append_assoc]
   rw[e3]
  ·have:=o.many;simp only[List.length_append,List.length_singleton];omega
  obtain⟨V,_⟩:=D.closed k G _ _ d (by omega) _ (getElem_mem Y)
  obtain⟨S1,k1,O,k3,k4,k5⟩:=f.en S R D V
  have am:(l:Int)=0->∀x∈A++l1++B,x.ref≠0->x.ref.toNat∉S1:=λK x c W=>by
   obtain rfl:l=0:=by omega
   rcases List.mem_append.1 c with c|c
   ·rcases List.mem_append.1 c with c|c
    ·obtain ⟨J,E⟩:=wBa o.nbA D G d x c W
     exact k5 _ E J
    exact k4 rfl x c W
   obtain⟨J,E⟩:=wBa o.nbB D G d x c W
   exact k5 _ E J
  obtain⟨S2,n1,n2,n3,n4⟩:=(λh=>m7 S1 R k1 h am) λhl x c=>by
   have K:0<l:=by omega
   rcases List.mem_append.1 c with c|c
   ·rcases List.mem_append.1 c with c|c
    ·obtain ⟨J,zs,E⟩:=wLh o.nbA D G d K x c
     exact⟨O _ J (by rw[E];simp),zs,f.ext.nd _ _ E⟩
    obtain⟨l0,rfl⟩:∃l0,l=l0+1:=⟨l-1,by omega⟩
    obtain⟨zs,e1,_⟩:=f.shp x c
    exact⟨k3 K x c,zs,by rw[e1];congr 2;omega⟩
   obtain⟨J,zs,E⟩:=wLh o.nbB D G d K x c
   exact⟨O _ J (by rw[E];simp),zs,f.ext.nd _ _ E⟩
  have hh:wCh a++R=a::R:=by unfold wCh;rw[if_neg (by omega)];rfl
  refine⟨S2,by rw[hh];exact n1,O.trans f.ext n3,λ_ x c=>?_,λe=>absurd e (by omega),k5.trans f.ext n4⟩
  have hold:∀y∈xs,y.ref.toNat∈S2:=λy g=>by
   obtain⟨J,zs,E⟩:=D.closed k G _ _ d (by omega) y g
   exact n3 _ (O _ J (by rw[E];simp)) (by rw[f.ext.nd _ _ E];simp)
  rcases List.mem_append.1 c with c|c
  ·rcases List.mem_append.1 c with c|c
   ·exact hold x (o.subX x c)
   rw[List.mem_singleton.1 c];exact n2
  exact hold x (o.subZ x c)
set_option maxRecDepth 8000
def Lev(s:Sto):Nat->List It->Prop
 |0,_=>True
 |l+1,xs=>∀x∈xs,∃ys,Ai s x.ref.toNat=some ((l:Int),ys)/\Lev s l ys
variable{s:Sto}
theorem wBi:∀{l:Nat}{xs:List It},Shp s l xs->Lev s l xs
 |0,_,_=>trivial
 |l+1,xs,h=>λx a=>by obtain⟨ys,c,_,_,b⟩:=h x a;exact⟨ys,c,wBi b⟩
variable{lv:Int}{t:Sto}{zs:List It}
theorem WV{r:Nat}(b:Ai s r=some (lv,zs))(h:∀n,n≠r->Ai t n=Ai s n):∀{l:Nat}{xs:List It},(l:Int)<=lv->Lev s l xs->Lev t l xs
 |0,_,_,_=>trivial
 |l+1,xs,g,d=>λx c=>by
  obtain⟨ys,a,f⟩:=d x c
  refine⟨ys,?_,WV b h (by omega) f⟩
  rw[h _ (λe=>by rw[e,b]at a;cases a;omega)];exact a
variable{k:Nat}
theorem Y7{n:Nat}(h:n≠k):Ai (AN s k) n=Ai s n:=by
 have a:seen (AN s k) n=seen s n:=rfl
 unfold Ai
 rw[a]
 show (if (s.now.set k 0).getD n 0=0 then none else _)=_
 rw[Az h]
theorem wGd{xs:List By}(hk:k<xs.length):(xs.getD k 0).toNat<=Do xs:=by
 have:=J3 (v:=0) hk
 have a:(0:By).toNat=0:=rfl
 omega
variable{l:Nat}{r:Int}{ys:List It}
theorem Yt{x:It}(j:Aq t)(T:8<=r/\r<256)(V:8<=x.ref/\x.ref<256)(m:Ai t r.toNat=some (((l+1:Nat):Int),[x]))(o:Ai t x.ref.toNat=some ((l:Int),ys))(K:shareE t x.ref.toNat=0):
  ∃u,leave (AQ t x.ref.toNat) r=some u/\Aq u/\(∀n,n≠r.toNat->Ai u n=Ai t n)/\u.waits=t.waits:=by
 have U:t.now.length=256:=j.2.1.1
 obtain⟨R,z⟩:=HP K
 obtain⟨S,d⟩:=FC (s:=t) (k:=x.ref.toNat) (by omega) K
 have O:=Gu (s:=t) (k:=x.ref.toNat) (by omega) z
 have F:x.ref.toNat≠r.toNat:=λe=>by rw[e,m]at o;cases o
 have c:=HO (s:=t) (k:=x.ref.toNat) j (by omega)
 have M:(t.now.getD x.ref.toNat 0).toNat≠0:=λe=>R (UInt8.toNat.inj e)
 have y:=O x.ref.toNat
 rw[if_pos rfl]at y
 have D:(AQ t x.ref.toNat).now.length=256:=c.2.1.1
 have I:=wGd (xs:=(AQ t x.ref.toNat).now) (k:=x.ref.toNat) (by omega)
 have g:Ai (AQ t x.ref.toNat) r.toNat=some (((l+1:Nat):Int),[x]):=by rw[d];exact m
 have h:=B0 g
 obtain⟨f,P⟩:∃f,Do (AQ t x.ref.toNat).now=f+2:=⟨Do (AQ t x.ref.toNat).now-2,by omega⟩
 unfold leave
 rw[P]
 have H:(AQ t x.ref.toNat).waits=t.waits:=rfl
 generalize AQ t x.ref.toNat=b at *
 by_cases B:b.now.getD r.toNat 0=1
 ·have E:¬(b.now.getD r.toNat 0=0\/((0:Int)<= -1/\((l+1:Nat):Int)≠ -1)):=by
   rintro (e|⟨a,_⟩)
   ·rw [B]at e;cases e
   omega
  rw[Eu h B g,if_neg E,if_pos (by omega)]
  show ∃u,HV b.now (f+1) (AN b r.toNat) ((x.ref,((l+1:Nat):Int)-1)::[])=some u/\_
  have i:(AN b r.toNat).now.getD x.ref.toNat 0=b.now.getD x.ref.toNat 0:=by
   show (b.now.set r.toNat 0).getD _ 0=_;exact Az F
  have Q:(AN b r.toNat).now.length=256:=by show (b.now.set _ _).length=_;rw[List.length_set];exact D
  obtain⟨L,C⟩:=FK (s:=AN b r.toNat) (k:=x.ref.toNat) (by omega) (by rw[i];omega)
  rw[ML (by rw[i];exact FG (by omega)) (by rw[i];intro e;rw[e]at y;have:(1:By).toNat=1:=rfl;omega)]
  refine⟨_,by rw[show HV b.now f (AF (AN b r.toNat) x.ref.toNat) []=some (AF (AN b r.toNat) x.ref.toNat)by cases f<;>rfl],CY (E2 c (by omega)) (by omega),λn G=>?_,?_⟩
  ·rw [C,Y7 G,d]
  exact H
 rw[ML h B]
 have J:(b.now.getD r.toNat 0).toNat≠0:=λe=>h (UInt8.toNat.inj e)
 have N:(b.now.getD r.toNat 0).toNat≠1:=λe=>B (UInt8.toNat.inj (by rw[e];rfl))
 obtain⟨L,C⟩:=FK (s:=b) (k:=r.toNat) (by omega) (by omega)
 refine⟨_,by rw[show HV b.now (f+1) (AF b r.toNat) []=some (AF b r.toNat)from rfl],CY c (by omega),λn _=>by rw[C,d],?_⟩
 exact H
def Kp(s:Sto)(S:List Nat)(t:Sto)(S':List Nat)(R:List Int):Prop:=∀r∈R,8<=r/\r<256->r.toNat∈S->∀(l:Nat) xs,Ai s r.toNat=some ((l:Int),xs)->Shp s l xs->r.toNat∈S'/\Ai t r.toNat=some ((l:Int),xs)/\Shp t l xs/\Aw t l xs=Aw s l xs
theorem Kp.refl(s:Sto)(S:List Nat)(R:List Int):Kp s S s S R:=λr _ _ a l xs c b=>⟨a,c,b,rfl⟩
variable{R:List Int}{S S':List Nat}
theorem Kp.trans{u:Sto}{e:List Nat}(h:Kp s S t S' R)(k:Kp t S' u e R):Kp s S u e R:=λr f g i l xs m j=>by
 obtain⟨a,b,c,d⟩:=h r f g i l xs m j
 obtain⟨z,y,o,n⟩:=k r f g a l xs b c
 exact⟨z,y,o,n.trans d⟩
theorem Kp.ext(h:ExtB s t)(hs:Sub s S S'):Kp s S t S' R:=λr f g b l xs a c=>by
 obtain⟨e,d⟩:=h.shp c
 exact⟨hs _ b (by rw[a];simp),h.nd _ _ a,e,d⟩
theorem Kp.thin(h:Thin s t)(f:En t S R):Kp s S t S R:=λr e g d l xs j i=>by
 obtain⟨a,b,c⟩:=h.tree f e g d j i
 exact⟨d,a,b,c⟩
theorem Kp.sub{R':List Int}(h:Kp s S t S' R)(hs:∀r∈R',r∈R):Kp s S t S' R':=λr a=>h r (hs r a)
theorem WU:∀(n:Nat){t:Sto}{r:Int}{l:Nat}{xs:List It},En t S (r::R)->r.toNat∈S->(8<=r/\r<256)->Ai t r.toNat=some ((l:Int),xs)->Shp t l xs->l<n->
  Ds n t r=.error 70\/∃u c e b,Ds n t r=.ok (u,c)/\En u S (c::R)/\c.toNat∈S/\(8<=c/\c<256)/\Ai u c.toNat=some (((e:Nat):Int),b)/\Shp u e b/\Aw u e b=Aw t l xs/\e<=l/\u.waits=t.waits/\Kp t S u S R
 |0,t,r,l,xs,_,_,_,_,_,hl=>by omega
 |n+1,t,r,l,xs,C,K,B,a,d,hl=>by
  have f:Ds (n+1) t r=.ok (t,r)->Ds (n+1) t r=.error 70\/∃u c e b,Ds (n+1) t r=.ok (u,c)/\En u S (c::R)/\c.toNat∈S/\(8<=c/\c<256)/\Ai u c.toNat=some (((e:Nat):Int),b)/\Shp u e b/\Aw u e b=Aw t l xs/\e<=l/\u.waits=t.waits/\Kp t S u S R:=
   λh=>.inr ⟨t,r,l,xs,h,C,K,B,a,d,rfl,Nat.le_refl _,rfl,Kp.refl _ _ _⟩
  cases l with
  |zero=>exact f (by rw[Ds,a];exact if_pos rfl)
  |succ l=>
   match xs,a,d with
   |[],a,_=>exact f (by rw[Ds,a];exact if_neg (by omega))
   |y::z::zs,a,_=>exact f (by rw[Ds,a];exact if_neg (by omega))
   |[x],a,d=>
    obtain⟨ys,L,h2,h3,h4⟩:=d x (by simp)
    have g:=Ar a
    have J:8<=x.ref/\x.ref<256:=by have:=g.ref x (by simp);have:=g.up (by omega) x (by simp);omega
    have j:Ds (n+1) t r=if shareE t x.ref.toNat=0 then (match leave (AQ t x.ref.toNat) r with
     |none=>.error 8
     |some u=>Ds n u x.ref)else .error (shareE t x.ref.toNat):=by rw[Ds,a];exact if_neg (by omega)
    rw[j]
    rcases J7 (B0 L)with⟨M,_⟩|o
    ·rw [if_pos M]
     have aa:t.now.length=256:=C.ok.2.1.1
     obtain⟨G,i⟩:=FC (s:=t) (k:=x.ref.toNat) (by omega) M
     have H:=C.share J M
     obtain⟨u,k1,F,E⟩:=GF (H.perm (List.Perm.swap _ _ _)) B K (by rw[i];exact a)
     rw[k1]
     obtain⟨m,_⟩:=C.closed _ K _ _ a (by omega) x (by simp)
     obtain⟨O,N⟩:=G.shp h4
     obtain⟨m1,m2,Z⟩:=E.tree F (r:=x.ref) (by simp) J m (G.nd _ _ L) O
     have I:Kp t S u S R:=(Kp.ext G λn hn _=>hn).trans ((Kp.thin E F).sub λr B=>by simp[B])
     rcases WU n F m J m1 m2 (by omega)with h|⟨v,c,e,b,Y,X,W,V,U,T,Q,n8,P,D⟩
     ·exact .inl h
     refine .inr ⟨v,c,e,b,Y,X,W,V,U,T,?_,by omega,?_,I.trans D⟩
     ·rw [Q,Z,N,Db,A3 L]
     rw[P,E.waits];rfl
    rw[if_neg (by rw[o];decide),o];exact .inl rfl
structure DelOk(s t:Sto)(root now:Int)(q:Ky)(R:List Int)(S S':List Nat):Prop where
 en:En t S' (now::R)
 inS:now.toNat∈S'
 rng:8<=now/\now<256
 chk:(fchk t now).2=0
 high:(fchk t now).1<=(fchk s root).1
 all:allT t now=(allT s root).filter (Ec q)
 other:∀r∈R,r.toNat∈S->(fchk s r).2=0->fchk t r=fchk s r/\allT t r=allT s r/\r.toNat∈S'
 waits:(t.waits.length:Int)<=s.waits.length+(fchk s root).1
 apa:Apa s S S'
theorem Kp.tree(h:Kp s S t S' R)(i:Aq t)(m:r∈R)(n:r.toNat∈S)(k:(fchk s r).2=0):fchk t r=fchk s r/\allT t r=allT s r/\r.toNat∈S':=by
 obtain⟨_,l,e,_,lev,xs,g,j,o⟩:=CT k
 obtain⟨a,b,c,d⟩:=h r m ⟨l,e⟩ n lev xs g (Jn j)
 have f:Srt (Aw t lev xs):=by rw[d];exact E6 j
 obtain⟨y,u⟩:=KB i ⟨l,e⟩ b (J2 c f)
 refine⟨?_,?_,a⟩
 ·rw [y,<-o];exact Prod.ext rfl k.symm
 rw[u,d];unfold allT;rw[g];rfl
variable{lev:Nat}{root:Int}{xs:List It}{y:It}
theorem Xo{q:Ky}(c:(fchk s root).2=0)(a:fnd s root q=some y)(b:Ai s root.toNat=some ((lev:Int),xs)):GO s root q=Jh s root (Av s q lev xs):=by
 unfold fnd at a
 rw[b]at a
 change Bg s q lev xs=some y at a
 unfold GO
 rw[if_pos c,b]
 show (match Bg s q ((lev:Int)).toNat xs with|none=>_|some _=>Jh s root (Av s q ((lev:Int)).toNat xs))=_
 rw[Int.toNat_natCast,a]
theorem RC{q:Ky}(c:(fchk s root).2=0)(a:fnd s root q=none):GO s root q=.error 6:=by
 obtain⟨_,_,_,_,lev,xs,b,_,_⟩:=CT c
 unfold fnd at a
 rw[b]at a
 unfold GO
 rw[if_pos c,b]
 change Bg s q lev xs=none at a
 show (match Bg s q ((lev:Int)).toNat xs with|none=>_|some _=>_)=_
 rw[Int.toNat_natCast,a]
theorem wDu{q:Ky}(a:¬(fchk s root).2=0):GO s root q=.error (fchk s root).2:=by unfold GO;rw[if_neg a]
structure TopOk(s u:Sto)(q:Ky)(lev:Nat)(xs:List It)(k:Nat)(a:Int)(L:Nat)(l1:List It):Prop where
 ok:Aq u
 ext:ExtB s u
 nd:Ai u a.toNat=some ((L:Int),l1)
 rng:8<=a/\a<256
 shp:Shp u L l1
 le:L<=lev
 all:Aw u L l1=(Aw s lev xs).filter (Ec q)
 waits:u.waits.length<=s.waits.length+lev+1
 en:∀S R,En s S R->k∈S->∃S',En u S' (a::R)/\a.toNat∈S'/\Sub s S S'/\Apa s S S'
theorem Wn{q:Ky}(o:Aq s)(i:Ai s k=some ((lev:Int),xs))(j:Shp s lev xs)(f:Srt (Aw s lev xs))(hf:∃y∈Aw s lev xs,y.key=q):
  (∃e,HC (((Av s q lev xs).length:Int)-1) (dn s (Dt (Av s q lev xs)) (Av s q lev xs).dropLast)=.error e/\(e=9\/e=70))\/∃u a L l1,HC (((Av s q lev xs).length:Int)-1) (dn s (Dt (Av s q lev xs)) (Av s q lev xs).dropLast)=.ok (u,a)/\TopOk s u q lev xs k a L l1:=by
 have aa:=(Ar i).lev
 have ab:=(Ar i).len
 rcases wDq (q:=q) o lev xs k i j f hf with⟨e,E,b⟩|⟨t,l1,held,E,b⟩
 ·exact .inl ⟨e,by rw[E];rfl,b⟩
 rw[E,EQ]
 obtain⟨L,hL,D,c⟩:∃L:Nat,(if l1=[]then (0:Int)else ((lev+1:Nat):Int)-1)=(L:Int)/\(L≠0->l1≠[])/\(L=lev\/(L=0/\l1=[])):=by
  by_cases h:l1=[]
  ·exact ⟨0,if_pos h,λI=>absurd rfl I,.inr ⟨rfl,h⟩⟩
  exact⟨lev,by rw[if_neg h];omega,λ_=>h,.inl rfl⟩
 have g:Shp t L l1/\Aw t L l1=Aw t lev l1/\ItL L l1:=by
  rcases c with rfl|⟨rfl,rfl⟩
  ·exact ⟨b.shp,rfl,b.itl⟩
  exact⟨λx d=>(not_mem_nil d).elim,rfl,ItL.nil⟩
 obtain⟨F,K,J⟩:=g
 have r:Srt (Aw t L l1):=by rw[K,b.all];exact f.filter _
 have z:=wDi (t:=t) (l:=L) (by rcases c with rfl|⟨rfl,_⟩<;>omega) D (by have:=b.len;omega) J (HN F r)
 show (∃e,Cb t (if l1=[]then 0 else ((lev+1:Nat):Int)-1) l1 held=.error e/\_)\/∃u a L l2,Cb t (if l1=[]then 0 else ((lev+1:Nat):Int)-1) l1 held=.ok (u,a)/\_
 rw[hL]
 rcases Nu (held:=held) b.ok z J.key (So F) b.hel with⟨e,n,m⟩|⟨u,a,n,m,G,X,W,m6,V⟩
 ·exact .inl ⟨e,n,m⟩
 obtain⟨O,N⟩:=G.shp F
 refine .inr ⟨u,a,L,l1,n,m,b.ext.trans G,X,W,O,by rcases c with rfl|⟨rfl,_⟩<;>omega,by rw[N,K,b.all],by have:=b.waits;omega,λS R he hk=>?_⟩
 obtain⟨M,k1,k2,k3,Z,Y⟩:=b.en S R he hk
 have B:(L:Int)=0->∀x∈l1,x.ref≠0->x.ref.toNat∉M:=λI x d=>by
  rcases c with rfl|⟨rfl,rfl⟩
  ·exact Z (by omega) x d
  cases d
 obtain⟨S2,U,T,Q,P⟩:=(λh=>V M R k1 h B) λhl x d=>by
  rcases c with rfl|⟨rfl,rfl⟩
  ·have C:0<L:=by omega
   obtain⟨H,rfl⟩:∃H,L=H+1:=⟨L-1,by omega⟩
   obtain⟨zs,e1,_⟩:=b.shp x d
   exact⟨k3 C x d,zs,by rw[e1];congr 2;omega⟩
  cases d
 exact⟨S2,U,T,k2.trans b.ext Q,Y.trans b.ext P⟩
theorem Xn{q:Ky}(N:(fchk s root).2=0)(B:fnd s root q=some y)(he:En s S (root::R))(T:root.toNat∈S):
  (∃e,GO s root q=.error e/\(e=9\/e=70))\/∃t l S',GO s root q=.ok (t,l)/\DelOk s t root l q R S S':=by
 obtain⟨J,U,i,_,lev,j,b,n,V⟩:=CT N
 have f:=Jn n
 have d:=E6 n
 obtain⟨m,I⟩:=wDe N B
 have C:allT s root=Aw s lev j:=by unfold allT;rw[b];rfl
 rw[C]at m
 rw[Xo N B b]
 unfold Jh
 have aa:=(Ar b).lev
 rcases Wn (q:=q) J b f d ⟨y,m,I⟩with⟨e,H,c⟩|⟨u,a,L,l1,H,c⟩
 ·exact .inl ⟨e,by rw[H];rfl,c⟩
 rw[H]
 obtain⟨S1,n1,n2,n3,n4⟩:=c.en S (root::R) he T
 show (∃e,HD root (Ds 7 u a)=.error e/\_)\/_
 rcases WU 7 n1 n2 c.rng c.nd c.shp (by have:=c.le;omega)with h|⟨v,O,Q,D,m1,m2,P,F,m5,m6,m7,m8,m9,G⟩
 ·exact .inl ⟨70,by rw[h];rfl,.inr rfl⟩
 have z:=(Kp.ext (R:=root::R) c.ext n3).trans G
 obtain⟨Y,X,r3,r4⟩:=z root (by simp) ⟨U,i⟩ T lev j b f
 obtain⟨w,o1,k,E⟩:=GF (m2.perm (List.Perm.swap _ _ _)) ⟨U,i⟩ Y X
 obtain⟨p1,p2,Z⟩:=E.tree k (r:=O) (by simp) F P m5 m6
 have g:Aw w Q D=(Aw s lev j).filter (Ec q):=by rw[Z,m7,c.all]
 obtain⟨W,f2⟩:=KB k.ok F p1 (J2 p2 (by rw[g];exact d.filter _))
 refine .inr ⟨w,O,S1,?_,k,P,F,by rw[W],by rw[W,V];have:=c.le;show (Q:Int)+1<=_;omega,by rw[f2,g,C],λr o M K=>?_,?_,n4⟩
 ·show HD root (Ds 7 u a)=_;rw[m1];show (match leave v root with|none=>_|some u=>_)=_;rw[o1]
 ·exact ((z.sub (R':=R) λr o=>by simp[o]).trans ((Kp.thin E k).sub λr o=>by simp[o])).tree k.ok o M K
 rw[E.waits,m9,V];have:=c.waits;omega
end Go.Proofs.YtdahhoicackcaaaGreat
