/- Walks: a node left on a bench. No statement of the seat is proved here. -/
import Derived.Test.YtdahhoicackcaaaGreatZPutf
import Derived.Test.YtdahhoicackcaaaGreatZHn
import Derived.Test.YtdahhoicackcaaaGreatZSp
namespace Go.Proofs.YtdahhoicackcaaaGreat
open Go.Proofs.Tryz
set_option linter.unusedSimpArgs false
set_option linter.unusedVariables false
set_option linter.unusedSectionVars false
open Go.RowKit
set_option maxRecDepth 8000
def Shp(s:Sto):Nat->List It->Prop
 |0,xs=>∀x∈xs,x.ref=0\/¬s.now.getD x.ref.toNat 0=0
 |l+1,xs=>∀x∈xs,∃ys,Ai s x.ref.toNat=some ((l:Int),ys)/\ys≠[]/\Bt ys=x.key/\Shp s l ys
variable{l:Nat}{s:Sto}{xs ys:List It}
theorem Shp.sub(h:Shp s l xs)(hs:∀y∈ys,y∈xs):Shp s l ys:=by
 cases l with
 |zero=>exact λx a=>h x (hs x a)
 |succ l=>exact λx a=>h x (hs x a)
theorem Shp.app(h:Shp s l xs)(k:Shp s l ys):Shp s l (xs++ys):=by
 cases l with
 |zero=>exact λx a=>(List.mem_append.1 a).elim (h x) (k x)
 |succ l=>exact λx a=>(List.mem_append.1 a).elim (h x) (k x)
theorem Shp.one(h:Shp s l xs){x:It}(b:x∈xs):Shp s l [x]:=h.sub λy a=>by rw[List.mem_singleton.1 a];exact b
theorem A1(s:Sto)(l:Nat)(xs ys:List It):Aw s l (xs++ys)=Aw s l xs++Aw s l ys:=List.flatMap_append
theorem Dh(s:Sto)(l:Nat)(x:It)(xs:List It):Aw s l (x::xs)=allOne s l x++Aw s l xs:=List.flatMap_cons
theorem Db(s:Sto)(l:Nat)(x:It):Aw s l [x]=allOne s l x:=by rw[Dh];show _++[]=_;rw[List.append_nil]
theorem B2(s:Sto)(xs:List It):Aw s 0 xs=xs:=by
 unfold Aw
 induction xs with
 |nil=>rfl
 |cons x xs a=>rw[List.flatMap_cons,a];rfl
variable{lv:Int}
theorem A3{x:It}(h:Ai s x.ref.toNat=some (lv,ys)):allOne s (l+1) x=Aw s l ys:=by
 have:kid s x=ys:=by grind[kid]
 rw[allOne,this];rfl
theorem NN:∀{l:Nat}{x:It},Shp s l [x]->∃y r,allOne s l x=y::r/\y.key=x.key
 |0,x,_=>⟨x,[],rfl,rfl⟩
 |l+1,x,h=>by
  obtain⟨ys,d,c,b,a⟩:=h x (by simp)
  obtain⟨z,zs,rfl⟩:=List.exists_cons_of_ne_nil c
  obtain⟨y,r,f,e⟩:=NN (a.one (x:=z) (by simp))
  exact⟨y,r++Aw s l zs,by rw[A3 d,Dh,f];rfl,by rw[e];exact b⟩
theorem Kg{x:It}(h:Shp s l [x]):∃y∈allOne s l x,y.key=x.key:=by
 grind[NN]
theorem HN:∀{xs:List It},Shp s l xs->Srt (Aw s l xs)->Srt xs
 |[],_,_=>List.Pairwise.nil
 |x::xs,h,d=>by
  rw[Dh]at d
  have e:=List.pairwise_append.1 d
  refine List.pairwise_cons.2 ⟨λz c=>?_,HN (h.sub λy f=>List.mem_cons_of_mem _ f) e.2.1⟩
  obtain⟨a,i,k⟩:=Kg (h.one (x:=x) (by simp))
  obtain⟨b,g,j⟩:=Kg (h.one (x:=z) (by simp[c]))
  have:=e.2.2 a i b (List.mem_flatMap.2 ⟨z,c,g⟩)
  rwa[k,j]at this
theorem wCq(m:∀x,Shp s l [x]->Srt (allOne s l x)->(AL s l x).is=true/\(AL s l x).first=x.key/\∃y∈allOne s l x,(AL s l x).last=y.key):
  ∀(xs:List It)(o:Option Sp),Shp s l xs->Srt (Aw s l xs)->(∀p,o=some p->p.is=true/\∀y∈Aw s l xs,Ap p.last y.key=true)->(o=none->xs≠[])->
   (A2 (AL s l) o xs).is=true/\(A2 (AL s l) o xs).first=(match o with|none=>Bt xs|some p=>p.first)/\(xs≠[]->∃y∈Aw s l xs,(A2 (AL s l) o xs).last=y.key)
 |[],o,_,_,c,E=>by
  cases o with
  |none=>exact absurd rfl (E rfl)
  |some p=>exact⟨(c p rfl).1,rfl,λh=>absurd rfl h⟩
 |x::xs,o,k,j,c,_=>by
  rw[Dh]at j c
  have d:=List.pairwise_append.1 j
  have i:=k.one (x:=x) (by simp)
  obtain⟨n,g,y,b,f⟩:=m x i d.1
  obtain⟨z,B,F⟩:=Kg i
  have a:As (AL s l x) o x=true:=by
   unfold As
   rw[n,g]
   cases o with
   |none=>simp
   |some p=>
    have:=(c p rfl).2 z (List.mem_append_left _ B)
    rw[F]at this
    simp[this]
  rw[A2,if_pos a]
  obtain⟨u,t,r⟩:=wCq m xs (some (A7 (AL s l x) o)) (k.sub λy b=>List.mem_cons_of_mem _ b) d.2.1 (λp e=>by
   cases e
   exact⟨rfl,λw C=>by show Ap (AL s l x).last w.key=true;rw[f];exact d.2.2 y b w C⟩) (λe=>by cases e)
  refine⟨u,?_,λ_=>?_⟩
  ·rw [t]
   cases o with
   |none=>exact g
   |some p=>rfl
  rw[Dh]
  cases xs with
  |nil=>exact⟨y,List.mem_append_left _ b,f⟩
  |cons w G=>
   obtain⟨v,D,e⟩:=r (by simp)
   exact⟨v,List.mem_append_right _ D,e⟩
theorem wAo:∀(l:Nat)(x:It),Shp s l [x]->Srt (allOne s l x)->(AL s l x).is=true/\(AL s l x).first=x.key/\∃y∈allOne s l x,(AL s l x).last=y.key
 |0,x,h,_=>by
  refine⟨?_,rfl,x,by simp[allOne],rfl⟩
  show (decide (x.ref=0)||decide (0<((s.now.getD x.ref.toNat 0).toNat:Int)))=true
  rcases h x (by simp)with h|h
  ·simp [h]
  have:(s.now.getD x.ref.toNat 0).toNat≠0:=λe=>h (UInt8.toNat.inj e)
  rw[Bool.or_eq_true];exact .inr (decide_eq_true (by omega))
 |l+1,x,h,b=>by
  obtain⟨ys,c,a,j,i⟩:=h x (by simp)
  rw[A3 c]at b⊢
  have e:AL s (l+1) x=A2 (AL s l) none ys:=by simp only[AL,c];exact if_pos ⟨trivial,a⟩
  rw[e]
  obtain⟨g,f,d⟩:=wCq (λx=>wAo l x) ys none i b (λp e=>by cases e) (λ_=>a)
  exact⟨g,by rw[f];exact j,d a⟩
theorem J2(h:Shp s l xs)(hs:Srt (Aw s l xs)):AV s l xs:=λa=>
 (wCq (λx=>wAo l x) xs none h hs (λp e=>by cases e) (λ_=>a)).1
variable{k:Ky}
theorem Uw{one:Sp}(h:one.first=k):∀(o:Option Sp),(A7 one o).first=(match o with|none=>k|some p=>p.first)
 |none=>h
 |some p=>rfl
variable{f:It->Sp}
theorem TA:∀{xs:List It}{o:Option Sp},(A2 f o xs).is=true->xs≠[]->(∀x∈xs,(f x).is=true/\(f x).first=x.key)->(A2 f o xs).first=(match o with|none=>Bt xs|some p=>p.first)
 |x::xs,o,h,_,a=>by
  have e:=Uw (a x (by simp)).2 o
  rw[A2]at h⊢
  split at h
  ·rename_i c
   rw[if_pos c]
   cases xs with
   |nil=>exact e
   |cons y ys=>exact(TA h (by simp) (λz b=>a z (List.mem_cons_of_mem _ b))).trans e
  cases h
theorem Jn:∀{l:Nat}{xs:List It},AV s l xs->Shp s l xs
 |0,xs,h=>λx b=>by
  have a:=(Gg (h (List.ne_nil_of_mem b)) x b).1
  change (decide (x.ref=0)||decide (0<((s.now.getD x.ref.toNat 0).toNat:Int)))=true at a
  rw[Bool.or_eq_true]at a
  rcases a with a|a
  ·exact .inl (of_decide_eq_true a)
  exact .inr λe=>by rw[e]at a;exact absurd (of_decide_eq_true a) (by decide)
 |l+1,xs,h=>λx b=>by
  have a:=Gg (h (List.ne_nil_of_mem b)) x b
  obtain⟨ys,j,c,g⟩:=Q2 a.1
  have d:AV s l ys:=λ_=>by rw[<-g];exact a.1
  refine⟨ys,j,c,?_,Jn d⟩
  have i:=TA (d c) c (Gg (d c))
  have f:=a.2
  rw[g,i]at f
  exact f
def C5(x:It)(l:List It):List It:=(l.filter λy=>Ap y.key x.key)++x::(l.filter λy=>Ap x.key y.key)
variable{A:List It}
theorem Ku{x:It}{B C:List It}(b:∀y∈A,Ap y.key x.key=true)(hC:∀y∈C,Ap x.key y.key=true):C5 x (A++B++C)=A++C5 x B++C:=by
 unfold C5
 have f:(A.filter λy=>Ap y.key x.key)=A:=List.filter_eq_self.2 b
 have e:(A.filter λy=>Ap x.key y.key)=[]:=List.filter_eq_nil_iff.2 λy a=>by
  have:Ap x.key y.key=false:=Jz (b y a)
  rw[this];decide
 have d:(C.filter λy=>Ap x.key y.key)=C:=List.filter_eq_self.2 hC
 have c:(C.filter λy=>Ap y.key x.key)=[]:=List.filter_eq_nil_iff.2 λy a=>by
  have:Ap y.key x.key=false:=Jz (hC y a)
  rw[this];decide
 grind
theorem Kt{x:It}{l:List It}(h:Srt l):Srt (C5 x l):=by
 refine List.pairwise_append.2 ⟨h.filter _,List.pairwise_cons.2 ⟨λy c=>(List.mem_filter.1 c).2,h.filter _⟩,λa e b d=>?_⟩
 grind[Kl]
theorem Da{q:Ky}:∀{xs:List It},Srt xs->(∀z∈xs.take (place xs q),Ap z.key q=true)/\∀z∈xs.drop (place xs q),Ap z.key q=false
 |[],_=>⟨λz a=>(by simp at a),λz a=>(by simp at a)⟩
 |x::xs,h=>by
  have e:=List.pairwise_cons.1 h
  obtain⟨g,f⟩:=Da (q:=q) e.2
  by_cases c:Ap x.key q=true
  ·have d:place (x::xs) q=place xs q+1:=by unfold place;rw[List.filter_cons_of_pos (by simpa using c),List.length_cons]
   rw[d,List.take_succ_cons,List.drop_succ_cons]
   refine⟨λz a=>?_,f⟩
   rcases List.mem_cons.1 a with rfl|a
   ·exact c
   exact g z a
  have b:∀z∈x::xs,Ap z.key q=false:=λz a=>by
   rcases List.mem_cons.1 a with rfl|a
   ·simpa using c
   exact HZ (wMu c) (Jz (e.1 z a))
  have d:place (x::xs) q=0:=U1 b
  rw[d]
  exact⟨λz a=>(by simp at a),λz a=>b z (by simpa using a)⟩
set_option maxRecDepth 8000
set_option maxHeartbeats 40000000
theorem bwi(a:Option Addr)(n c:Nat)(M:Mem):
  SpecL prog 179 #[.slice a n c] M [] λu f g=>∃b,u=.func (.func 211) #[] #[pB b]/\f b=some (.cells #[.slice a n c] 133 (0,0))/\g=[]:=by
 refine sB func179 ntmps179 ?_;intro W
 refine gh ?_
 refine lh (Bf (cs:=[.slice a n c]) rfl rfl rfl rfl) ?_;rintro _ _ _ ⟨e,rfl,rfl,rfl⟩
 refine gh ?_
 refine AP e (by simp) ?_
 intro i d h
 refine gr ?_
 grind
theorem wEu(b:Nat)(a:Option Addr)(c:Nat)(xs:List (It×Value))(M:Mem)(G:M b=some (.cells #[.slice a xs.length c] 133 (0,0)))(hs:SM M a (xs.flatMap Ac))(R:xs.length<=1000000)(l:Nat)(J C:List ((It×Value)×Nat)->Mem->Lc->Prop)(g:Mem)(u:Lc)(z:MLe M g)(H:∀pre y M2 L2,MLe g M2->J pre M2 L2->pre++[y]<+:bw xs 0->DD prog l ((λp:(It×Value)×Nat=>[.int .i64 p.2,.agg (Ac p.1).toArray]) y).toArray M2 L2 λv j L'=>(v=.bool true/\J (pre++[y]) j L')\/(v=.bool false/\C (pre++[y]) j L'))(I:J [] g u):
  SpecL prog 211 #[.func (.yield l) #[] #[],pB b] g u λ_ j L'=>J (bw xs 0) j L'\/∃pre,pre<+:bw xs 0/\C pre j L':=by
 have n:∀{M2:Mem}(L:Lc),MLe g M2->CJ M2 L b 0 (.slice a xs.length c):=λL h=>(CM.cj ⟨_,_,_,h _ _ (z _ _ G),rfl⟩ L)
 refine sB func211 ntmps211 ?_;intro W
 refine gh ?_
 refine lq (AE rfl rfl rfl rfl (n _ (MLe.refl _))) ?_
 refine gh ?_
 refine Cz (α:=Int×Mem×Lc) (λx=>[(0,.func (.yield l) #[] #[]),(1,pB b),(3,.int .i64 x.1)]) (λx=>x.2.1) (λx=>x.2.2) (λx=> -1<=x.1/\x.1<xs.length/\MLe g x.2.1/\J (bw xs (x.1+1).toNat) x.2.1 x.2.2) (λx=>(x.1+1).toNat) ((xs.length:Int)-1,g,u) ⟨by show -1<=(xs.length:Int)-1;omega,by show (xs.length:Int)-1<xs.length;omega,MLe.refl _,by show J (bw xs ((xs.length:Int)-1+1).toNat) _ _;rw[show ((xs.length:Int)-1+1).toNat=xs.length by omega,PA];exact I⟩ ?_
 rintro⟨i,N,O⟩ ⟨r,F,d,o⟩
 try dsimp only at r F d o⊢
 refine gj (λs=>?_) λs=>?_
 ·refine gh ?_
  obtain⟨k,rfl⟩:∃k:Nat,i=k:=⟨i.toNat,by omega⟩
  have f:k<xs.length:=by omega
  obtain⟨Q,P,K,D⟩:=hs.open (by intro e;have:=congrArg List.length e;rw[Aj Ac 5 Ad,List.length_nil]at this;omega)
  subst K
  refine lq (AE rfl rfl rfl rfl (n _ d)) ?_
  refine gh ?_
  refine lq (Bb (cs:=Ac xs[k]) rfl rfl rfl rfl rfl (λi v E=>((Cs Ac 5 Ad D (show xs[k]? =some xs[k]by simp[f]) i v E).mono (z.trans d)).cj _)) ?_
  refine lh (Hu rfl rfl rfl rfl (H (bw xs (k+1)) (xs[k],k) N O d (by rwa[show ((k:Int)+1).toNat=k+1 by omega]at o) (by rw[<-Ew xs f];exact C0 xs k))) ?_;rintro _ j _ ⟨t,B,rfl,m⟩
  rw[<-Ew xs f]at m
  rcases m with⟨rfl,m⟩|⟨rfl,m⟩
  ·refine gh ?_
   refine Bw ((k:Int)-1,j,B) ⟨by show -1<=(k:Int)-1;omega,by show (k:Int)-1<xs.length;omega,d.trans t,by show J (bw xs ((k:Int)-1+1).toNat) _ _;rw[show ((k:Int)-1+1).toNat=k by omega];exact m⟩
  refine gh ?_
  refine AD (L':=B) (by simp) ?_
  refine JV (rs:=[]) rfl .nil ?_
  grind[C0]
 refine gh ?_
 refine Ug ?_
 refine JV (rs:=[]) rfl .nil ?_
 grind
theorem T2(b:Nat)(a:Option Addr)(c:Nat)(xs:List (It×Value))(M:Mem)(e:M b=some (.cells #[.slice a xs.length c] 133 (0,0)))(hs:SM M a (xs.flatMap Ac))(d:xs.length<=1000000):Iter prog 211 [pB b] M (λp:(It×Value)×Nat=>[.int .i64 p.2,.agg (Ac p.1).toArray]) (bw xs 0):=
 λl J k i j f g h=>wEu b a c xs M e hs d l J k i j f g h
set_option maxRecDepth 8000
section
variable{P:Program}{Q:Exit->Act->World->Prop}
def Wi{α:Type}(n:Nat)(r:Option Nat)(E:Ent)(Di:α->List Nat)(Fi:α->Fr)(Mi:α->Mem)(Li:α->Lc)(φ:α->Prop)(μ:α->Nat)(x:α)(a:Act)(w:World):Prop:=
 ∃y,φ y/\μ y<μ x/\Has ⟨n,(Di y).map K5,r⟩ (Fi y) a/\St E (Mi y) (Li y) w
theorem wBw{α:Type}{n:Nat}{r:Option Nat}{E:Ent}{c:Code}(o:α->List Nat)(k:α->Fr)(i:α->Mem)(j:α->Lc)(g:α->Prop)(s:α->Nat)
  (h:∀x,g x->JC P ⟨n,(o x).map K5,r⟩ c (k x) E (i x) (j x) (Exit.then (Wi n r E o k i j g s x) Q)) (x:α) (M:g x):JC P ⟨n,(o x).map K5,r⟩ (.loop c) (k x) E (i x) (j x) Q:=by
 classical
 intro a w S N
 let I:Act->World->Nat->Prop:=λa w m=>∃x,g x/\Has ⟨n,(o x).map K5,r⟩ (k x) a/\St E (i x) (j x) w/\s x=m
 let m:Act->World->Nat:=λa w=>if h:∃n,I a w n then Classical.choose (Te h)else 0
 have O:∀a w n,I a w n->m a w<=n:=λa w n F=>by
  have f:∃n,I a w n:=⟨n,F⟩
  simp only[m,dif_pos f];exact(Classical.choose_spec (Te f)).2 _ F
 refine wpIn_loop (λa w=>∃n,I a w n) m ⟨_,x,M,S,N,rfl⟩ λa w f=>?_
 have d:I a w (m a w):=by simp only[m,dif_pos f];exact(Classical.choose_spec (Te f)).1
 obtain⟨y,L,C,B,K⟩:=d
 refine wpIn_mono (h y L a w C B) λe H D b=>?_
 cases e with
 |normal=>
  obtain⟨z,J,R,u,t⟩:=b
  have G:I H D (s z):=⟨z,J,u,t,rfl⟩
  exact⟨⟨_,G⟩,by have:=O H D _ G;omega⟩
 |exit T=>exact b
 |goto l=>exact b
 |ret=>exact b
 |panic U=>exact b
 |outgrown=>exact b
theorem YA{α:Type}{n:Nat}{D:List Deferred}{r:Option Nat}{E:Ent}{c:Code}{F:Fr}{M:Mem}{L:Lc}(g:α->List Nat)(f:α->Fr)(d:α->Mem)(e:α->Lc)(b:α->Prop)(i:α->Nat)(x:α)(m:D=(g x).map K5)(hk:Keep F (f x))(j:b x)(hs:∀w,St E M L w->St E (d x) (e x) w)
  (h:∀x,b x->JC P ⟨n,(g x).map K5,r⟩ c (f x) E (d x) (e x) (Exit.then (Wi n r E g f d e b i x) Q)):JC P ⟨n,D,r⟩ (.loop c) F E M L Q:=λa w l k=>
 wBw g f d e b i h x j a w (by rw[<-m];exact l.keep hk) (hs w k)
theorem Hs{α:Type}{n:Nat}{D:List Deferred}{r:Option Nat}{E:Ent}{F:Fr}{M:Mem}{L:Lc}{h:α->List Nat}{g:α->Fr}{e:α->Mem}{f:α->Lc}{d:α->Prop}{a:α->Nat}{x:α}(y:α)(k:D=(h y).map K5)(hk:Keep F (g y))(b:d y)(c:a y<a x)
  (hs:∀w,St E M L w->St E (e y) (f y) w):JQ ⟨n,D,r⟩ .normal F E M L (Exit.then (Wi n r E h g e f d a x) Q):=λ_ w j i=>⟨y,b,c,by rw[<-k];exact j.keep hk,hs w i⟩
end
def Vc(D:List Nat):Lc:=D.map λd=>(d,.deferred (some []))
variable{E:Ent}{F:Fr}{L2:Lc}{M:Mem}{P:Program}{fn:Func}{n:Nat}{post:Value->Mem->Lc->Prop}
theorem Th:∀{D:List Nat}{L:Lc},L.Perm (Vc D++L2)->JQ ⟨n,[],none⟩ .ret F E M L2 (Bq P fn E post)->JQ ⟨n,D.map K5,none⟩ .ret F E M L (Bq P fn E post)
 |[],L,a,h=>AK (λw b=>b.perm a) h
 |d::D,L,a,h=>Bi (L2:=Vc D++L2) a (Th (List.Perm.refl _) h)
variable{D:List Nat}{L:Lc}
theorem Ek(hs:∀w,St E M L w->St E M (Vc D++L2) w)(h:JQ ⟨n,[],none⟩ .ret F E M L2 (Bq P fn E post)):JQ ⟨n,D.map K5,none⟩ .ret F E M L (Bq P fn E post):=
 AK hs (Th (List.Perm.refl _) h)
variable{α:Type}
theorem permC{A B:List α}(h:∀f:α->Nat,(A.map f).sum=(B.map f).sum):A.Perm B:=by
 classical
 have e:∀(a:α)(l:List α),(l.map λx=>if x=a then 1 else 0).sum=l.count a:=λa l=>by
  induction l with
  |nil=>rfl
  |cons x l b=>
   rw[List.map_cons,List.sum_cons,b,List.count_cons,Nat.add_comm]
   congr 1
   by_cases c:x=a<;>simp[c]
 grind
variable{A B:Lc}
theorem BW(h:∀f:Nat×Obj->Nat,(A.map f).sum=(B.map f).sum:=by intro f;simp only[Vc,cE,List.getElem_toArray,List.getElem_cons_zero,List.getElem_cons_succ,List.map_append,List.map_cons,List.map_nil,List.sum_append,List.sum_cons,List.sum_nil]<;>omega):A.Perm B:=permC h
theorem St.dropAt{p:Nat×Obj}{w:World}(h:St E M (A++(p::B)) w):St E M (A++B) w:=h.fewer (List.Sublist.append_left (List.sublist_cons_self _ _) _)
theorem St.tl{p:Nat×Obj}{w:World}(h:St E M (p::B) w):St E M B w:=h.fewer (List.sublist_cons_self _ _)
variable{R:Lc}{e:TypeId}{g:Nat}
theorem Own.pop{m d a:Nat}{A B:List Value}(h:Own (.slice (some ⟨g,0,none⟩) (m+1) d) R e a (m+1) (A++B))(f:A.length=m*a):Own (.slice (some ⟨g,0,none⟩) m d) R e a m A:=by
 obtain⟨o,c,b,k,rfl,n,j,i,l⟩:=h.open (by omega)
 cases k
 refine⟨f,.inr ⟨g,d,b,rfl,rfl,by omega,j,i,?_⟩⟩
 have:b.toList.take (m*a)=(b.toList.take ((m+1)*a)).take (m*a):=by
  grind
 grind
section
variable{P:Program}{N:Fs}{F:Fr}{W:World}{X:List Nat}{M0 M:Mem}{L:Lc}{Q:Exit->Act->World->Prop}
theorem N5{d:Exit}{c:Obj}{L2:Lc}(g:Nat)[hp:Rm g c L L2](j:∀x∈X,x∈L2.map (·.1))(h:∀M',MLe M M'->M' g=some c->JQ N d F ⟨W,X,M0⟩ M' L2 Q):JQ N d F ⟨W,X,M0⟩ M L Q:=by
 intro a w k f
 have b:=f.perm hp.perm
 have i:g∉X:=λe=>(List.nodup_cons.1 b.nodup).1 (j g e)
 obtain⟨n,m,l⟩:=St.freeze' i b
 exact h _ m l a w k n
end
variable{W:World}{X:List Nat}
theorem NP(c:∀x∈X,x<W.heap.size)(h:∀p∈R,W.heap.size<=p.1):∀p∈R,p.1∉X:=λp b a=>by
 have:=c _ a;have:=h p b;omega
section
variable{P:Program}{ops:Array Oper}{N:Fs}{F:Fr}{W:World}{X:List Nat}{M0 M:Mem}{L:Lc}{Q:Exit->Act->World->Prop}{rest:List Oper}
theorem Own.freezeY{v:Value}{R L2:Lc}{e:TypeId}{b n:Nat}{xs:List Value}(j:Own v R e b n xs)(k:∀x∈X,x∈L2.map (·.1)){w:World}(c:St ⟨W,X,M0⟩ M (R++L2) w):∃h a d,MLe M h/\v=.slice a n d/\n<=d/\SM (Cf M h) a xs/\St ⟨W,X,M0⟩ h L2 w:=by
 have i:=c.nodup
 rw[List.map_append]at i
 have l:=(List.nodup_append.1 i).2.2
 exact j.freezeN (λp g f=>l _ (List.mem_map_of_mem g) _ (k _ f) rfl) c
theorem wJf{v:Value}{R L2:Lc}{e:TypeId}{c n:Nat}{xs:List Value}(l:Own v R e c n xs)[hp:Pick R L L2](m:∀x∈X,x∈L2.map (·.1))
  (h:∀M' a b,MLe M M'->v=.slice a n b->n<=b->SM (Cf M M') a xs->JL P ops N Q rest F ⟨W,X,M0⟩ M' L2):JL P ops N Q rest F ⟨W,X,M0⟩ M L:=by
 intro a w o k
 obtain⟨M',r,b,j,i,g,f,d⟩:=l.freezeY m (k.perm hp.perm)
 exact h M' r b j i g f a w o d
end
set_option maxRecDepth 8000
set_option maxHeartbeats 40000000
abbrev TO:TypeId:=267
def Fc(p:Int×Int):List Value:=[.int .i64 p.1,.int .i64 p.2]
theorem Ym(p:Int×Int):(Fc p).length=2:=rfl
variable{k:Nat}
theorem J3{xs:List By}{v:By}(h:k<xs.length):Do (xs.set k v)+(xs.getD k 0).toNat=Do xs+v.toNat:=by
 induction xs generalizing k with
 |nil=>simp at h
 |cons x xs a=>
  cases k with
  |zero=>simp[Do];omega
  |succ k=>
   have:=a (k:=k) (by simpa using h)
   simp only[Do,List.set_cons_succ,List.map_cons,List.sum_cons,List.getD_cons_succ]at this⊢
   omega
variable{s:Sto}
theorem CY(h:Aq s)(hk:8<=k):Aq (AF s k):=⟨h.1,Gn hk h.2.1,h.2.2⟩
theorem E2(h:Aq s)(hk:8<=k):Aq (AN s k):=⟨h.1,Gn hk h.2.1,h.2.2⟩
theorem Fg(h:k<s.now.length)(a:s.now.getD k 0≠0):Do (AF s k).now+1=Do s.now:=by
 have d:=J3 (v:=s.now.getD k 0-1) h
 obtain⟨c,b⟩:=RD a
 show Do (s.now.set k (s.now.getD k 0-1))+1=_
 omega
theorem Fq(h:k<s.now.length)(b:(s.now.getD k 0).toNat=1):Do (AN s k).now+1=Do s.now:=by
 have a:=J3 (v:=0) h
 have:(0:By).toNat=0:=rfl
 show Do (s.now.set k 0)+1=_
 omega
variable{j:Nat}{xs:List It}
theorem DI(h:j<xs.length):BT (xs.drop j) s=if xs[j].ref=0 then BT (xs.drop (j+1)) s else if looseE s xs[j].ref.toNat=0 then BT (xs.drop (j+1)) (AF s xs[j].ref.toNat)else none:=by
 rw[List.drop_eq_getElem_cons h,BT]
theorem UI(v:Value)(xs:List By)(R:Lc)(M:Mem)(h:Own v R 5 1 xs.length (Ab xs))(i:xs.length<=100000):SpecL prog 178 #[v] M R λu k d=>∃e,d=R++e/\Own u e 5 1 xs.length (Ab xs):=by
 have:=SpecL.lend (R:=R) (L:=[]) (post:=λu k d=>Own u d 5 1 xs.length (Ab xs)) (λb l=>Hd v xs (Gq M R) (by
  obtain⟨a,c,rfl,j,f⟩:=h.lent (M:=Gq M R) (λp g=>GT b g)
  exact⟨a,c,rfl,j,f⟩) i)
 rw[List.append_nil]at this
 refine this.mono ?_
 grind
variable{A:List Value}{L R:Lc}{M:Mem}{e:TypeId}{g:Nat}
theorem wHj{m a:Nat}{p:Int×Int}(c:Own (.slice (some ⟨g,0,none⟩) (m+1) a) R e 2 (m+1) (A++Fc p))(d:∀q∈R,q∈L)(f:A.length=m*2):∀i v,(Fc p)[i]? =some v->CJ M L g (0+(m:Int).toNat*2+i) v:=λi v b=>
 c.cj d (by rw[List.getElem?_append_right (by omega),show 0+(m:Int).toNat*2+i-A.length=i by omega];exact b)
theorem ZH(st:List (Int×Int))(p:Int×Int):(p::st).reverse.flatMap Fc=st.reverse.flatMap Fc++Fc p:=by
 grind
theorem wGh(st:List (Int×Int)):(st.reverse.flatMap Fc).length=st.length*2:=by rw[Aj Fc 2 Ym,List.length_reverse]
structure LvS where
 s:Sto
 st:List (Int×Int)
 f:Nat
 D:List Nat
 M:Mem
 L:Lc
 R:Lc
 v:Value
structure LvI(bb:Nat)(M1:Mem)(first:List By)(g0:Option Sto)(x:LvS):Prop where
 ok:Aq x.s
 mle:MLe M1 x.M
 bo:BOwn x.M bb x.L x.s
 own:Own x.v x.R TO 2 x.st.length (x.st.reverse.flatMap Fc)
 rng:∀p∈x.st,8<=p.1/\p.1<256
 eq:g0=HV first x.f x.s x.st
 fuel:Do x.s.now<=x.f
 big:x.st.length+5*x.f<=400000
variable{f:Nat}{l:Int}
theorem wHx{first:List By}{k:Int}{st:List (Int×Int)}(h:s.now.getD k.toNat 0=0):HV first f s ((k,l)::st)=none:=by
 cases f with
 |zero=>rfl
 |succ f=>rw[HV,if_pos h]
theorem ML{first:List By}{k:Int}{st:List (Int×Int)}(h:¬s.now.getD k.toNat 0=0)(a:s.now.getD k.toNat 0≠1):HV first (f+1) s ((k,l)::st)=HV first f (AF s k.toNat) st:=by grind[HV]
theorem wHy{first:List By}{k:Int}{st:List (Int×Int)}(h:¬s.now.getD k.toNat 0=0)(b:s.now.getD k.toNat 0=1)(a:Ai s k.toNat=none):HV first (f+1) s ((k,l)::st)=none:=by grind[HV]
variable{lv:Int}
theorem Eu{first:List By}{k:Int}{st:List (Int×Int)}(h:¬s.now.getD k.toNat 0=0)(b:s.now.getD k.toNat 0=1)(a:Ai s k.toNat=some (lv,xs)):HV first (f+1) s ((k,l)::st)=if first.getD k.toNat 0=0\/(0<=l/\lv≠l)then none
  else if 0<lv then HV first f (AN s k.toNat) (ED lv xs++st)
  else match BT xs (AN s k.toNat)with
   |none=>none
   |some t=>HV first f t st:=by rw[HV,if_neg h,if_neg (by simpa using b),a];rfl
theorem Wr:∀(xs:List By),Do xs<=255*xs.length
 |[]=>Nat.zero_le _
 |x::xs=>by
  have a:=Wr xs
  have b:=x.toNat_lt
  simp only[Do,List.map_cons,List.sum_cons,List.length_cons]at a⊢
  omega
theorem Nk{xs:List By}(h:xs.getD k 0≠0):0<Do xs:=by
 have a:k<xs.length:=Classical.byContradiction λb=>h (by simp[List.getD,show xs.length<=k by omega])
 have:=J3 (v:=0) a
 have c:(xs.getD k 0).toNat≠0:=λe=>h (UInt8.toNat.inj e)
 grind
variable{Rw:Lc}{a:Option Addr}{bb:Nat}{bv:Value}
theorem BOwn.put{c:Nat}{b d:Value}{e:Lc}{t:Sto}(m:LS M bv s.blocks)(l:BS M d s.last)(k:WOwn M b Rw s.waits)(j:t.blocks=s.blocks)(g:t.waits=s.waits)(i:t.last=s.last)(f:t.now.length=s.now.length)
  (h:Own (.slice a s.now.length c) e 5 1 s.now.length (Ab t.now)):BOwn M bb ((bb,cE [bv,b,.slice a s.now.length c,d] Ee)::(Rw++e)) t:=
 ⟨bv,b,a,c,d,Rw,e,by rw[f],by rw[j];exact m,by rw[i];exact l,by rw[f];exact h,by rw[g];exact k⟩
variable{ps:List (It×Value)}
theorem SO(hp:ps.map (·.1)=xs):(bw ps 0).map (λq=>(q.1.1.ref,lv-1))=(ED lv xs).reverse:=by
 have:(bw ps 0).map (λq=>(q.1.1.ref,lv-1))=((bw ps 0).map (·.1)).map (λp=>(p.1.ref,lv-1)):=by simp_all
 rw[this,JT,<-hp]
 unfold ED
 rw[List.map_map,List.map_reverse];rfl
variable{α:Type}
theorem DO(xs:List α):(bw xs 0).length=xs.length:=by
 have:=congrArg List.length (JT xs)
 grind
def LvPost(s:Sto)(root:Int)(bb:Nat)(u:Value)(M':Mem)(L':Lc):Prop:=(leave s root=none/\u=.int .i64 8)\/∃t,leave s root=some t/\u=.int .i64 0/\Aq t/\BOwn M' bb L' t
theorem GG(s0:Sto)(root:Int)(hr:8<=root/\root<256)(hst:Aq s0)(bb:Nat)(M:Mem)(Lb:Lc)(hB0:BOwn M bb Lb s0):
  SpecL prog 114 #[.pointer (some ⟨bb,0,none⟩),.int .i64 root] M Lb (LvPost s0 root bb):=by
 obtain⟨bv,wv,na,nc,lw,Rw,Rn,rfl,g2,g3,hnow,g5⟩:=id hB0
 have hn256:s0.now.length=256:=hst.2.1.1
 refine sB func114 ntmps114 ?_;intro W
 refine gC (UI _ s0.now Rn M hnow (by omega)) ?_;rintro _ M1 _ hM1 ⟨R',rfl,hown⟩
 obtain⟨fa,fc,rfl⟩:=hown.form
 refine Re (M':=M1) (L':=R'++((bb,.cells [bv,wv,.slice na s0.now.length nc,lw].toArray Ee (0,0))::(Rw++Rn))) (λw h=>h.perm BW) ?_
 refine wJf hown (λ_ h=>h) ?_
 intro M2 fa2 fc2 hM2 e2 hfc hfs;cases e2
 replace hfs:=hfs.mono (EF _ _)
 obtain⟨fb,fo,e0,hfx⟩:=hfs.open (by intro e;have:=congrArg List.length e;rw[Af,List.length_nil]at this;omega)
 subst e0
 refine gh ?_
 refine lh (Aa (cs:=[_,_]) rfl rfl rfl (by rfl) (by rfl) (by rfl)) ?_;rintro _ _ _ ⟨b23,rfl,rfl,rfl⟩
 refine ga λb6=>?_
 refine YA (α:=LvS) (λx=>x.D) (λx=>[(0,.pointer (some ⟨bb,0,none⟩)),(5,.slice (some ⟨fb,fo,none⟩) s0.now.length fc),(6,.pointer (some ⟨b6,0,none⟩))]) (λx=>x.M) (λx=>Vc x.D++((b6,.cells [x.v].toArray 268 (0,0))::(x.R++x.L))) (λx=>LvI bb M2 s0.now (leave s0 root) x) (λx=>x.f)
  ⟨s0,[(root,-1)],Do s0.now,[],M2,((bb,.cells [bv,wv,.slice na s0.now.length nc,lw].toArray Ee (0,0))::(Rw++Rn)),[(b23,.cells [Value.int .i64 root,Value.int .i64 (-1)].toArray TO (0,0))],.slice (some ⟨b23,0,none⟩) 1 1⟩ rfl (Keep.cons (t:=0) rfl (Keep.cons (t:=5) rfl (Keep.cons (t:=6) rfl Keep.nil))) ⟨hst,MLe.refl _,hB0.mono (hM1.trans hM2),⟨rfl,.inr ⟨b23,1,_,rfl,rfl,Nat.le_refl _,by unfold maxLen;omega,rfl,rfl⟩⟩,(by simpa using hr),rfl,Nat.le_refl _,(by have:=Wr s0.now;show 1+5*Do s0.now<=400000;omega)⟩ (λw h=>h) ?_
 rintro⟨s,st,f,D,Mk,Lk,Rk,v⟩ hI
 try dsimp only
 obtain⟨va0,vc0,hv0⟩:=hI.own.form
 try dsimp only at hv0
 subst hv0
 obtain⟨bv,wv,na,nc,lw,Rw,Rn,hLx,g2,g3,hnow,g5⟩:=id hI.bo
 try dsimp only at hLx g2 g3 hnow g5
 have hn256:s.now.length=256:=hI.ok.2.1.1
 obtain⟨ng,ncap,ncur,e0,e1,_⟩:=hnow.open (by show 0<s.now.length;omega)
 cases e0;subst e1
 subst hLx
 refine gj (λh26=>?_) λh26=>?_
 ·refine Am (jT (GI rfl (D0 (jT (Ge (Ao (Ah ?_)))))))
  obtain⟨⟨k,l⟩,st,rfl⟩:=List.exists_cons_of_ne_nil (show st≠[]from λe=>by subst e;simp at h26)
  have hown:=hI.own
  try dsimp only at hown
  rw[List.length_cons]at hown
  obtain⟨sg,vc1,scur,e0,e1,hs1,hs2,_⟩:=hown.open (by omega)
  cases e0;subst e1
  rw[List.length_cons]
  rw[ZH]at hown
  have hkr:=hI.rng (k,l) (by simp)
  try dsimp only at hkr
  have hbig:=hI.big
  try dsimp only at hbig
  rw[List.length_cons]at hbig
  have hsl:=wGh st
  have hown2:=hown.pop hsl
  have hgn:(Ab s.now)[k.toNat]? =some (.int .u8 ((s.now.getD k.toNat 0).toNat:Int)):=Cc (by omega)
  have hlt:=(s.now.getD k.toNat 0).toNat_lt
  have hkn:((k.toNat:Nat):Int)=k:=Int.toNat_of_nonneg (by omega)
  have hrng:∀p∈st,8<=p.1/\p.1<256:=λp hp=>hI.rng p (List.mem_cons_of_mem _ hp)
  have hfu:=hI.fuel
  try dsimp only at hfu
  refine lq (AE rfl rfl rfl rfl (CJ.loc rfl)) ?_
  refine lq (AE rfl rfl rfl rfl (CJ.loc rfl)) ?_
  refine lq (KZ rfl rfl rfl) ?_
  refine lq (Bc (qA rfl rfl rfl rfl rfl (by omega)) (v':=.int .i64 (st.length:Int)) (congrArg _ (by omega))) ?_
  refine gh ?_
  refine lq (Bb (cs:=[.int .i64 k,.int .i64 l]) rfl rfl rfl rfl rfl (wHj hown (by simp) hsl)) ?_
  refine lh (AM rfl rfl) ?_;rintro _ _ _ ⟨b7,rfl,rfl,rfl⟩
  refine Dz rfl (Ae rfl rfl rfl rfl rfl rfl rfl rfl) ?_;rintro _ _ _ ⟨rfl,rfl⟩
  refine Am (jT (Ao (Ah ?_)))
  refine lq (AE rfl rfl rfl rfl (CJ.loc rfl)) ?_
  refine lq (AE rfl rfl rfl rfl (CJ.loc rfl)) ?_
  refine lq (KZ rfl rfl rfl) ?_
  refine lq (Bc (qA rfl rfl rfl rfl rfl (by omega)) (v':=.int .i64 (st.length:Int)) (congrArg _ (by omega))) ?_
  refine lq (Bc (C6 rfl rfl rfl (.no _) (.of (v:=st.length) rfl (by omega) rfl) (.no _) (by omega) (by simp)) (v':=.slice (some ⟨sg,0,none⟩) st.length vc0) (by rw[AZ];rfl)) ?_
  refine gh ?_
  refine JG [0,1,2,3,4,5,6,7,8,9] ?_
  refine gh ?_
  refine dq rfl (AE rfl rfl rfl rfl (by rw[Nat.mul_one,Nat.zero_add];exact hnow.cj (by simp) hgn)) ?_
  refine gj (λh47=>?_) λh47=>?_
  ·refine gh ?_
   refine Ek (λw h=>h.tl) ?_
   refine gr ?_
   exact .inl ⟨by rw[hI.eq];exact wHx (UInt8.toNat.inj (by simpa using h47)),rfl⟩
  refine gh ?_
  refine JG [0,1,2,3,4,5,6,7,8,9] ?_
  refine gh ?_
  refine dq rfl (AE rfl rfl rfl rfl (by rw[Nat.mul_one,Nat.zero_add];exact hnow.cj (by simp) hgn)) ?_
  refine gj (λh57=>?_) λh57=>?_
  ·refine gh ?_
   have hz:¬s.now.getD k.toNat 0=0:=λe=>h47 (by rw[e];rfl)
   obtain⟨f,rfl⟩:∃f',f=f'+1:=⟨f-1,by have:=Nk hz;omega⟩
   have h1:s.now.getD k.toNat 0≠1:=λe=>by rw[e]at h57;exact absurd h57 (by decide)
   refine Hr [11] [11] [0,1,2,3,4,5,6,7,8,9,10,111] _ (_) ([]) ?_
   refine gh ?_
   refine dq rfl (AE rfl rfl rfl rfl (by rw[Nat.mul_one,Nat.zero_add];exact hnow.cj (by simp) hgn)) ?_
   refine dq rfl (wMo rfl rfl rfl rfl rfl (by rw[IntKind.wrap_u8];omega)) ?_
   refine gh ?_
   refine Ed rfl rfl (CZ rfl rfl rfl rfl rfl rfl hnow rfl (by omega)) ?_;rintro _ _ _ ⟨rfl,Rn',rfl,hnow'⟩
   refine⟨MLe.refl _,by simp,?_⟩
   refine gh ?_
   refine Hs ⟨AF s k.toNat,st,f,D,Mk,((bb,.cells [bv,wv,.slice (some ⟨ng,0,none⟩) s.now.length nc,lw].toArray Ee (0,0))::(Rw++Rn')),[(sg,.cells scur TO (0,0))],.slice (some ⟨sg,0,none⟩) st.length vc0⟩ rfl (Keep.cons (t:=0) rfl (Keep.cons (t:=5) rfl (Keep.cons (t:=6) rfl Keep.nil))) ⟨CY hI.ok (by omega),hI.mle,BOwn.put g2 g3 g5 rfl rfl rfl (NU _ _) ?_,hown2,hrng,?_,?_,?_⟩ (by show f<f+1;omega) ?_
   ·simp_all [Ab,AF,RD]
   ·have:=hI.eq;rw[this];exact ML hz h1
   ·grind [Fg,Do,AF]
   ·grind
   exact λw h=>h.dropAt.perm BW
  refine gh ?_
  have hz:¬s.now.getD k.toNat 0=0:=λe=>h47 (by rw[e];rfl)
  obtain⟨f,rfl⟩:∃f',f=f'+1:=⟨f-1,by have:=Nk hz;omega⟩
  have h1:s.now.getD k.toNat 0=1:=UInt8.toNat.inj (by have:(1:By).toNat=1:=rfl;omega)
  refine gC (by have:=Lr s k.toNat bb (by omega) hI.ok Mk _ hI.bo;rwa[hkn]at this) ?_;rintro _ Mn _ hMn ⟨hbn,rfl⟩
  refine Re (M':=Mn) (L':=(b7,.cells [.int .i64 k,.int .i64 l].toArray 267 (0,0))::(Vc D++((b6,.cells [.slice (some ⟨sg,0,none⟩) st.length vc0].toArray 268 (0,0))::([(sg,.cells scur TO (0,0))]++((bb,.cells [bv,wv,.slice (some ⟨ng,0,none⟩) s.now.length nc,lw].toArray Ee (0,0))::(Rw++[(ng,.cells ncur 5 (0,0))])))))) (λw h=>h.perm BW) ?_
  obtain⟨lv,ya,yn,yc,e,rfl,hbn2⟩:=BnPost.form hbn
  refine ga λb8=>?_
  refine Hr [8] [8] [0,1,2,3,4,5,6,7,108] _ (_) ([]) ?_
  refine gh ?_
  refine Ed rfl rfl (CZ (u:=.int .u8 0) rfl rfl rfl rfl rfl rfl hnow rfl (by omega)) ?_;rintro _ _ _ ⟨rfl,Rn',rfl,hnow'⟩
  refine⟨MLe.refl _,by simp,?_⟩
  refine Ld ?_
  refine wJm (jT (Ao (Ao ?_)))
  refine BU (M':=Mn) (L':=(b8,.cells [.int .i64 lv,.slice ya yn yc].toArray 135 (0,0))::(b7,.cells [.int .i64 k,.int .i64 l].toArray 267 (0,0))::(Vc D++((b6,.cells [.slice (some ⟨sg,0,none⟩) st.length vc0].toArray 268 (0,0))::([(sg,.cells scur TO (0,0))]++((bb,.cells [bv,wv,.slice (some ⟨ng,0,none⟩) s.now.length nc,lw].toArray Ee (0,0))::(Rw++Rn')))))) (λw h=>h.perm BW) ?_
  have hnow2:=hnow'
  rw[Nat.mul_one,Nat.zero_add]at hnow2
  have hclr:Ab (AN s k.toNat).now=(Ab s.now).set k.toNat (.int .u8 0):=by simp_all [AN,Ab]
  refine gj (λh85=>?_) λh85=>?_
  ·refine gh ?_
   refine Ek (λw h=>h.tl.tl) ?_
   refine gr ?_
   obtain⟨_,hnd⟩|⟨_,_⟩:=hbn2
   ·exact .inl ⟨by rw[hI.eq];exact wHy hz h1 hnd,rfl⟩
   omega
  refine gh ?_
  obtain⟨_,_⟩|⟨rfl,xs,hnd,rfl,hns⟩:=hbn2
  ·omega
  obtain⟨ya_,yc_,ps,e_,hyc,hys,hyp,hyb⟩:=id hns
  cases e_
  have hno:=Ar hnd
  have hlv:=hno.lev
  have hlen:=hno.len
  have hpl:ps.length=xs.length:=by grind
  refine gh ?_
  refine lq (AE rfl rfl rfl rfl (((hfx _ _ (by rw[Nat.mul_one];exact Cc (j:=k.toNat) (by omega))).mono (hI.mle.trans hMn)).cj _)) ?_
  refine gj (λh92=>?_) λh92=>?_
  ·refine gh ?_
   refine Ek (λw h=>h.tl.tl) ?_
   refine gr ?_
   exact .inl ⟨by rw[hI.eq];show HV _ _ _ _=_;rw[Eu hz h1 hnd,if_pos (.inl (UInt8.toNat.inj (by simpa using h92)))],rfl⟩
  refine gj (λh97=>?_) λh97=>?_
  ·refine gj (λh103=>?_) λh103=>?_
   ·refine gh ?_
    refine Ek (λw h=>h.tl.tl) ?_
    refine gr ?_
    exact .inl ⟨by rw[hI.eq];show HV _ _ _ _=_;rw[Eu hz h1 hnd,if_pos (.inr ⟨h97,h103⟩)],rfl⟩
   refine gg ?_
   have hng:¬(s0.now.getD k.toNat 0=0\/0<=l/\lv≠l):=by
    rintro (e|⟨_,e⟩)
    ·simp_all
    omega
   refine gj (λh108=>?_) λh108=>?_
   ·refine gC (bwi _ _ _ Mn) ?_;rintro _ Mb _ hMb ⟨b111,rfl,e111,rfl⟩
    rw[<-hpl]at e111
    simp only[List.nil_append]
    refine gh ?_
    refine BU (M':=Mb) (L':=((b8,.cells [.int .i64 lv,.slice ya xs.length yc].toArray 135 (0,0))::(b6,.cells [.slice (some ⟨sg,0,none⟩) st.length vc0].toArray 268 (0,0))::[(sg,.cells scur TO (0,0))])++(Vc D++((bb,.cells [bv,wv,.slice (some ⟨ng,0,none⟩) s.now.length nc,lw].toArray Ee (0,0))::(Rw++Rn')))) (λw h=>(St.dropAt (A:=[_]) h).perm BW) ?_
    refine D1 (R:=(b8,.cells [.int .i64 lv,.slice ya xs.length yc].toArray 135 (0,0))::(b6,.cells [.slice (some ⟨sg,0,none⟩) st.length vc0].toArray 268 (0,0))::[(sg,.cells scur TO (0,0))]) (xs:=bw ps 0) (enc:=(λp:(It×Value)×Nat=>[.int .i64 p.2,.agg (Ac p.1).toArray])) (ps:=[112,113]) rfl (by kernel_rfl) (T2 b111 ya yc ps Mb e111 (hys.mono hMb) (by omega))
     (λpre _ R=>∃v Rs,R=(b8,.cells [.int .i64 lv,.slice ya xs.length yc].toArray 135 (0,0))::(b6,.cells [v].toArray 268 (0,0))::Rs/\Own v Rs TO 2 (st.length+pre.length) ((st.reverse++pre.map (λq=>(q.1.1.ref,lv-1))).flatMap Fc))
     (λ_ _ _ _=>False)
     (λ_=>rfl) (by decide) ⟨_,_,rfl,(by simpa using hown2)⟩ ?_ ?_ ?_
    ·intro l2 W2 pre y M2 R2 hM2 hI2 hpre
     obtain⟨v2,Rs2,rfl,hown3⟩:=hI2
     have hym:y.1∈ps:=Pz (hpre.subset (by simp))
     obtain⟨⟨yi,yv⟩,yx⟩:=y
     have hyb2:=hyb _ hym
     obtain⟨va,vc,hyv,_,_⟩:=hyb2
     change yv=Value.slice va yi.val.length vc at hyv;subst hyv
     obtain⟨a3,c3,rfl⟩:=hown3.form
     refine ga λb11=>?_
     refine jK λW'=>?_
     refine gh ?_
     refine lh (Aa (cs:=[_,_]) rfl rfl rfl (by rfl) (by rfl) (by rfl)) ?_;rintro _ _ _ ⟨b121,rfl,rfl,rfl⟩
     refine lh (Ba (R:=Rs2) (m:=1) rfl rfl rfl rfl hown3 rfl (λi v hv=>CJ.loc (by simpa using hv)) rfl (by rfl) (by simp[Value.oneCell']) (by have:=hpre.length_le;rw[DO,List.length_append,List.length_singleton]at this;omega) (by omega)) ?_;rintro s' _ _ ⟨rfl,R',rfl,hown',_⟩
     obtain⟨a4,c4,rfl⟩:=hown'.form
     refine gh ?_
     refine AK (M':=M2) (L':=(b8,.cells [.int .i64 lv,.slice ya xs.length yc].toArray 135 (0,0))::(b6,.cells [.slice a4 (st.length+pre.length+1) c4].toArray 268 (0,0))::R') (λw h=>h.dropAt.dropAt.perm BW) ?_
     refine Zj ?_
     grind[Fc]
    ·intro d M3 R3 hM3 hI3
     obtain⟨v3,Rs3,rfl,hown3⟩:=hI3
     refine gh ?_
     refine Hs ⟨AN s k.toNat,(ED lv xs++st),f,(d::D),M3,((bb,.cells [bv,wv,.slice (some ⟨ng,0,none⟩) s.now.length nc,lw].toArray Ee (0,0))::(Rw++Rn')),Rs3,v3⟩ rfl (Keep.cons (t:=0) rfl (Keep.cons (t:=5) rfl (Keep.cons (t:=6) rfl Keep.nil))) ⟨E2 hI.ok (by omega),hI.mle.trans (hMn.trans (hMb.trans hM3)),BOwn.put (g2.mono (hMn.trans (hMb.trans hM3))) (g3.mono (hMn.trans (hMb.trans hM3))) (g5.mono (hMn.trans (hMb.trans hM3))) rfl rfl rfl (by unfold AN;simp) (by rw[hclr];exact hnow2),?_,?_,?_,?_,?_⟩ (by show f<f+1;omega) ?_
     ·show Own v3 Rs3 TO 2 (ED lv xs++st).length ((ED lv xs++st).reverse.flatMap Fc)
      grind[SO,DO,ED]
     ·intro p hp;rcases List.mem_append.1 hp with hp|hp
      ·obtain ⟨y,hy,rfl⟩:=List.mem_map.1 hp
       have:=hno.up h108 y hy;have:=hno.ref y hy;show 8<=y.ref/\y.ref<256;omega
      grind
     ·have:=hI.eq;rw[this];show HV _ _ _ _=_;rw[Eu hz h1 hnd,if_neg hng,if_pos h108]
     ·grind [Fq,Do,AN]
     ·grind [ED]
     exact λw h=>(h.perm (L':=(b8,.cells [.int .i64 lv,.slice ya xs.length yc].toArray 135 (0,0))::(Vc (d::D)++((b6,.cells [v3].toArray 268 (0,0))::(Rs3++((bb,.cells [bv,wv,.slice (some ⟨ng,0,none⟩) s.now.length nc,lw].toArray Ee (0,0))::(Rw++Rn')))))) BW).tl
    grind
   refine gh ?_
   refine BU (M':=Mn) (L':=Vc D++((b6,.cells [.slice (some ⟨sg,0,none⟩) st.length vc0].toArray 268 (0,0))::([(sg,.cells scur TO (0,0))]++((bb,.cells [bv,wv,.slice (some ⟨ng,0,none⟩) s.now.length nc,lw].toArray Ee (0,0))::(Rw++Rn'))))) (λw h=>h.tl.tl) ?_
   refine Cz (α:=Nat×Sto×Mem×Lc) (λx=>[(0,.pointer (some ⟨bb,0,none⟩)),(5,.slice (some ⟨fb,fo,none⟩) s0.now.length fc),(6,.pointer (some ⟨b6,0,none⟩)),(124,.slice ya xs.length yc),(125,.int .i64 xs.length),(126,.int .i64 x.1)]) (λx=>x.2.2.1) (λx=>Vc D++((b6,.cells [.slice (some ⟨sg,0,none⟩) st.length vc0].toArray 268 (0,0))::([(sg,.cells scur TO (0,0))]++x.2.2.2))) (λx=>x.1<=xs.length/\MLe Mn x.2.2.1/\BOwn x.2.2.1 bb x.2.2.2 x.2.1/\Aq x.2.1/\Do x.2.1.now<=f/\BT xs (AN s k.toNat)=BT (xs.drop x.1) x.2.1) (λx=>xs.length-x.1) (0,AN s k.toNat,Mn,((bb,.cells [bv,wv,.slice (some ⟨ng,0,none⟩) s.now.length nc,lw].toArray Ee (0,0))::(Rw++Rn'))) ⟨Nat.zero_le _,MLe.refl _,BOwn.put (g2.mono hMn) (g3.mono hMn) (g5.mono hMn) rfl rfl rfl (by unfold AN;simp) (by rw[hclr];exact hnow2),E2 hI.ok (by omega),(by have:=Fq (show k.toNat<s.now.length by omega) (show (s.now.getD k.toNat 0).toNat=1 by rw[h1];rfl);show Do (AN s k.toNat).now<=f;omega),rfl⟩ ?_
   rintro⟨j,t,Mj,Lj⟩ ⟨hj,hMj,hB,htok,hsum,hloo⟩
   try dsimp only at hj hMj hB htok hsum hloo⊢
   refine gj (λh127=>?_) λh127=>?_
   ·refine gh ?_
    have hj1:j<xs.length:=by omega
    obtain⟨sb,so,e0,hx⟩:=(hys.mono hMj).open (by intro e;have:=congrArg List.length e;rw[Aj Ac 5 Ad,List.length_nil]at this;omega)
    cases e0
    obtain⟨va,vc,hcl,hvc,hvs⟩:=Au hx hyp (λp hp=>(hyb p hp).mono hMj) hj1
    have hxr:=hno.ref xs[j] (List.getElem_mem hj1)
    have ht256:t.now.length=256:=htok.2.1.1
    refine gh ?_
    refine lq (Bb (cs:=Fk xs[j] va vc) rfl rfl rfl rfl rfl (λi v hv=>(hcl i v hv).cj _)) ?_
    refine gA λb13=>?_
    refine gj (λh132=>?_) λh132=>?_
    ·refine gh ?_
     refine Bw (j+1,t,Mj,Lj) ⟨by show j+1<=xs.length;omega,hMj,hB,htok,hsum,by show _=BT (xs.drop (j+1)) t;rw[hloo,DI hj1,if_pos h132]⟩ (hs:=λw h=>h.tl)
    refine gh ?_
    have hkr2:((xs[j].ref.toNat:Nat):Int)=xs[j].ref:=Int.toNat_of_nonneg (by omega)
    refine lh (Bu rfl rfl rfl rfl rfl (by kernel_rfl) (by have:=Gc t xs[j].ref.toNat bb (by omega) Mj Lj hB;rwa[hkr2]at this)) ?_;rintro _ Mq _ ⟨hMq,R',rfl,⟨rfl,hB2⟩⟩
    refine gj (λh138=>?_) λh138=>?_
    ·refine gh ?_
     refine Ek (λw h=>(h.fewer (List.sublist_append_right _ _)).tl) ?_
     refine gr ?_
     exact .inl ⟨by rw[hI.eq];show HV _ _ _ _=_;rw[Eu hz h1 hnd,if_neg hng,if_neg h108,hloo,DI hj1,if_neg h132,if_neg h138],rfl⟩
    refine gh ?_
    have h138':=Classical.not_not.1 h138
    refine Bw (j+1,AF t xs[j].ref.toNat,Mq,R') ⟨by show j+1<=xs.length;omega,hMj.trans hMq,hB2 h138',CY htok (by omega),?_,by show _=BT (xs.drop (j+1)) _;rw[hloo,DI hj1,if_neg h132,if_pos h138']⟩ (hs:=λw h=>h.dropAt.perm BW)
    grind[looseE,Fg,Do,AF]
   refine gh ?_
   have hjx:j=xs.length:=by omega
   subst hjx
   rw[List.drop_length]at hloo
   refine Hs ⟨t,st,f,D,Mj,Lj,[(sg,.cells scur TO (0,0))],.slice (some ⟨sg,0,none⟩) st.length vc0⟩ rfl (Keep.cons (t:=0) rfl (Keep.cons (t:=5) rfl (Keep.cons (t:=6) rfl Keep.nil))) ⟨htok,hI.mle.trans (hMn.trans hMj),hB,hown2,hrng,?_,hsum,?_⟩ (by show f<f+1;omega) ?_
   ·have:=hI.eq;rw[this];show HV _ _ _ _=_;rw[Eu hz h1 hnd,if_neg hng,if_neg h108,hloo];rfl
   ·grind
   grind
  refine gg ?_
  have hng:¬(s0.now.getD k.toNat 0=0\/0<=l/\lv≠l):=by
   rintro (e|⟨e,_⟩)
   ·simp_all
   omega
  refine gj (λh108=>?_) λh108=>?_
  ·refine gC (bwi _ _ _ Mn) ?_;rintro _ Mb _ hMb ⟨b111,rfl,e111,rfl⟩
   rw[<-hpl]at e111
   simp only[List.nil_append]
   refine gh ?_
   refine BU (M':=Mb) (L':=((b8,.cells [.int .i64 lv,.slice ya xs.length yc].toArray 135 (0,0))::(b6,.cells [.slice (some ⟨sg,0,none⟩) st.length vc0].toArray 268 (0,0))::[(sg,.cells scur TO (0,0))])++(Vc D++((bb,.cells [bv,wv,.slice (some ⟨ng,0,none⟩) s.now.length nc,lw].toArray Ee (0,0))::(Rw++Rn')))) (λw h=>(St.dropAt (A:=[_]) h).perm BW) ?_
   refine D1 (R:=(b8,.cells [.int .i64 lv,.slice ya xs.length yc].toArray 135 (0,0))::(b6,.cells [.slice (some ⟨sg,0,none⟩) st.length vc0].toArray 268 (0,0))::[(sg,.cells scur TO (0,0))]) (xs:=bw ps 0) (enc:=(λp:(It×Value)×Nat=>[.int .i64 p.2,.agg (Ac p.1).toArray])) (ps:=[112,113]) rfl (by kernel_rfl) (T2 b111 ya yc ps Mb e111 (hys.mono hMb) (by omega))
    (λpre _ R=>∃v Rs,R=(b8,.cells [.int .i64 lv,.slice ya xs.length yc].toArray 135 (0,0))::(b6,.cells [v].toArray 268 (0,0))::Rs/\Own v Rs TO 2 (st.length+pre.length) ((st.reverse++pre.map (λq=>(q.1.1.ref,lv-1))).flatMap Fc))
    (λ_ _ _ _=>False)
    (λ_=>rfl) (by decide) ⟨_,_,rfl,(by simpa using hown2)⟩ ?_ ?_ ?_
   ·intro l2 W2 pre y M2 R2 hM2 hI2 hpre
    obtain⟨v2,Rs2,rfl,hown3⟩:=hI2
    have hym:y.1∈ps:=Pz (hpre.subset (by simp))
    obtain⟨⟨yi,yv⟩,yx⟩:=y
    have hyb2:=hyb _ hym
    obtain⟨va,vc,hyv,_,_⟩:=hyb2
    change yv=Value.slice va yi.val.length vc at hyv;subst hyv
    obtain⟨a3,c3,rfl⟩:=hown3.form
    refine ga λb11=>?_
    refine jK λW'=>?_
    refine gh ?_
    refine lh (Aa (cs:=[_,_]) rfl rfl rfl (by rfl) (by rfl) (by rfl)) ?_;rintro _ _ _ ⟨b121,rfl,rfl,rfl⟩
    refine lh (Ba (R:=Rs2) (m:=1) rfl rfl rfl rfl hown3 rfl (λi v hv=>CJ.loc (by simpa using hv)) rfl (by rfl) (by simp[Value.oneCell']) (by have:=hpre.length_le;rw[DO,List.length_append,List.length_singleton]at this;omega) (by omega)) ?_;rintro s' _ _ ⟨rfl,R',rfl,hown',_⟩
    obtain⟨a4,c4,rfl⟩:=hown'.form
    refine gh ?_
    refine AK (M':=M2) (L':=(b8,.cells [.int .i64 lv,.slice ya xs.length yc].toArray 135 (0,0))::(b6,.cells [.slice a4 (st.length+pre.length+1) c4].toArray 268 (0,0))::R') (λw h=>h.dropAt.dropAt.perm BW) ?_
    refine Zj ?_
    grind[Fc]
   ·intro d M3 R3 hM3 hI3
    obtain⟨v3,Rs3,rfl,hown3⟩:=hI3
    refine gh ?_
    refine Hs ⟨AN s k.toNat,(ED lv xs++st),f,(d::D),M3,((bb,.cells [bv,wv,.slice (some ⟨ng,0,none⟩) s.now.length nc,lw].toArray Ee (0,0))::(Rw++Rn')),Rs3,v3⟩ rfl (Keep.cons (t:=0) rfl (Keep.cons (t:=5) rfl (Keep.cons (t:=6) rfl Keep.nil))) ⟨E2 hI.ok (by omega),hI.mle.trans (hMn.trans (hMb.trans hM3)),BOwn.put (g2.mono (hMn.trans (hMb.trans hM3))) (g3.mono (hMn.trans (hMb.trans hM3))) (g5.mono (hMn.trans (hMb.trans hM3))) rfl rfl rfl (by unfold AN;simp) (by rw[hclr];exact hnow2),?_,?_,?_,?_,?_⟩ (by show f<f+1;omega) ?_
    ·show Own v3 Rs3 TO 2 (ED lv xs++st).length ((ED lv xs++st).reverse.flatMap Fc)
     grind[SO,DO,ED]
    ·intro p hp;rcases List.mem_append.1 hp with hp|hp
     ·obtain ⟨y,hy,rfl⟩:=List.mem_map.1 hp
      have:=hno.up h108 y hy;have:=hno.ref y hy;show 8<=y.ref/\y.ref<256;omega
     grind
    ·have:=hI.eq;rw[this];show HV _ _ _ _=_;rw[Eu hz h1 hnd,if_neg hng,if_pos h108]
    ·grind [Fq,Do,AN]
    ·grind [ED]
    exact λw h=>(h.perm (L':=(b8,.cells [.int .i64 lv,.slice ya xs.length yc].toArray 135 (0,0))::(Vc (d::D)++((b6,.cells [v3].toArray 268 (0,0))::(Rs3++((bb,.cells [bv,wv,.slice (some ⟨ng,0,none⟩) s.now.length nc,lw].toArray Ee (0,0))::(Rw++Rn')))))) BW).tl
   grind
  refine gh ?_
  refine BU (M':=Mn) (L':=Vc D++((b6,.cells [.slice (some ⟨sg,0,none⟩) st.length vc0].toArray 268 (0,0))::([(sg,.cells scur TO (0,0))]++((bb,.cells [bv,wv,.slice (some ⟨ng,0,none⟩) s.now.length nc,lw].toArray Ee (0,0))::(Rw++Rn'))))) (λw h=>h.tl.tl) ?_
  refine Cz (α:=Nat×Sto×Mem×Lc) (λx=>[(0,.pointer (some ⟨bb,0,none⟩)),(5,.slice (some ⟨fb,fo,none⟩) s0.now.length fc),(6,.pointer (some ⟨b6,0,none⟩)),(124,.slice ya xs.length yc),(125,.int .i64 xs.length),(126,.int .i64 x.1)]) (λx=>x.2.2.1) (λx=>Vc D++((b6,.cells [.slice (some ⟨sg,0,none⟩) st.length vc0].toArray 268 (0,0))::([(sg,.cells scur TO (0,0))]++x.2.2.2))) (λx=>x.1<=xs.length/\MLe Mn x.2.2.1/\BOwn x.2.2.1 bb x.2.2.2 x.2.1/\Aq x.2.1/\Do x.2.1.now<=f/\BT xs (AN s k.toNat)=BT (xs.drop x.1) x.2.1) (λx=>xs.length-x.1) (0,AN s k.toNat,Mn,((bb,.cells [bv,wv,.slice (some ⟨ng,0,none⟩) s.now.length nc,lw].toArray Ee (0,0))::(Rw++Rn'))) ⟨Nat.zero_le _,MLe.refl _,BOwn.put (g2.mono hMn) (g3.mono hMn) (g5.mono hMn) rfl rfl rfl (by unfold AN;simp) (by rw[hclr];exact hnow2),E2 hI.ok (by omega),(by have:=Fq (show k.toNat<s.now.length by omega) (show (s.now.getD k.toNat 0).toNat=1 by rw[h1];rfl);show Do (AN s k.toNat).now<=f;omega),rfl⟩ ?_
  rintro⟨j,t,Mj,Lj⟩ ⟨hj,hMj,hB,htok,hsum,hloo⟩
  try dsimp only at hj hMj hB htok hsum hloo⊢
  refine gj (λh127=>?_) λh127=>?_
  ·refine gh ?_
   have hj1:j<xs.length:=by omega
   obtain⟨sb,so,e0,hx⟩:=(hys.mono hMj).open (by intro e;have:=congrArg List.length e;rw[Aj Ac 5 Ad,List.length_nil]at this;omega)
   cases e0
   obtain⟨va,vc,hcl,hvc,hvs⟩:=Au hx hyp (λp hp=>(hyb p hp).mono hMj) hj1
   have hxr:=hno.ref xs[j] (List.getElem_mem hj1)
   have ht256:t.now.length=256:=htok.2.1.1
   refine gh ?_
   refine lq (Bb (cs:=Fk xs[j] va vc) rfl rfl rfl rfl rfl (λi v hv=>(hcl i v hv).cj _)) ?_
   refine gA λb13=>?_
   refine gj (λh132=>?_) λh132=>?_
   ·refine gh ?_
    refine Bw (j+1,t,Mj,Lj) ⟨by show j+1<=xs.length;omega,hMj,hB,htok,hsum,by show _=BT (xs.drop (j+1)) t;rw[hloo,DI hj1,if_pos h132]⟩ (hs:=λw h=>h.tl)
   refine gh ?_
   have hkr2:((xs[j].ref.toNat:Nat):Int)=xs[j].ref:=Int.toNat_of_nonneg (by omega)
   refine lh (Bu rfl rfl rfl rfl rfl (by kernel_rfl) (by have:=Gc t xs[j].ref.toNat bb (by omega) Mj Lj hB;rwa[hkr2]at this)) ?_;rintro _ Mq _ ⟨hMq,R',rfl,⟨rfl,hB2⟩⟩
   refine gj (λh138=>?_) λh138=>?_
   ·refine gh ?_
    refine Ek (λw h=>(h.fewer (List.sublist_append_right _ _)).tl) ?_
    refine gr ?_
    exact .inl ⟨by rw[hI.eq];show HV _ _ _ _=_;rw[Eu hz h1 hnd,if_neg hng,if_neg h108,hloo,DI hj1,if_neg h132,if_neg h138],rfl⟩
   refine gh ?_
   have h138':=Classical.not_not.1 h138
   refine Bw (j+1,AF t xs[j].ref.toNat,Mq,R') ⟨by show j+1<=xs.length;omega,hMj.trans hMq,hB2 h138',CY htok (by omega),?_,by show _=BT (xs.drop (j+1)) _;rw[hloo,DI hj1,if_neg h132,if_pos h138']⟩ (hs:=λw h=>h.dropAt.perm BW)
   grind[looseE,Fg,Do,AF]
  refine gh ?_
  have hjx:j=xs.length:=by omega
  subst hjx
  rw[List.drop_length]at hloo
  refine Hs ⟨t,st,f,D,Mj,Lj,[(sg,.cells scur TO (0,0))],.slice (some ⟨sg,0,none⟩) st.length vc0⟩ rfl (Keep.cons (t:=0) rfl (Keep.cons (t:=5) rfl (Keep.cons (t:=6) rfl Keep.nil))) ⟨htok,hI.mle.trans (hMn.trans hMj),hB,hown2,hrng,?_,hsum,?_⟩ (by show f<f+1;omega) ?_
  ·have:=hI.eq;rw[this];show HV _ _ _ _=_;rw[Eu hz h1 hnd,if_neg hng,if_neg h108,hloo];rfl
  ·grind
  grind
 refine gh ?_
 refine Ek (λw h=>h) ?_
 refine AK (M':=Mk) (L':=(bb,.cells [bv,wv,.slice (some ⟨ng,0,none⟩) s.now.length nc,lw].toArray Ee (0,0))::(Rw++[(ng,.cells ncur 5 (0,0))])) (λw h=>h.tl.fewer (List.sublist_append_right _ _)) ?_
 refine Gd rfl rfl ?_
 obtain rfl:st=[]:=List.eq_nil_of_length_eq_zero (by omega)
 exact .inr ⟨s,by rw[hI.eq];cases f<;>rfl,rfl,hI.ok,hI.bo⟩
end Go.Proofs.YtdahhoicackcaaaGreat
