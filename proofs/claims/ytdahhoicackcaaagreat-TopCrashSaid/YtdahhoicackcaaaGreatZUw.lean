/- Walks: the law: TopAgain. No statement of the seat is proved here. -/
import Derived.Test.YtdahhoicackcaaaGreatZHn
import Derived.Test.YtdahhoicackcaaaGreatZVne
namespace Go.Proofs.YtdahhoicackcaaaGreat
open Go.Proofs.Tryz
open List (mem_of_mem_take getElem_mem nil_append length length_nil length_map map_map)
set_option linter.unusedSimpArgs false
set_option linter.unusedVariables false
set_option linter.unusedSectionVars false
open Go.RowKit
set_option maxRecDepth 8000
set_option maxHeartbeats 40000000
variable{k:Nat}{ts:List Tp}
theorem Kb(hk:k<ts.length):Bp (ts.take (k+1))=L4 (Bp (ts.take k)) ts[k]:=by
 unfold Bp;rw[List.take_succ_eq_append_getElem hk,List.foldl_append];rfl
theorem MG(e:ts.length<=100)(a:∀t∈ts,TpOk t)(k:Nat):PoN (Bp (ts.take k)).1/\(Bp (ts.take k)).1.dead.length<=1000000:=by
 obtain⟨d,f⟩:=QW (l:=ts.take k) (by rw[List.length_take];omega) λt c=>a t (mem_of_mem_take c)
 obtain⟨S,b⟩:=d.fine
 exact⟨b.pon (by omega),by have:=b.dead;omega⟩
theorem wHe(M:Mem):PT5 M Ef pz:=⟨⟨none,0,[],rfl,Nat.le_refl _,SM.nil,rfl,λ_ h=>by cases h⟩,WS.nil,BS.nil,BS.nil,⟨none,0,rfl,Nat.le_refl _,SM.nil⟩⟩
theorem SB(b:List Tp)(a:Option Addr)(c:Nat)(M:Mem)(O:TS M a b)(J:b.length<=100)(f:∀t∈b,TpOk t):
  SpecL prog 7 #[.slice a b.length c] M [] λu M' L'=>(∃y z,u=.tuple #[.agg (AO y (Bp b).1.gen (Bp b).1.root (Bp b).1.next).toArray,.agg (AO z (Bp b).2.gen (Bp b).2.root (Bp b).2.next).toArray]/\PT5 M' y (Bp b).1/\PT5 M' z (Bp b).2)/\L'=[]:=by
 refine sB func7 ntmps7 ?_;intro W
 refine EV λH G=>?_
 refine gc (Qt M) ?_;rintro _ U r Q
 obtain⟨V,rfl,P⟩:=Q.five
 refine lq (Bc (Bk (cs:=[_,_,_,_,_,_,_,_]) rfl rfl rfl (by rfl)) (v':=.agg (AO Ef 0 0 0).toArray) rfl) ?_
 refine EV λF s=>?_
 refine Cz (α:=Nat×V5×V5×Mem) (λz=>[(0,.slice a b.length c),(2,pB H),(3,pB G),(4,pB F),(5,pB s),(6,.int .i64 (z.1:Int))]) (λz=>z.2.2.2) (λz=>[(s,cE (AO z.2.2.1 (Bp (b.take z.1)).2.gen (Bp (b.take z.1)).2.root (Bp (b.take z.1)).2.next) 36),(F,cE (AO z.2.1 (Bp (b.take z.1)).1.gen (Bp (b.take z.1)).1.root (Bp (b.take z.1)).1.next) 36),(G,cE (AO Ef 0 0 0) 36),(H,cE (AO Ef 0 0 0) 36)]) (λz=>z.1<=b.length/\MLe U z.2.2.2/\PT5 z.2.2.2 z.2.1 (Bp (b.take z.1)).1/\PT5 z.2.2.2 z.2.2.1 (Bp (b.take z.1)).2) (λz=>b.length-z.1) (0,V,Ef,U) ⟨Nat.zero_le _,MLe.refl _,P,wHe _⟩ ?_
 rintro⟨k,y,z,L⟩ ⟨hk,g,B,I⟩
 try dsimp only at hk g B I⊢
 refine gj (λT=>?_) λT=>?_
 ·refine gh ?_
  refine Cg ([(s,cE (AO z (Bp (b.take k)).2.gen (Bp (b.take k)).2.root (Bp (b.take k)).2.next) 36),(F,cE (AO y (Bp (b.take k)).1.gen (Bp (b.take k)).1.root (Bp (b.take k)).1.next) 36),(G,cE (AO Ef 0 0 0) 36),(H,cE (AO Ef 0 0 0) 36)]) (by kernel_rfl) ((λ_ h=>h)) ?_
  refine gk [0,1,2] ?_
  have e:k<b.length:=by omega
  obtain⟨Y,X,N,e0,R,C⟩:=O.at_ e
  subst e0
  refine gk [3] ?_
  refine GJ (i:=4) rfl (by kernel_rfl) (by kernel_rfl) rfl rfl (Bb (cs:=wGa b[k] N) rfl rfl rfl rfl rfl (λi v Z=>(((R i v Z).mono (r.trans g))).cj _)) ?_
  refine Ch (α:=Mem×V5×Nat) (λw=>MLe L w.1/\PT5 w.1 w.2.1 (HA (Bp (b.take k)).1 b[k])) (λw=>[(0,.slice (some ⟨Y,X,none⟩) b.length c),(2,pB H),(3,pB G),(4,pB F),(5,pB s),(6,.int .i64 (k:Int)),(7,.pointer (some ⟨w.2.2,0,none⟩)),(21,.agg (AO w.2.1 (HA (Bp (b.take k)).1 b[k]).gen (HA (Bp (b.take k)).1 b[k]).root (HA (Bp (b.take k)).1 b[k]).next).toArray)]) (λw=>w.1) (λw=>[(w.2.2,cE (AO Ef 0 0 0) 36),(s,cE (AO z (Bp (b.take k)).2.gen (Bp (b.take k)).2.root (Bp (b.take k)).2.next) 36),(F,cE (AO y (Bp (b.take k)).1.gen (Bp (b.take k)).1.root (Bp (b.take k)).1.next) 36),(G,cE (AO Ef 0 0 0) 36),(H,cE (AO Ef 0 0 0) 36)]) 1 #[true,true,true,true,true,true,true,false] ?_ (λo=>?_)
  ·rintro ⟨n,m,K⟩ ⟨l,d⟩
   try dsimp only at l d⊢
   refine aO 7 ?_
   refine My rfl rfl (Ae rfl rfl rfl rfl rfl rfl rfl rfl) ?_;rintro _ _ _ ⟨rfl,rfl⟩
   refine aG (l) ?_
   refine D3 (by kernel_rfl) ?_
   refine gj (λS=>?_) λS=>?_
   ·refine gh ?_
    have E:(Bp (b.take (k+1))).1=HA (Bp (b.take k)).1 b[k]:=by rw[Kb e];rfl
    have D:(Bp (b.take (k+1))).2=HA (Bp (b.take k)).1 b[k]:=by rw[Kb e];unfold L4;dsimp only;rw[if_pos (by omega)]
    refine Bw (k+1,m,m,n) ⟨by show k+1<=_;omega,g.trans l,by show PT5 n m (Bp (b.take (k+1))).1;rw[E];exact d,by show PT5 n m (Bp (b.take (k+1))).2;rw[D];exact d⟩ (hs:=λw h=>by simp only[E,D];exact h.fewer (List.sublist_cons_self _ _))
   refine gh ?_
   have E:(Bp (b.take (k+1))).1=HA (Bp (b.take k)).1 b[k]:=by rw[Kb e];rfl
   have D:(Bp (b.take (k+1))).2=(Bp (b.take k)).2:=by rw[Kb e];unfold L4;dsimp only;rw[if_neg (by omega)]
   refine Bw (k+1,m,z,n) ⟨by show k+1<=_;omega,g.trans l,by show PT5 n m (Bp (b.take (k+1))).1;rw[E];exact d,by show PT5 n z (Bp (b.take (k+1))).2;rw[D];exact I.mono l⟩ (hs:=λw h=>by simp only[E,D];exact h.fewer (List.sublist_cons_self _ _))
  refine AR [5,6] (by kernel_rfl) rfl ⟨?_,?_,trivial⟩
  ·refine sh rfl (hC (MU (Bp (b.take k)).1 y L B (MG J f k).2 (MG J f k).1 b[k] N (C.mono (r.trans g)) (f _ (getElem_mem e)))) ?_;rintro _ n _ ⟨j,_,rfl,⟨⟨m,rfl,d⟩,rfl⟩⟩
   refine aG (j) ?_
   simp only[nil_append]
   refine aO 6 ?_
   refine sh rfl (AM rfl rfl) ?_;rintro _ _ _ ⟨K,rfl,rfl,rfl⟩
   refine aG (j) ?_
   exact aR o (n,m,K) ⟨j,d⟩
  refine sh rfl (AM rfl rfl) ?_;rintro _ _ _ ⟨K,rfl,rfl,rfl⟩
  refine aG (MLe.refl _) ?_
  refine aO 5 ?_
  refine sh rfl (hC (MU (Bp (b.take k)).1 y L B (MG J f k).2 (MG J f k).1 b[k] N (C.mono (r.trans g)) (f _ (getElem_mem e)))) ?_;rintro _ n _ ⟨j,_,rfl,⟨⟨m,rfl,d⟩,rfl⟩⟩
  refine aG (j) ?_
  simp only[nil_append]
  exact aR o (n,m,K) ⟨j,d⟩
 refine gh ?_
 refine Hr [2,3] [1,2,3] [0,1,102,103] L (_) ([(s,cE (AO z (Bp (b.take k)).2.gen (Bp (b.take k)).2.root (Bp (b.take k)).2.next) 36)]) ?_
 refine dq rfl (Gz rfl rfl rfl rfl rfl) ?_
 refine Vr rfl rfl rfl (Gz rfl rfl rfl rfl rfl) ?_
 refine Ed rfl rfl (Ae rfl rfl rfl rfl rfl rfl rfl rfl) ?_;rintro _ _ _ ⟨rfl,rfl⟩
 refine⟨MLe.refl _,by simp,?_⟩
 refine G1 rfl rfl (Ae rfl rfl rfl rfl rfl rfl rfl rfl) ?_;rintro _ _ _ ⟨rfl,rfl⟩
 refine⟨MLe.refl _,by simp,?_⟩
 refine Ld ?_
 refine wJm (jT (Bs ?_))
 refine zd ([]) rfl ?_
 obtain rfl:k=b.length:=by omega
 have et:b.take b.length=b:=List.take_length
 rw[et]at B I⊢
 exact⟨⟨y,z,rfl,B,I⟩,rfl⟩
theorem wKe:(match JU (FB po0)with|.ok _=>true|.error _=>false)=true:=by decide +kernel
theorem cre0:∃q,JU (FB po0)=.ok q:=by
 have:=wKe
 cases h:JU (FB po0)with
 |error e=>rw[h]at this;cases this
 |ok q=>exact⟨q,rfl⟩
theorem wGp{q:Po}(h:JU (FB po0)=.ok q):Saf q pz/\q.gen=0:=by
 have a:=saf_0.stp (t:=⟨1,0,0,⟨0,0,0⟩,[],false⟩) ⟨by decide,by decide,by decide,by decide,by decide,by decide⟩
 have e:Eb po0 ⟨1,0,0,⟨0,0,0⟩,[],false⟩=q:=by unfold Eb;rw[if_pos rfl,h];rfl
 rw[e]at a;exact a
variable{M':Mem}{u:Value}
theorem wMq{p a:Po}(h:Saf p a)(F:p.gen<1000)(B:Zg (Bn p).st u M'):∃y,u=.tuple #[.agg (AO y (Bn p).gen (Bn p).root (Bn p).next).toArray,.int .i64 0]/\PT5 M' y (Bn p):=by
 obtain⟨S,l⟩:=h.fine
 have c:=l.pon (by omega)
 have m:=l.ask (by omega)
 obtain⟨b,j⟩:=Ea m
 obtain⟨y,g,r,n,e,rfl,⟨_,_,f⟩|⟨rfl,_,x,s,_,C,t,rfl,rfl,rfl⟩⟩:=B
 ·exact absurd (KD m c) ((f (Pu b c).1).2 _ (Rz b c j))
 have z:=(h.com (by omega)).beh.2
 have i:x.gen<=p.gen+1:=by
  rcases z with⟨d,_⟩|⟨o,K,d,_,_,D,J,_⟩
  ·exact absurd (congrArg Po.gen d) (by show ¬p.gen+1=0;have:=l.gen;omega)
  have I:(Bn p).gen=p.gen+1:=rfl
  have H:(GZ o).gen=o.gen+1:=rfl
  have G:=D.max x (by rw[show BD (Bj (Bn p)) 4=BD (Bn p).st 4 from Lo λk _=>rfl];exact s)
  omega
 obtain⟨d,E⟩:=wEe m c s C i
 rw[d]at t
 subst E
 exact⟨y,rfl,t⟩
set_option maxRecDepth 20000 in
theorem PC(M:Mem):
  SpecL prog 5 #[] M [] λu M' R=>u=.bool true/\R=[]:=by
 have E:po0.next=1:=rfl
 obtain⟨q,d⟩:=cre0
 obtain⟨a,G⟩:=wGp d
 obtain⟨S,k⟩:=a.fine
 have t:=k.pon (by omega)
 have B:=k.ask (by omega)
 have m:=(Pu (Ea B).1 t).1
 have l:(Bn q).dead.length<=1000000:=by have:=k.dead;show q.dead.length<=1000000;omega
 refine sB func5 ntmps5 ?_;intro W
 refine gc (Qt M) ?_;rintro _ Q K j
 obtain⟨C,rfl,h⟩:=j.five
 refine gc (LW po0 C Q h (by decide) (by decide)) ?_;rintro _ P J c
 rw[d]at c
 obtain⟨y,rfl,F⟩:=c
 refine ga λV=>?_
 refine gc (FP q _ P F.pt t) ?_;rintro _ O I o
 obtain⟨z,g,r,n,e,rfl,⟨rfl,_,f,rfl,rfl,rfl⟩|⟨_,L,_⟩⟩:=o.form
 rotate_left
 ·exact absurd B L
 refine ga λU=>?_
 refine gc (Jv (Bn q).st O _ ⟨_,_,rfl,f.b,f.w⟩) ?_;rintro _ N s i
 obtain⟨v,rfl,D⟩:=wMq a (by omega) i
 refine gA λT=>?_
 refine gt ?_
 refine gc (VM z v (Bn q) N (f.mono s) D m l) ?_;rintro _ X H rfl
 refine gr ?_
 exact⟨rfl,rfl⟩
set_option maxRecDepth 8000
set_option maxHeartbeats 40000000
theorem wFv(w:Vo):∀(j:Nat) v k,(CU w)[j]? =some v->([.int .u32,.int .i64,.bool,.int .u32]:List TypeDesc)[j]? =some k->wPg v k:=λj v k a b=>by
 match j,a,b with
 |0,a,b=>cases a;cases b;rfl
 |1,a,b=>cases a;cases b;rfl
 |2,a,b=>cases a;cases b;trivial
 |3,a,b=>cases a;cases b;rfl
 |j+4,a,b=>cases a
variable{root:Int}{s:Sto}{vs:List Vo}
theorem wKp{next:Int}{dead:List Int}{refs nodes:List Int}(h:cens s root next dead=some (vs,refs,nodes)):vs.length<=16:=by
 unfold cens at h
 split at h
 ·split at h
  ·cases h
  split at h
  ·cases h
  rename_i a
  split at h
  ·cases h
  split at h
  ·cases h;exact JY _ _ _ _ a (by simp)
  cases h
 cases h
theorem To(x:It)(s t:Value)(M:Mem)(b:BS M s x.val)(a:BS M t x.val):SpecL prog 78 #[.agg #[.int .u8 x.key.kind,.int .u32 x.key.id,.int .u32 x.key.off,.int .i64 x.ref,s],.agg #[.int .u8 x.key.kind,.int .u32 x.key.id,.int .u32 x.key.off,.int .i64 x.ref,t]] M [] λv _ _=>v=.bool true:=(LM x x s t M b a).mono λ_ _ _ h=>by rw[h];simp
variable{a:Ky}
theorem wFr{p:Po}{q:Int}{b:Ky}:(Dk p q a b).length<=15625:=by
 unfold Dk vrnE
 by_cases c:volE p q=0
 ·rw [if_pos c]
  split
  ·rename_i h;exact wGu h _ _
  exact Nat.zero_le _
 rw[if_neg c,if_neg c];exact Nat.zero_le _
theorem XW(p q:Po)(x y:V5)(M:Mem)(h1:PT5 M x p)(t:PT5 M y q)(G:p.dead.length<=1000000)(F:q.dead.length<=1000000)(ha:Alk p q)(i:Int):
  SpecL prog 35 #[.agg (AO x p.gen p.root p.next).toArray,.agg (AO y q.gen q.root q.next).toArray,.int .u32 i,.int .u32 i] M [] λu M' L'=>u=.bool true/\L'=[]:=by
 have ag:(Dk p i N0 N1).length<=15625:=wFr
 refine sB func35 ntmps35 ?_;intro W
 refine EV λb4 b5=>?_
 refine JG [0,1,3,4,102,105,6,7] ?_
 refine gh ?_
 refine DA rfl rfl rfl (Bu rfl rfl rfl rfl rfl (by kernel_rfl) (T7 p x M h1 G i)) ?_;rintro _ Ma _ ⟨f,_,rfl,⟨ab,rfl⟩⟩
 refine⟨_,_,MLe.refl _,f,λ_ h=>h,λ_ h=>h,?_⟩
 simp only[nil_append]
 obtain⟨ra,V,af,rfl,_,rs,rp,X⟩:=ab
 refine DA rfl rfl rfl (Bu rfl rfl rfl rfl rfl (by kernel_rfl) (T7 q y Ma (t.mono f) F i)) ?_;rintro _ Mb _ ⟨c,_,rfl,⟨E,rfl⟩⟩
 refine⟨_,_,MLe.refl _,(f.trans c),λ_ h=>h,λ_ h=>h,?_⟩
 simp only[nil_append]
 rw[<-ha.rng]at E
 obtain⟨sa,O,ae,rfl,_,ss,sp,P⟩:=E
 refine gh ?_
 refine Cz (α:=Nat×Mem) (λz=>[(4,pB b4),(5,pB b5),(9,.slice ra (Dk p i N0 N1).length V),(10,.slice sa (Dk p i N0 N1).length O),(11,.int .i64 (z.1:Int))]) (λz=>z.2) (λ_=>[(b5,cE (AO y q.gen q.root q.next) 36),(b4,cE (AO x p.gen p.root p.next) 36)]) (λz=>z.1<=(Dk p i N0 N1).length/\MLe Mb z.2) (λz=>(Dk p i N0 N1).length-z.1) (0,Mb) ⟨Nat.zero_le _,MLe.refl _⟩ ?_
 rintro⟨n,Mk⟩ ⟨hn,a⟩
 try dsimp only at hn a⊢
 refine gj (λad=>?_) λad=>?_
 ·refine gj (λac=>?_) λac=>?_
  ·refine gh ?_
   refine JG [0,1,2,3,4,5,6,7,8,9] ?_
   refine gh ?_
   have o:n<(Dk p i N0 N1).length:=by omega
   obtain⟨l,k,s,U⟩:=rs.open (by intro e;have:=congrArg length e;rw[Aj Ac 5 Ad,length_nil]at this;have t:=congrArg length rp;rw[length_map]at t;omega)
   obtain⟨T,S,m,R,Q⟩:=Au U rp X o
   refine dq rfl (Ca (b:=l) (off:=k) rfl rfl (by show some (Value.slice _ _ _)=_;rw[s]) rfl (by omega)) ?_
   refine dq rfl (Bb (cs:=Fk (Dk p i N0 N1)[n] T S) rfl rfl rfl rfl rfl (λi v hv=>((m i v hv).mono (c.trans a)).cj _)) ?_
   refine gh ?_
   obtain⟨C,B,I,six⟩:=ss.open (by intro e;have:=congrArg length e;rw[Aj Ac 5 Ad,length_nil]at this;have t:=congrArg length sp;rw[length_map]at t;omega)
   obtain⟨N,L,D,K,J⟩:=Au six sp P o
   refine dq rfl (Ca (b:=C) (off:=B) rfl rfl (by show some (Value.slice _ _ _)=_;rw[I]) rfl (by omega)) ?_
   refine dq rfl (Bb (cs:=Fk (Dk p i N0 N1)[n] N L) rfl rfl rfl rfl rfl (λi v hv=>((D i v hv).mono a).cj _)) ?_
   refine gq (To (Dk p i N0 N1)[n] _ _ Mk ⟨_,_,rfl,R,(Q.mono (c.trans a))⟩ ⟨_,_,rfl,K,(J.mono a)⟩) ?_
   refine lq (Ca (b:=l) (off:=k) rfl rfl (by show some (Value.slice _ _ _)=_;rw[s]) rfl (by omega)) ?_
   refine gh ?_
   refine lq (AE (v:=.int .i64 (Dk p i N0 N1)[n].ref) rfl rfl rfl rfl (((m 3 _ rfl).mono (c.trans a)).cj _)) ?_
   refine gj (λH=>?_) λH=>?_
   ·refine gh ?_
    refine JG [0,1,2,3,4,5,106,7,8,9,10,11] ?_
    refine gh ?_
    refine dq rfl (Ca (b:=l) (off:=k) rfl rfl (by show some (Value.slice _ _ _)=_;rw[s]) rfl (by omega)) ?_
    refine gh ?_
    refine dq rfl (AE (v:=.int .i64 (Dk p i N0 N1)[n].ref) rfl rfl rfl rfl (((m 3 _ rfl).mono (c.trans a)).cj _)) ?_
    obtain⟨Z,Y,aa⟩:=ha.dat i N0 N1 (Dk p i N0 N1)[n] (getElem_mem o) H
    refine DA rfl rfl rfl (Bu rfl rfl rfl rfl rfl (by kernel_rfl) (Nd p x Mk (h1.mono (f.trans (c.trans a))) G (Dk p i N0 N1)[n].ref)) ?_;rintro _ Mc _ ⟨j,_,rfl,⟨⟨ds,rfl,d⟩,rfl⟩⟩
    refine⟨_,_,MLe.refl _,j,λ_ h=>h,λ_ h=>h,?_⟩
    simp only[nil_append]
    have d:=d Z
    refine gh ?_
    refine JG [0,1,2,3,4,5,106,7,8,9,10,11] ?_
    refine gh ?_
    refine dq rfl (Ca (b:=C) (off:=B) rfl rfl (by show some (Value.slice _ _ _)=_;rw[I]) rfl (by omega)) ?_
    refine gh ?_
    refine dq rfl (AE (v:=.int .i64 (Dk p i N0 N1)[n].ref) rfl rfl rfl rfl (((D 3 _ rfl).mono (a.trans j)).cj _)) ?_
    refine DA rfl rfl rfl (Bu rfl rfl rfl rfl rfl (by kernel_rfl) (Nd q y Mc (t.mono (f.trans (c.trans (a.trans j)))) F (Dk p i N0 N1)[n].ref)) ?_;rintro _ Me _ ⟨r,_,rfl,⟨⟨dt,rfl,g⟩,rfl⟩⟩
    refine⟨_,_,MLe.refl _,r,λ_ h=>h,λ_ h=>h,?_⟩
    simp only[nil_append]
    have g:=g Y
    have d:=d.mono r
    refine gt ?_
    refine lq (Bc (Yc (xs:=(seen p.st (Dk p i N0 N1)[n].ref.toNat).map λb=>(b.toNat:Int)) rfl rfl rfl (by rw[length_map,d.len]) (by simpa [Ab,map_map,Function.comp_def]using d.sm.sj _)) (v':=.string (Nm (seen p.st (Dk p i N0 N1)[n].ref.toNat))) (by rw[DE])) ?_
    refine gh ?_
    refine lq (Bc (Yc (xs:=(seen q.st (Dk p i N0 N1)[n].ref.toNat).map λb=>(b.toNat:Int)) rfl rfl rfl (by rw[length_map,g.len]) (by simpa [Ab,map_map,Function.comp_def]using g.sm.sj _)) (v':=.string (Nm (seen q.st (Dk p i N0 N1)[n].ref.toNat))) (by rw[DE])) ?_
    refine lq (Bc (qP rfl rfl) (v':=.bool false) (by rw[QT];simp[aa])) ?_
    refine gh ?_
    refine Bw (n+1,Me) ⟨by show n+1<=_;omega,a.trans (j.trans r)⟩
   refine gh ?_
   refine Bw (n+1,Mk) ⟨by show n+1<=_;omega,a⟩
  refine gr ?_
  exact⟨by simp,rfl⟩
 refine gr ?_
 exact⟨by simp,rfl⟩
theorem Fu(p q:Po)(x y:V5)(M:Mem)(S:PT5 M x p)(h2:PT5 M y q)(L:p.dead.length<=1000000)(K:q.dead.length<=1000000)(m:Alk p q)  :
  SpecL prog 12 #[.agg (AO x p.gen p.root p.next).toArray,.agg (AO y q.gen q.root q.next).toArray] M [] λu M' L'=>u=.bool true/\L'=[]:=by
 obtain⟨⟨vs,refs,nodes⟩,c⟩:=poChk_is.1 m.ok1
 have s:=m.cens.symm.trans c
 have ag:=wKp c
 have ap:=m.gen
 have ao:=m.next
 have ai:x.d.n=p.dead.length:=S.d.len
 have P:NI M y.d.v p.dead:=by rw[m.dead];exact h2.d
 have ah:y.d.n=p.dead.length:=P.len
 have am:=m.ok1
 have al:=m.ok2
 refine sB func12 ntmps12 ?_;intro W
 refine EV λU T=>?_
 refine gc (Em p x M S L) ?_;rintro _ Ma l ⟨vl,rfl,ad⟩
 have I:=ad _ _ _ c
 have ak:=I.1
 refine gc (Em q y Ma (h2.mono l) K) ?_;rintro _ Mb f ⟨V,rfl,G⟩
 have H:=G _ _ _ s
 have aj:=H.1
 refine gt ?_
 refine Cz (α:=Nat×Mem) (λz=>[(2,pB U),(3,pB T),(5,vl.v),(7,V.v),(9,.int .i64 (z.1:Int))]) (λz=>z.2) (λ_=>[(T,cE (AO y q.gen q.root q.next) 36),(U,cE (AO x p.gen p.root p.next) 36)]) (λz=>z.1<=vs.length/\MLe Mb z.2) (λz=>vs.length-z.1) (0,Mb) ⟨Nat.zero_le _,MLe.refl _⟩ ?_
 rintro⟨k,Mk⟩ ⟨hk,a⟩
 try dsimp only at hk a⊢
 refine gj (λaf=>?_) λaf=>?_
 ·refine gh ?_
  refine JG [0,1,2,3,4,5,6,7,8,9,10,11,12,13,14,15,16,17,18,19,20,21,122,23,24] ?_
  refine gh ?_
  have g:k<vs.length:=by omega
  obtain⟨F,E,r,D⟩:=(I.2.2).open (by intro e;have:=congrArg length e;rw[Aj CU 4 Et,length_nil]at this;omega)
  refine dq rfl (Ca (b:=F) (off:=E) rfl rfl (by show some (Value.slice _ _ _)=_;rw[r]) rfl (by omega)) ?_
  refine dq rfl (Bb (cs:=CU vs[k]) rfl rfl rfl rfl rfl (λi v hv=>((Cs CU 4 Et D (List.getElem?_eq_getElem g) i v hv).mono (f.trans a)).cj _)) ?_
  refine gh ?_
  obtain⟨C,B,o,t⟩:=(H.2.2).open (by intro e;have:=congrArg length e;rw[Aj CU 4 Et,length_nil]at this;omega)
  refine dq rfl (Ca (b:=C) (off:=B) rfl rfl (by show some (Value.slice _ _ _)=_;rw[o]) rfl (by omega)) ?_
  refine dq rfl (Bb (cs:=CU vs[k]) rfl rfl rfl rfl rfl (λi v hv=>((Cs CU 4 Et t (List.getElem?_eq_getElem g) i v hv).mono a).cj _)) ?_
  refine dq rfl (Bc (wHc (ds:=[.int .u32,.int .i64,.bool,.int .u32]) (vs:=CU vs[k]) rfl rfl rfl rfl (by kernel_rfl) (by kernel_rfl) (by kernel_rfl) (by kernel_rfl) rfl (wFv _)) (v':=.bool false) (by rfl)) ?_
  refine gh ?_
  refine dq rfl (Ca (b:=F) (off:=E) rfl rfl (by show some (Value.slice _ _ _)=_;rw[r]) rfl (by omega)) ?_
  refine gh ?_
  refine dq rfl (AE (v:=.int .u32 vs[k].id) rfl rfl rfl rfl (((Cs CU 4 Et D (List.getElem?_eq_getElem g) 0 _ rfl).mono (f.trans a)).cj _)) ?_
  refine gh ?_
  refine dq rfl (Ca (b:=C) (off:=B) rfl rfl (by show some (Value.slice _ _ _)=_;rw[o]) rfl (by omega)) ?_
  refine gh ?_
  refine dq rfl (AE (v:=.int .u32 vs[k].id) rfl rfl rfl rfl (((Cs CU 4 Et t (List.getElem?_eq_getElem g) 0 _ rfl).mono a).cj _)) ?_
  refine DA rfl rfl rfl (Bu rfl rfl rfl rfl rfl (by kernel_rfl) (XW p q x y Mk (S.mono (l.trans (f.trans a))) (h2.mono (l.trans (f.trans a))) L K m vs[k].id)) ?_;rintro _ Ms _ ⟨N,_,rfl,⟨rfl,rfl⟩⟩
  refine⟨_,_,MLe.refl _,N,λ_ h=>h,λ_ h=>h,?_⟩
  simp only[nil_append]
  refine gh ?_
  refine Bw (k+1,Ms) ⟨by show k+1<=_;omega,a.trans N⟩
 refine gh ?_
 have O:MLe M Mk:=l.trans (f.trans a)
 refine Cz (α:=Nat) (λj=>[(2,pB U),(3,pB T),(10,.int .i64 (j:Int))]) (λ_=>Mk) (λ_=>[(T,cE (AO y q.gen q.root q.next) 36),(U,cE (AO x p.gen p.root p.next) 36)]) (λj=>j<=p.dead.length) (λj=>p.dead.length-j) 0 (Nat.zero_le _) ?_
 rintro j hj
 try dsimp only at hj⊢
 refine gj (λae=>?_) λae=>?_
 ·refine gh ?_
  refine JG [0,1,2,3,4,5,6,7,8,9,10] ?_
  refine gh ?_
  have J:j<p.dead.length:=by omega
  obtain⟨ac,ab,R,aa⟩:=(S.d.sm).open (by intro e;have:=congrArg length e;rw[Ay,length_nil]at this;omega)
  refine dq rfl (Ca (b:=ac) (off:=ab) rfl rfl (by show some (Value.slice _ _ _)=_;rw[R]) rfl (by omega)) ?_
  refine dq rfl (AE (v:=.int .i64 p.dead[j]) rfl rfl rfl rfl (((aa _ _ (by rw[Nat.mul_one];show (Al p.dead)[j]? =_;simp[Al,J])).mono O).cj _)) ?_
  refine gh ?_
  obtain⟨Z,Y,Q,X⟩:=(P.sm).open (by intro e;have:=congrArg length e;rw[Ay,length_nil]at this;omega)
  refine dq rfl (Ca (b:=Z) (off:=Y) rfl rfl (by show some (Value.slice _ _ _)=_;rw[Q]) rfl (by omega)) ?_
  refine dq rfl (AE (v:=.int .i64 p.dead[j]) rfl rfl rfl rfl (((X _ _ (by rw[Nat.mul_one];show (Al p.dead)[j]? =_;simp[Al,J])).mono O).cj _)) ?_
  refine gt ?_
  refine Bw (j+1) (by omega)
 refine gr ?_
 exact⟨rfl,rfl⟩
set_option maxRecDepth 8000
structure Fnd(p last q:Po)(ph:Int):Prop where
 fine:∃S,Fine q S []
 nl:q.st.now=q.st.last
 ok:0<last.gen->Ax last=0
 a:0<last.gen->q.gen=last.gen->Alk q last
 b:(¬ 0<last.gen\/¬q.gen=last.gen)->ph=3/\Alk q (Bn p)
variable{last:Po}
theorem Saf.lgen{p:Po}(h:Saf p last):(last=pz/\p.gen=0)\/(∃S,Fine last S []/\last.gen=p.gen/\0<last.gen):=by
 obtain⟨_,d⟩:=h.beh
 rcases d with⟨a,b,_⟩|⟨c,g,a,b,f,i,e,_⟩
 ·exact .inl ⟨a,b⟩
 refine .inr ⟨g,by rw[a];exact b.com f,by rw[a,e];rfl,by rw[a];show 0<c.gen+1;have:=b.gen;omega⟩
theorem Saf.ldead{p:Po}(h:Saf p last):last.dead.length<=1000000:=by
 rcases h.lgen with⟨rfl,_⟩|⟨S,a,_⟩
 ·exact Nat.zero_le _
 have:=a.dead;omega
variable{s:Sto}
theorem Got.none{p:Po}{three:Prop}(h:Got p last three s)(c:∀x∈BD s 4,¬TryOk s x):last.gen=0:=by
 obtain⟨_,⟨d,_⟩|⟨y,_,⟨z,a,b⟩,_⟩⟩:=h
 ·exact d
 exact absurd b (c z a)
variable{ph:Int}
theorem Got.found{p:Po}{x:Su}(hs:Saf p last)(h:Got p last (ph=3) s)(l:wFj s x):Fnd p last (CP s x) ph:=by
 have m:=hs.lgen
 obtain⟨n,⟨_,j⟩|⟨y,j,_,o⟩⟩:=h
 ·have:=l.1;rw[j]at this;cases this
 obtain rfl:=j x l
 rcases o with⟨i,f,g,S,a⟩|⟨i,f,g,S,a⟩
 ·have d:=a.eqv f (by show 0<=x.gen;omega)
  refine⟨⟨S,d⟩,rfl,λ_=>a.chk,λ_ _=>(f.symm a.en.ok).alk d a g,λb=>?_⟩
  rcases b with b|b
  ·exact absurd i b
  exact absurd g b
 have z:(Bn p).gen=p.gen+1:=rfl
 have u:(CP s x).gen=x.gen:=rfl
 have d:=a.eqv f (by show 0<=x.gen;have:=a.gen;omega)
 refine⟨⟨S,d⟩,rfl,λk=>?_,λk t=>?_,λ_=>⟨i,(f.symm a.en.ok).alk d a g⟩⟩
 ·rcases m with⟨rfl,_⟩|⟨r,c,_⟩
  ·exact absurd k (by decide)
  exact c.chk
 rcases m with⟨rfl,_⟩|⟨r,c,e,_⟩
 ·exact absurd k (by decide)
 omega
variable{t1:Prop}
theorem Got.to{p:Po}{a:Prop}(h:Got p last t1 s)(c:t1->a):Got p last a s:=
 ⟨h.1,h.2.imp id λ⟨y,f,e,d⟩=>⟨y,f,e,d.imp id λb=>⟨c b.1,b.2⟩⟩⟩
theorem Lt{p:Po}:∀(l:List Tp){x:Po},(∀t∈l,TpOk t)->Saf x p->Saf (Eh x l) p/\(Eh x l).gen=x.gen
 |[],x,_,h=>⟨h,rfl⟩
 |t::l,x,b,h=>by
  have e:Eh x (t::l)=Eh (Zk x t) l:=rfl
  rw[e]
  unfold Zk
  split
  ·exact Lt l (λy a=>b y (by simp[a])) h
  obtain⟨g,f⟩:=h.stp (b t (by simp))
  obtain⟨d,c⟩:=Lt l (λy a=>b y (by simp[a])) g
  exact⟨d,c.trans f⟩
variable{k:Su}
theorem Got.again{p x:Po}(hs:Saf x (Bn p))(h:Got x (Bn p) False s)(l:s.waits=[])(d:wFj s k)(m:s.blocks=s.blocks):(∃S,Fine (Bn p) S [])/\(∃S,Fine (CP s k) S [])/\Alk (CP s k) (Bn p)/\PEq (Bn p) (CP s k)/\(Bn p).gen=k.gen:=by
 obtain⟨i,⟨_,c⟩|⟨y,c,_,j⟩⟩:=h
 ·have:=d.1;rw[c]at this;cases this
 obtain rfl:=c k d
 rcases j with⟨g,b,f,S,a⟩|⟨g,_⟩
 ·have e:=a.eqv b (by show 0<=k.gen;omega)
  exact⟨⟨S,a⟩,⟨S,e⟩,(b.symm a.en.ok).alk e a f,b,f.symm⟩
 exact g.elim
variable{S:List Nat}
theorem Zf{p q:Po}(e:Fine p S [])(a:PEq p q)(h:p.gen=q.gen)(hp:p.st.waits=[])(f:q.st.waits=[])(g:p.st.last=q.st.last):PSim p p q:=by
 refine⟨⟨a.st.now,g,by rw[hp,f],?_,λk d=>?_,rfl,rfl,λw c=>by rw[hp]at c;cases c⟩,h,a.root,a.next,a.dead,rfl⟩
 ·exact ⟨λ_=>a.ok.1,λ_=>e.en.ok.1⟩
 obtain⟨i,b⟩:=MJ e.en.ok d
 exact a.see k i b d
set_option maxRecDepth 8000
set_option maxHeartbeats 40000000
theorem wFe(p q:Po)(x y:V5)(M:Mem)(l:PT5 M x p)(k:PT5 M y q)(b:p.dead.length<=1000000)(a:q.dead.length<=1000000)(i:Ax p=0)(h:Ax q=0)(r:¬p.gen=q.gen):
  SpecL prog 12 #[.agg (AO x p.gen p.root p.next).toArray,.agg (AO y q.gen q.root q.next).toArray] M [] λu M' n=>u=.bool false/\n=[]:=by
 refine sB func12 ntmps12 ?_;intro W
 refine EV λt s=>?_
 refine gc (Em p x M l b) ?_;rintro _ m c ⟨o,rfl,g⟩
 refine gc (Em q y m (k.mono c) a) ?_;rintro _ z j ⟨f,rfl,e⟩
 refine gt ?_
 refine gj (λd=>?_) λd=>?_
 ·refine gr ?_
  exact⟨rfl,rfl⟩
 refine gu ?_
 exact⟨rfl,rfl⟩
theorem Ze(p q:Po)(x y:V5)(M:Mem)(g:PT5 M x p)(f:PT5 M y q)(b:p.dead.length<=1000000)(a:q.dead.length<=1000000)(e:Ax p=0)(d:Ax q=0)(h:p.gen=q.gen->Alk p q):SpecL prog 12 #[.agg (AO x p.gen p.root p.next).toArray,.agg (AO y q.gen q.root q.next).toArray] M [] λu M' i=>u=.bool (decide (p.gen=q.gen))/\i=[]:=by
 by_cases c:p.gen=q.gen
 ·rw [decide_eq_true c];exact Fu p q x y M g f b a (h c)
 rw[decide_eq_false c];exact wFe p q x y M g f b a e d c
theorem V3(ts:List Tp)(a:Option Addr)(c:Nat)(M:Mem)(au:TS M a ts)(av:∀t∈ts,TpOk t)(F:Int)(keep:List Bool)(ka:Option Addr)(kc:Nat)(ag:SM M ka (Bo keep))  :
  SpecL prog 4 #[.slice a ts.length c,.int .i64 F,.slice ka keep.length kc] M [] λu M' L'=>u=.bool true/\L'=[]:=by
 refine sB func4 ntmps4 ?_;intro W
 refine gc (PC M) ?_;rintro _ M1 O rfl
 refine gc (JI ts a c M1 (au.mono O) 30 (by omega)) ?_;rintro _ M2 ad ⟨hb,rfl,aE⟩
 refine Zi rfl (λa4=>?_) (λa4=>?_)
 ·refine gr ?_
  first|exact⟨rfl,rfl⟩|exact⟨by rw[L];rfl,rfl⟩
 refine gj (λaM=>?_) λaM=>?_
 ·refine gr ?_
  first|exact⟨rfl,rfl⟩|exact⟨by rw[L];rfl,rfl⟩
 refine gh ?_
 have a8:=aE a4
 have ah:keep.length<=1000000:=by omega
 refine gc (SB ts a c M2 (au.mono (O.trans ad)) (by omega) av) ?_;rintro _ M3 al ⟨y,z,rfl,T,hz⟩
 obtain⟨B,a0⟩:=QW (l:=ts) (by omega) av
 generalize Bp ts=R at B a0 T hz⊢
 obtain⟨P,Q⟩:=R
 dsimp only at B a0 T hz⊢
 obtain⟨S,hf⟩:=B.fine
 have hn:=hf.pon (by omega)
 have ac:=hf.ask (by omega)
 have aj:=hf.en.ok.1
 have aS:=hf.dead
 have aU:y.w.n=P.st.waits.length:=T.w.len
 have aV:P.st.waits.length<=4096:=aj.2.1
 have a9:=B.ldead
 refine EV λb8 b9=>?_
 refine Cg ([(b9,cE (AO z Q.gen Q.root Q.next) 36),(b8,cE (AO y P.gen P.root P.next) 36)]) (by kernel_rfl) ((λ_ h=>h)) ?_
 refine gk [0,1,2,3,4,5,6,7,8] ?_
 refine Ch (α:=Mem×List Bool×Sl×Sl×Nat) (λw=>MLe M3 w.1/\LS w.1 w.2.2.1.v (AW P.st.blocks (CQ w.2.1 P.st.waits))/\WS w.1 w.2.2.2.1.v []) (λw=>[(1,.int .i64 F),(2,.slice ka keep.length kc),(7,.bool true),(8,pB b8),(9,pB b9),(10,.pointer (some ⟨w.2.2.2.2,0,none⟩)),(45,.agg #[w.2.2.1.v,w.2.2.2.1.v]),(46,.int .i64 0)]) (λw=>w.1) (λw=>[(w.2.2.2.2,cE [Value.slice none 0 0,Value.slice none 0 0] 29),(b9,cE (AO z Q.gen Q.root Q.next) 36),(b8,cE (AO y P.gen P.root P.next) 36)]) 2 #[true,true,true,true,true,true,true,true,true,true,true,true,true,true,true,false,false] ?_ (λV=>?_)
 ·rintro ⟨U,ks,da,db,E⟩ ⟨r,D,C⟩
  try dsimp only at r D C⊢
  refine aO 15 ?_
  refine My rfl rfl (Ae rfl rfl rfl rfl rfl rfl rfl rfl) ?_;rintro _ _ _ ⟨rfl,rfl⟩
  refine aG (r) ?_
  refine gk [16] ?_
  refine D3 (by kernel_rfl) ?_
  refine wJm (jT ?_)
  refine Du (α:=Mem×Sl×Sl×List (List By)) (λw=>[(1,.int .i64 F),(7,.bool true),(8,pB b8),(9,pB b9),(10,pB E),(11,.int .i64 0)]) (λw=>w.1) (λw=>[(E,cE [w.2.1.v,w.2.2.1.v] 29),(b9,cE (AO z Q.gen Q.root Q.next) 36),(b8,cE (AO y P.gen P.root P.next) 36)]) (λw=>MLe M3 w.1/\LS w.1 w.2.1.v w.2.2.2/\WS w.1 w.2.2.1.v []/\Got P Q (F=3) (MA w.2.2.2)) ?_ ?_
  ·rintro ⟨Mz,aX,aW,bs⟩ ⟨am,ay,aq,K⟩
   try dsimp only at am ay aq K⊢
   refine gg ?_
   refine jf rfl (decide_eq_false (by first|omega|exact k (.inl g)|exact k (.inr (of_decide_eq_false j)))) ?_
   refine gc (Jv (MA bs) Mz _ ⟨_,_,rfl,ay,aq⟩) ?_;rintro _ Mo a2 aA
   obtain⟨v,og,aT,on,oe,rfl,aw⟩:=aA
   refine ga λaZ=>?_
   refine gc (FP P _ Mo (T.mono (am.trans a2)).pt hn) ?_;rintro _ Mc ao aI
   obtain⟨nx,g2,r2,n2,e2,rfl,⟨rfl,_,ae,rfl,rfl,rfl⟩|⟨_,h9,_⟩⟩:=aI.form
   rotate_left
   ·exact absurd ac h9
   refine gA λaY=>?_
   refine jf rfl (decide_eq_false (by first|omega|exact k (.inl g)|exact k (.inr (of_decide_eq_false j)))) ?_
   refine gj (λap=>?_) λap=>?_
   ·refine gg ?_
    obtain⟨_,_,aB⟩|⟨rfl,_⟩:=aw
    rotate_left
    ·exact absurd rfl ap
    obtain⟨rfl,ax⟩:=aB K.1
    have L:=K.none ax
    refine gg ?_
    refine jt rfl (decide_eq_true (by first|omega|exact k (.inl g)|exact k (.inr (of_decide_eq_false j)))) ?_
    refine gr ?_
    first|exact⟨rfl,rfl⟩|exact⟨by rw[L];rfl,rfl⟩
   refine gh ?_
   obtain⟨h9,_⟩|⟨rfl,aQ,x,a7,a6,a5,hv,rfl,rfl,rfl⟩:=aw
   ·exact absurd (Classical.not_not.1 ap) h9
   have G:=K.found B ⟨a7,a6,a5⟩
   obtain⟨S2,ai⟩:=G.fine
   have J:(CP (MA bs) x).dead.length<=1000000:=by have:=ai.dead;omega
   have a1:(Bn P).dead.length<=1000000:=by show P.dead.length<=1000000;omega
   refine gc (LX (CP (MA bs) x) v Mc (hv.mono ao) J) ?_;rintro _ Md N rfl
   rw[ai.cnt,ai.chk]
   have s:=hv.mono (ao.trans N)
   refine gg ?_
   refine jf rfl (decide_eq_false (by first|omega|exact k (.inl g)|exact k (.inr (of_decide_eq_false j)))) ?_
   refine gh ?_
   refine lq (Bc (Yc (xs:=(CP (MA bs) x).st.now.map λb=>(b.toNat:Int)) rfl rfl rfl (by rw[length_map,s.n.len]) (by simpa [Ab,map_map,Function.comp_def]using s.n.sm.sj _)) (v':=.string (Nm (CP (MA bs) x).st.now)) (by rw[DE])) ?_
   refine gh ?_
   refine lq (Bc (Yc (xs:=(CP (MA bs) x).st.last.map λb=>(b.toNat:Int)) rfl rfl rfl (by rw[length_map,s.l.len]) (by simpa [Ab,map_map,Function.comp_def]using s.l.sm.sj _)) (v':=.string (Nm (CP (MA bs) x).st.last)) (by rw[DE])) ?_
   refine lq (Bc (qP rfl rfl) (v':=.bool false) (by rw[QT];simp[G.nl])) ?_
   refine gg ?_
   have k:(¬ 0<Q.gen\/¬x.gen=Q.gen)->F=3:=λh=>(G.b h).1
   refine gj (λg=>?_) λg=>?_
   ·refine gc (Ze (CP (MA bs) x) Q v z Md s (hz.mono (am.trans (a2.trans (ao.trans N)))) J a9 ai.chk (G.ok g) (G.a g)) ?_;rintro _ Me ak rfl
    refine jp rfl ?_
    refine Zi rfl (λj=>?_) (λj=>?_)
    ·refine gr ?_
     first|exact⟨rfl,rfl⟩|exact⟨by rw[L];rfl,rfl⟩
    refine gg ?_
    refine jt rfl (decide_eq_true (by first|omega|exact k (.inl g)|exact k (.inr (of_decide_eq_false j)))) ?_
    refine gc (Fu (CP (MA bs) x) (Bn P) v nx _ (by first|exact s.mono ak|exact s) (by first|exact ae.mono (N.trans ak)|exact ae.mono N) J a1 (G.b (by first|exact .inl g|exact .inr (of_decide_eq_false j))).2) ?_;rintro _ Mf aJ rfl
    refine gr ?_
    first|exact⟨rfl,rfl⟩|exact⟨by rw[L];rfl,rfl⟩
   refine gg ?_
   refine jt rfl (decide_eq_true (by first|omega|exact k (.inl g)|exact k (.inr (of_decide_eq_false j)))) ?_
   refine gc (Fu (CP (MA bs) x) (Bn P) v nx _ (by first|exact s.mono ak|exact s) (by first|exact ae.mono (N.trans ak)|exact ae.mono N) J a1 (G.b (by first|exact .inl g|exact .inr (of_decide_eq_false j))).2) ?_;rintro _ Mf aJ rfl
   refine gr ?_
   first|exact⟨rfl,rfl⟩|exact⟨by rw[L];rfl,rfl⟩
  refine gj (λaL=>?_) λaL=>?_
  ·refine gj (λaK=>?_) λaK=>?_
   ·refine gj (λa3=>?_) λa3=>?_
    ·refine gh ?_
     obtain⟨m,hm⟩:∃m:Nat,(y.w.n:Int)=(m:Int):=⟨_,rfl⟩
     have aC:m=(FA P F.toNat).2.length:=by rw[a3];show m=P.st.waits.length;omega
     have aD:m<=5000:=by omega
     refine Hr [9] [8,9,10] [0,1,2,3,104,105,6,7,8,109,10] U (_) ([]) ?_
     refine gh ?_
     refine DA rfl rfl rfl (Bu rfl rfl rfl rfl rfl (by kernel_rfl) (by rw[hm];exact DH keep ka kc U ((ag.mono (O.trans (ad.trans al))).mono r) ah m (by omega))) ?_;rintro _ M6 _ ⟨o,_,rfl,⟨⟨ma,mc,k2,rfl,aH,X⟩,rfl⟩⟩
     refine⟨_,_,MLe.refl _,o,λ_ h=>h,λ_ h=>h,?_⟩
     simp only[nil_append]
     refine DA rfl rfl rfl (Bu rfl rfl rfl rfl rfl (by kernel_rfl) (TN P _ M6 (T.mono (r.trans o)).pt hn F k2 ma mc X (by omega))) ?_;rintro _ M7 _ ⟨I,_,rfl,⟨H,rfl⟩⟩
     refine⟨_,_,MLe.refl _,o.trans I,λ_ h=>h,λ_ h=>h,?_⟩
     simp only[nil_append]
     unfold Ud at H
     rw[if_pos ac,if_neg (by omega),if_pos (by omega)]at H
     obtain⟨d,rfl,aP,aN,rfl,ab,aa⟩:=H
     obtain⟨ca,rfl⟩:=ab.sl
     obtain⟨cb,rfl⟩:=aa.sl
     iterate 3 refine dp rfl rfl ?_
     refine Ed rfl rfl (Ae rfl rfl rfl rfl rfl rfl rfl rfl) ?_;rintro _ _ _ ⟨rfl,rfl⟩
     refine⟨(o.trans I),by simp,?_⟩
     refine gh ?_
     exact AS (M7,ca,cb,_) (Keep.cons (t:=1) rfl (Keep.cons (t:=7) rfl (Keep.cons (t:=8) rfl (Keep.cons (t:=9) rfl (Keep.cons (t:=10) rfl (Keep.cons (t:=11) rfl Keep.nil)))))) ⟨r.trans (o.trans I),ab,aa,(Xa B (by omega) (phase:=F.toNat) (by omega) (by omega)).to (by omega)⟩ (λw h=>h)
    refine gh ?_
    obtain⟨m,hm⟩:∃m:Nat,4-F=(m:Int):=⟨(4-F).toNat,by omega⟩
    have aC:m=(FA P F.toNat).2.length:=by
     rcases (show F=2\/F=3 by omega)with h2|h2
     ·rw [h2]at hm ⊢;show m=2;omega
     rw[h2]at hm ⊢;show m=1;omega
    have aD:m<=5000:=by omega
    refine Hr [9] [8,9,10] [0,1,2,3,104,105,6,7,8,109,10] U (_) ([]) ?_
    refine gh ?_
    refine DA rfl rfl rfl (Bu rfl rfl rfl rfl rfl (by kernel_rfl) (by rw[hm];exact DH keep ka kc U ((ag.mono (O.trans (ad.trans al))).mono r) ah m (by omega))) ?_;rintro _ M6 _ ⟨o,_,rfl,⟨⟨ma,mc,k2,rfl,aH,X⟩,rfl⟩⟩
    refine⟨_,_,MLe.refl _,o,λ_ h=>h,λ_ h=>h,?_⟩
    simp only[nil_append]
    refine DA rfl rfl rfl (Bu rfl rfl rfl rfl rfl (by kernel_rfl) (TN P _ M6 (T.mono (r.trans o)).pt hn F k2 ma mc X (by omega))) ?_;rintro _ M7 _ ⟨I,_,rfl,⟨H,rfl⟩⟩
    refine⟨_,_,MLe.refl _,o.trans I,λ_ h=>h,λ_ h=>h,?_⟩
    simp only[nil_append]
    unfold Ud at H
    rw[if_pos ac,if_neg (by omega),if_pos (by omega)]at H
    obtain⟨d,rfl,aP,aN,rfl,ab,aa⟩:=H
    obtain⟨ca,rfl⟩:=ab.sl
    obtain⟨cb,rfl⟩:=aa.sl
    iterate 3 refine dp rfl rfl ?_
    refine Ed rfl rfl (Ae rfl rfl rfl rfl rfl rfl rfl rfl) ?_;rintro _ _ _ ⟨rfl,rfl⟩
    refine⟨(o.trans I),by simp,?_⟩
    refine gh ?_
    exact AS (M7,ca,cb,_) (Keep.cons (t:=1) rfl (Keep.cons (t:=7) rfl (Keep.cons (t:=8) rfl (Keep.cons (t:=9) rfl (Keep.cons (t:=10) rfl (Keep.cons (t:=11) rfl Keep.nil)))))) ⟨r.trans (o.trans I),ab,aa,(Xa B (by omega) (phase:=F.toNat) (by omega) (by omega)).to (by omega)⟩ (λw h=>h)
   refine gh ?_
   exact AS (U,da,db,_) (Keep.cons (t:=1) rfl (Keep.cons (t:=7) rfl (Keep.cons (t:=8) rfl (Keep.cons (t:=9) rfl (Keep.cons (t:=10) rfl (Keep.cons (t:=11) rfl Keep.nil)))))) ⟨r,D,C,H3 B ks _⟩ (λw h=>h)
  refine gh ?_
  exact AS (U,da,db,_) (Keep.cons (t:=1) rfl (Keep.cons (t:=7) rfl (Keep.cons (t:=8) rfl (Keep.cons (t:=9) rfl (Keep.cons (t:=10) rfl (Keep.cons (t:=11) rfl Keep.nil)))))) ⟨r,D,C,H3 B ks _⟩ (λw h=>h)
 refine AR [9,14] (by kernel_rfl) rfl ⟨?_,?_,trivial⟩
 ·refine sh rfl (hC (DH keep ka kc M3 (ag.mono (O.trans (ad.trans al))) ah y.w.n (by omega))) ?_;rintro _ M4 _ ⟨f,_,rfl,⟨⟨ma,mc,ks,rfl,aF,af⟩,rfl⟩⟩
  refine aG (f) ?_
  simp only[nil_append]
  refine AR [10,14] (by kernel_rfl) rfl ⟨?_,?_,trivial⟩
  ·refine sh rfl (hC (Fp P.st.blocks P.st.waits _ _ M4 (T.b.mono f) (T.w.mono f) aj ks ma mc af (by omega))) ?_;rintro _ U _ ⟨i,_,rfl,⟨Y,rfl⟩⟩
   refine aG ((f).trans i) ?_
   simp only[nil_append]
   obtain⟨da,db,e,rfl,Z⟩:=GR Y
   obtain⟨rfl,az,D,C⟩|⟨_,h9⟩:=Z
   rotate_left
   ·exact absurd (by omega) h9
   refine gk [11,12,13] ?_
   refine aO 14 ?_
   refine sh rfl (AM rfl rfl) ?_;rintro _ _ _ ⟨E,rfl,rfl,rfl⟩
   refine aG ((f.trans i)) ?_
   exact aR V (U,ks,da,db,E) ⟨f.trans i,D,C⟩
  refine sh rfl (AM rfl rfl) ?_;rintro _ _ _ ⟨E,rfl,rfl,rfl⟩
  refine aG (f) ?_
  refine aO 10 ?_
  refine sh rfl (hC (Fp P.st.blocks P.st.waits _ _ M4 (T.b.mono f) (T.w.mono f) aj ks ma mc af (by omega))) ?_;rintro _ U _ ⟨i,_,rfl,⟨Y,rfl⟩⟩
  refine aG ((f).trans i) ?_
  simp only[nil_append]
  obtain⟨da,db,e,rfl,Z⟩:=GR Y
  obtain⟨rfl,az,D,C⟩|⟨_,h9⟩:=Z
  rotate_left
  ·exact absurd (by omega) h9
  refine gk [11,12,13] ?_
  exact aR V (U,ks,da,db,E) ⟨f.trans i,D,C⟩
 refine sh rfl (AM rfl rfl) ?_;rintro _ _ _ ⟨E,rfl,rfl,rfl⟩
 refine aG (MLe.refl _) ?_
 refine aO 9 ?_
 refine sh rfl (hC (DH keep ka kc M3 (ag.mono (O.trans (ad.trans al))) ah y.w.n (by omega))) ?_;rintro _ M4 _ ⟨f,_,rfl,⟨⟨ma,mc,ks,rfl,aF,af⟩,rfl⟩⟩
 refine aG (f) ?_
 simp only[nil_append]
 refine aO 10 ?_
 refine sh rfl (hC (Fp P.st.blocks P.st.waits _ _ M4 (T.b.mono f) (T.w.mono f) aj ks ma mc af (by omega))) ?_;rintro _ U _ ⟨i,_,rfl,⟨Y,rfl⟩⟩
 refine aG ((f).trans i) ?_
 simp only[nil_append]
 obtain⟨da,db,e,rfl,Z⟩:=GR Y
 obtain⟨rfl,az,D,C⟩|⟨_,h9⟩:=Z
 rotate_left
 ·exact absurd (by omega) h9
 refine gk [11,12,13] ?_
 exact aR V (U,ks,da,db,E) ⟨f.trans i,D,C⟩
set_option maxRecDepth 8000
set_option maxHeartbeats 40000000
variable{k:Nat}{ts:List Tp}
theorem MX{p:Po}(hk:k<ts.length):Eh p (ts.take (k+1))=Zk (Eh p (ts.take k)) ts[k]:=by
 unfold Eh;rw[List.take_succ_eq_append_getElem hk,List.foldl_append];rfl
theorem RX{b x y:Po}(h:PSim b x y)(f:∃S,Fine x S [])(e:∃S,Fine y S [])(i:b.gen<=1000)(a:∀t∈ts,TpOk t)(k:Nat):PoN (Eh y (ts.take k))/\(Eh y (ts.take k)).dead.length<=1000000:=by
 obtain⟨d,_,S,c⟩:=RW (ts.take k) (λt g=>a t (mem_of_mem_take g)) h f e
 exact⟨c.pon (by rw[<-d.gen,d.bg];omega),by have:=c.dead;omega⟩
variable{t:Tp}
theorem wLy{p:Po}(h:¬t.kind=10):HA p t=Zk p t:=by unfold Zk;rw[if_neg h,wNn h]
theorem wLx{p:Po}(h:t.kind=10):Zk p t=p:=if_pos h
variable{M':Mem}{S:List Nat}{ks:List Bool}{n:List By}{u:Value}
theorem NL{p x:Po}(F:Fine p S [])(J:p.gen<=200)(hs:Saf x (Bn p)){l:List By}(s:Zg ⟨AW x.st.blocks (CQ ks x.st.waits),[],n,l⟩ u M'):
  ∃v q,u=.tuple #[.agg (AO v q.gen q.root q.next).toArray,.int .i64 0]/\PT5 M' v q/\Alk q (Bn p)/\PSim (Bn p) (Bn p) q/\∃S,Fine q S []:=by
 have a:=H3 hs ks False
 have E:(Bn p).gen=p.gen+1:=rfl
 have D:=F.gen
 have h:BD (MA (AW x.st.blocks (CQ ks x.st.waits))) 4=BD ⟨AW x.st.blocks (CQ ks x.st.waits),[],n,l⟩ 4:=Lo λk _=>rfl
 obtain⟨y,g,r,m,e,rfl,⟨_,_,f⟩|⟨rfl,_,k,C,b,t,o,rfl,rfl,rfl⟩⟩:=s
 ·have:=a.none λz d b=>(f a.1).2 z (by rw[<-h];exact d) ⟨b.ct,b.sum,b.chk⟩
  omega
 have j:wFj (MA (AW x.st.blocks (CQ ks x.st.waits))) k:=⟨by rw[h];exact C,⟨b.ct,b.sum,b.chk⟩,λz d B c=>t z (by rw[<-h];exact d) B ⟨c.ct,c.sum,c.chk⟩⟩
 obtain⟨⟨K,I⟩,c,H,i,G⟩:=a.again hs rfl j rfl
 refine⟨y,CP (MA (AW x.st.blocks (CQ ks x.st.waits))) k,rfl,o,H,Zf I i G rfl rfl ?_,c⟩
 have:=i.st.now
 exact this
theorem Wg(M:Mem)(t1:List Tp)(a1:Option Addr)(c1:Nat)(ac:TS M a1 t1)(ad:∀t∈t1,TpOk t)(a:List Tp)(a2:Option Addr)(c2:Nat)(J:TS M a2 a)(j:∀t∈a,TpOk t)(keep:List Bool)(ka:Option Addr)(kc:Nat)(aq:SM M ka (Bo keep))  :
  SpecL prog 3 #[.slice a1 t1.length c1,.slice a2 a.length c2,.slice ka keep.length kc] M [] λu M' L'=>u=.bool true/\L'=[]:=by
 refine sB func3 ntmps3 ?_;intro W
 refine gc (PC M) ?_;rintro _ M1 ab rfl
 refine gc (JI t1 a1 c1 M1 (ac.mono ab) 20 (by omega)) ?_;rintro _ M2 B ⟨hb,rfl,a6⟩
 refine Zi rfl (λa3=>?_) (λa3=>?_)
 ·refine gr ?_
  first|exact⟨rfl,rfl⟩|exact⟨by simp,rfl⟩
 refine gc (JI a a2 c2 M2 (J.mono (ab.trans B)) 20 (by omega)) ?_;rintro _ M3 az ⟨aM,rfl,ap⟩
 refine jp rfl ?_
 refine Zi rfl (λa0=>?_) (λa0=>?_)
 ·refine gr ?_
  first|exact⟨rfl,rfl⟩|exact⟨by simp,rfl⟩
 refine gj (λaF=>?_) λaF=>?_
 ·refine gr ?_
  first|exact⟨rfl,rfl⟩|exact⟨by simp,rfl⟩
 refine gh ?_
 have aK:=a6 a3
 have aJ:=ap a0
 have au:keep.length<=1000000:=by omega
 refine gc (SB t1 a1 c1 M3 (ac.mono (ab.trans (B.trans az))) (by omega) ad) ?_;rintro _ M4 aC ⟨y,z,rfl,hy,hz⟩
 obtain⟨X,av⟩:=QW (l:=t1) (by omega) ad
 generalize Bp t1=R at X av hy hz⊢
 obtain⟨P,Q⟩:=R
 dsimp only at X av hy hz⊢
 obtain⟨S,hf⟩:=X.fine
 have hn:=hf.pon (by omega)
 have ax:=hf.ask (by omega)
 have aw:=X.com (by omega)
 have E:=aw.fine
 have aa:(Bn P).gen<=1000:=by show P.gen+1<=1000;omega
 have K:PSim (Bn P) (Bn P) (Bn P):=PSim.rfl'
 refine EV λb8 b9=>?_
 refine gc (FP P _ M4 hy.pt hn) ?_;rintro _ Mc aB a8
 obtain⟨nx,g2,r2,n2,e2,rfl,⟨rfl,_,ao,rfl,rfl,rfl⟩|⟨_,h9,_⟩⟩:=a8.form
 rotate_left
 ·exact absurd ax h9
 have G:MLe M Mc:=ab.trans (B.trans (az.trans (aC.trans aB)))
 refine gt ?_
 refine ga λF=>?_
 refine Cz (α:=Nat×V5×Mem) (λc=>[(1,.slice a2 a.length c2),(2,.slice ka keep.length kc),(7,.bool true),(8,pB b8),(11,pB F),(12,.int .i64 (c.1:Int))]) (λc=>c.2.2) (λc=>[(F,cE (AO c.2.1 (Eh (Bn P) (a.take c.1)).gen (Eh (Bn P) (a.take c.1)).root (Eh (Bn P) (a.take c.1)).next) 36),(b9,cE (AO z (Q).gen (Q).root (Q).next) 36),(b8,cE (AO nx (Bn P).gen (Bn P).root (Bn P).next) 36)]) (λc=>c.1<=a.length/\MLe Mc c.2.2/\PT5 c.2.2 c.2.1 (Eh (Bn P) (a.take c.1))) (λc=>a.length-c.1) (0,nx,Mc) ⟨Nat.zero_le _,MLe.refl _,ao⟩ ?_
 rintro⟨k,v,U⟩ ⟨hk,d,o⟩
 try dsimp only at hk d o⊢
 refine gj (λaE=>?_) λaE=>?_
 ·refine gh ?_
  have g:k<a.length:=by omega
  obtain⟨sb,so,ss,e0,L,ae⟩:=J.at_ g
  refine lq (Ca (b:=sb) (off:=so) rfl rfl (by show some (Value.slice _ _ _)=_;rw[e0]) rfl (by omega)) ?_
  refine gh ?_
  refine lq (AE (v:=.int .u8 a[k].kind) rfl rfl rfl rfl (((L 0 _ rfl).mono (G.trans d)).cj _)) ?_
  refine gj (λak=>?_) λak=>?_
  ·refine gh ?_
   refine Hr [6] [6] [0,1,2,3,4,105,106] U (_) ([]) ?_
   refine gh ?_
   refine dq rfl (Ca (b:=sb) (off:=so) rfl rfl (by show some (Value.slice _ _ _)=_;rw[e0]) rfl (by omega)) ?_
   refine dq rfl (Bb (cs:=wGa a[k] ss) rfl rfl rfl rfl rfl (λi v o=>((L i v o).mono (G.trans d)).cj _)) ?_
   refine DA rfl rfl rfl (Bu rfl rfl rfl rfl rfl (by kernel_rfl) (MU (Eh (Bn P) (a.take k)) v U o (RX K E E aa j k).2 (RX K E E aa j k).1 a[k] ss (ae.mono (G.trans d)) (j _ (getElem_mem g)))) ?_;rintro _ M2 _ ⟨B,_,rfl,⟨⟨v2,rfl,af⟩,rfl⟩⟩
   refine⟨_,_,MLe.refl _,B,λ_ h=>h,λ_ h=>h,?_⟩
   simp only[nil_append]
   refine Ed rfl rfl (Ae rfl rfl rfl rfl rfl rfl rfl rfl) ?_;rintro _ _ _ ⟨rfl,rfl⟩
   refine⟨B,λ_ h=>(by cases h),?_⟩
   refine gh ?_
   have g:k<a.length:=by omega
   have T:Eh (Bn P) (a.take (k+1))=HA (Eh (Bn P) (a.take k)) a[k]:=by rw[MX g,wLy ak]
   refine Bw (k+1,v2,M2) ⟨by show k+1<=_;omega,d.trans B,by show PT5 M2 v2 (Eh (Bn P) (a.take (k+1)));rw[T];exact af⟩ (hs:=λ_ h=>by simp only[T];exact h)
  refine gh ?_
  have g:k<a.length:=by omega
  have T:Eh (Bn P) (a.take (k+1))=Eh (Bn P) (a.take k):=by rw[MX g,wLx (Classical.not_not.1 ak)]
  refine Bw (k+1,v,U) ⟨by show k+1<=_;omega,d,by show PT5 U v (Eh (Bn P) (a.take (k+1)));rw[T];exact o⟩ (hs:=λ_ h=>by simp only[T];exact h)
 refine gh ?_
 obtain rfl:k=a.length:=by omega
 obtain⟨V,aL⟩:=Lt (a.take a.length) (λt ht=>j t (mem_of_mem_take ht)) aw
 obtain⟨Sx,ag⟩:=V.fine
 have Z:=ag.en.ok.1
 have hw:=o
 have N:=d
 generalize v=w at hw⊢
 generalize U=Mw at hw N⊢
 clear o d
 have aH:w.w.n=(Eh (Bn P) (a.take a.length)).st.waits.length:=hw.w.len
 have aI:(Eh (Bn P) (a.take a.length)).st.waits.length<=4096:=Z.2.1
 refine Cg ([(F,cE (AO w (Eh (Bn P) (a.take a.length)).gen (Eh (Bn P) (a.take a.length)).root (Eh (Bn P) (a.take a.length)).next) 36),(b9,cE (AO z (Q).gen (Q).root (Q).next) 36),(b8,cE (AO nx (Bn P).gen (Bn P).root (Bn P).next) 36)]) (by kernel_rfl) ((λ_ h=>h)) ?_
 refine gk [0,1,2,3,4,5,6] ?_
 refine Ch (α:=Mem×V5×Po×Nat) (λz1=>MLe Mw z1.1/\PT5 z1.1 z1.2.1 z1.2.2.1/\Alk z1.2.2.1 (Bn P)/\PSim (Bn P) (Bn P) z1.2.2.1/\∃S,Fine z1.2.2.1 S []) (λz1=>[(1,.slice a2 a.length c2),(2,.slice ka keep.length kc),(7,.bool true),(8,pB b8),(11,pB F),(13,.pointer (some ⟨z1.2.2.2,0,none⟩)),(73,.agg (AO z1.2.1 z1.2.2.1.gen z1.2.2.1.root z1.2.2.1.next).toArray),(74,.int .i64 0)]) (λz1=>z1.1) (λz1=>[(z1.2.2.2,cE (AO Ef 0 0 0) 36),(F,cE (AO w (Eh (Bn P) (a.take a.length)).gen (Eh (Bn P) (a.take a.length)).root (Eh (Bn P) (a.take a.length)).next) 36),(b9,cE (AO z (Q).gen (Q).root (Q).next) 36),(b8,cE (AO nx (Bn P).gen (Bn P).root (Bn P).next) 36)]) 2 #[true,true,true,true,true,true,true,true,true,true,true,true,true,false,false] ?_ (λH=>?_)
 ·rintro ⟨M5,v,q,D⟩ ⟨O,o,m,e,r⟩
  try dsimp only at O o m e r⊢
  refine aO 13 ?_
  refine My rfl rfl (Ae rfl rfl rfl rfl rfl rfl rfl rfl) ?_;rintro _ _ _ ⟨rfl,rfl⟩
  refine aG (O) ?_
  refine gk [14] ?_
  refine D3 (by kernel_rfl) ?_
  refine gg ?_
  have a5:q.dead.length<=1000000:=by obtain⟨S3,h3⟩:=r;have:=h3.dead;omega
  have a9:(Bn P).dead.length<=1000000:=by have:=hf.dead;show P.dead.length<=1000000;omega
  refine gt ?_
  refine gc (Fu q (Bn P) v nx M5 o (ao.mono (N.trans O)) a5 a9 m) ?_;rintro _ M6 ai rfl
  refine gh ?_
  have ah:MLe M M6:=G.trans (N.trans (O.trans ai))
  refine Cz (α:=Nat×V5×Mem) (λc=>[(1,.slice a2 a.length c2),(7,.bool true),(11,pB F),(13,pB D),(15,.int .i64 (c.1:Int))]) (λc=>c.2.2) (λc=>[(D,cE (AO c.2.1 (Eh q (a.take c.1)).gen (Eh q (a.take c.1)).root (Eh q (a.take c.1)).next) 36),(F,cE (AO w (Eh (Bn P) (a.take a.length)).gen (Eh (Bn P) (a.take a.length)).root (Eh (Bn P) (a.take a.length)).next) 36),(b9,cE (AO z (Q).gen (Q).root (Q).next) 36),(b8,cE (AO nx (Bn P).gen (Bn P).root (Bn P).next) 36)]) (λc=>c.1<=a.length/\MLe M6 c.2.2/\PT5 c.2.2 c.2.1 (Eh q (a.take c.1))) (λc=>a.length-c.1) (0,v,M6) ⟨Nat.zero_le _,MLe.refl _,o.mono ai⟩ ?_
  rintro⟨k,v,U⟩ ⟨hk,d,o⟩
  try dsimp only at hk d o⊢
  refine gj (λaD=>?_) λaD=>?_
  ·refine gh ?_
   have g:k<a.length:=by omega
   obtain⟨sb,so,ss,e0,L,ae⟩:=J.at_ g
   refine lq (Ca (b:=sb) (off:=so) rfl rfl (by show some (Value.slice _ _ _)=_;rw[e0]) rfl (by omega)) ?_
   refine gh ?_
   refine lq (AE (v:=.int .u8 a[k].kind) rfl rfl rfl rfl (((L 0 _ rfl).mono (ah.trans d)).cj _)) ?_
   refine gj (λaj=>?_) λaj=>?_
   ·refine gh ?_
    refine Hr [6] [6] [0,1,2,3,4,105,106] U (_) ([]) ?_
    refine gh ?_
    refine dq rfl (Ca (b:=sb) (off:=so) rfl rfl (by show some (Value.slice _ _ _)=_;rw[e0]) rfl (by omega)) ?_
    refine dq rfl (Bb (cs:=wGa a[k] ss) rfl rfl rfl rfl rfl (λi v o=>((L i v o).mono (ah.trans d)).cj _)) ?_
    refine DA rfl rfl rfl (Bu rfl rfl rfl rfl rfl (by kernel_rfl) (MU (Eh q (a.take k)) v U o (RX e E r aa j k).2 (RX e E r aa j k).1 a[k] ss (ae.mono (ah.trans d)) (j _ (getElem_mem g)))) ?_;rintro _ M2 _ ⟨B,_,rfl,⟨⟨v2,rfl,af⟩,rfl⟩⟩
    refine⟨_,_,MLe.refl _,B,λ_ h=>h,λ_ h=>h,?_⟩
    simp only[nil_append]
    refine Ed rfl rfl (Ae rfl rfl rfl rfl rfl rfl rfl rfl) ?_;rintro _ _ _ ⟨rfl,rfl⟩
    refine⟨B,λ_ h=>(by cases h),?_⟩
    refine gh ?_
    have g:k<a.length:=by omega
    have T:Eh q (a.take (k+1))=HA (Eh q (a.take k)) a[k]:=by rw[MX g,wLy aj]
    refine Bw (k+1,v2,M2) ⟨by show k+1<=_;omega,d.trans B,by show PT5 M2 v2 (Eh q (a.take (k+1)));rw[T];exact af⟩ (hs:=λ_ h=>by simp only[T];exact h)
   refine gh ?_
   have g:k<a.length:=by omega
   have T:Eh q (a.take (k+1))=Eh q (a.take k):=by rw[MX g,wLx (Classical.not_not.1 aj)]
   refine Bw (k+1,v,U) ⟨by show k+1<=_;omega,d,by show PT5 U v (Eh q (a.take (k+1)));rw[T];exact o⟩ (hs:=λ_ h=>by simp only[T];exact h)
  refine gh ?_
  obtain rfl:k=a.length:=by omega
  obtain⟨am,_,Sy,I⟩:=RW (a.take a.length) (λt ht=>j t (mem_of_mem_take ht)) e E r
  have aA:=(am.peq I.en.ok).alk ag I am.gen
  have a4:(Eh (Bn P) (a.take a.length)).dead.length<=1000000:=by have:=ag.dead;omega
  have al:(Eh q (a.take a.length)).dead.length<=1000000:=by have:=I.dead;omega
  refine gc (LX (Eh q (a.take a.length)) v U o al) ?_;rintro _ Md ay rfl
  rw[I.cnt,I.chk]
  refine gc (Fu (Eh (Bn P) (a.take a.length)) (Eh q (a.take a.length)) w v Md (hw.mono (O.trans (ai.trans (d.trans ay)))) (o.mono ay) a4 al aA) ?_;rintro _ Me aN rfl
  refine gr ?_
  first|exact⟨rfl,rfl⟩|exact⟨by simp,rfl⟩
 refine AR [7,12] (by kernel_rfl) rfl ⟨?_,?_,trivial⟩
 ·refine sh rfl (hC (DH keep ka kc Mw (aq.mono (G.trans N)) au w.w.n (by omega))) ?_;rintro _ M4 _ ⟨f,_,rfl,⟨⟨ma,mc,ks,rfl,a7,Y⟩,rfl⟩⟩
  refine aG (f) ?_
  simp only[nil_append]
  refine AR [8,12] (by kernel_rfl) rfl ⟨?_,?_,trivial⟩
  ·refine sh rfl (hC (Hn (Eh (Bn P) (a.take a.length)) w M4 (hw.mono f) Z ks ma mc Y (by omega))) ?_;rintro _ M5 _ ⟨C,_,rfl,⟨s,rfl⟩⟩
   refine aG ((f).trans C) ?_
   simp only[nil_append]
   unfold CrP at s
   rw[if_pos (by omega)]at s
   obtain⟨v,q,rfl,o,m,e,r⟩:=NL hf (by omega) V s
   refine gk [9,10,11] ?_
   refine aO 12 ?_
   refine sh rfl (AM rfl rfl) ?_;rintro _ _ _ ⟨D,rfl,rfl,rfl⟩
   refine aG ((f.trans C)) ?_
   exact aR H (M5,v,q,D) ⟨f.trans C,o,m,e,r⟩
  refine sh rfl (AM rfl rfl) ?_;rintro _ _ _ ⟨D,rfl,rfl,rfl⟩
  refine aG (f) ?_
  refine aO 8 ?_
  refine sh rfl (hC (Hn (Eh (Bn P) (a.take a.length)) w M4 (hw.mono f) Z ks ma mc Y (by omega))) ?_;rintro _ M5 _ ⟨C,_,rfl,⟨s,rfl⟩⟩
  refine aG ((f).trans C) ?_
  simp only[nil_append]
  unfold CrP at s
  rw[if_pos (by omega)]at s
  obtain⟨v,q,rfl,o,m,e,r⟩:=NL hf (by omega) V s
  refine gk [9,10,11] ?_
  exact aR H (M5,v,q,D) ⟨f.trans C,o,m,e,r⟩
 refine sh rfl (AM rfl rfl) ?_;rintro _ _ _ ⟨D,rfl,rfl,rfl⟩
 refine aG (MLe.refl _) ?_
 refine aO 7 ?_
 refine sh rfl (hC (DH keep ka kc Mw (aq.mono (G.trans N)) au w.w.n (by omega))) ?_;rintro _ M4 _ ⟨f,_,rfl,⟨⟨ma,mc,ks,rfl,a7,Y⟩,rfl⟩⟩
 refine aG (f) ?_
 simp only[nil_append]
 refine aO 8 ?_
 refine sh rfl (hC (Hn (Eh (Bn P) (a.take a.length)) w M4 (hw.mono f) Z ks ma mc Y (by omega))) ?_;rintro _ M5 _ ⟨C,_,rfl,⟨s,rfl⟩⟩
 refine aG ((f).trans C) ?_
 simp only[nil_append]
 unfold CrP at s
 rw[if_pos (by omega)]at s
 obtain⟨v,q,rfl,o,m,e,r⟩:=NL hf (by omega) V s
 refine gk [9,10,11] ?_
 exact aR H (M5,v,q,D) ⟨f.trans C,o,m,e,r⟩
end Go.Proofs.YtdahhoicackcaaaGreat
