/- THE WALKING LAYER: maps from int to any values. No statement of the seat is proved here. -/
import Derived.Test.YtdahhoicackcaaaGreatZHn
import Derived.Test.YtdahhoicackcaaaGreatZMake
import Derived.Test.YtdahhoicackcaaaGreatZSp
import Derived.Test.YtdahhoicackcaaaGreatZOwn
import Derived.MapKept
import Derived.ArgAppend
namespace Go.Proofs.YtdahhoicackcaaaGreat
open Go.Proofs.Tryz
set_option linter.unusedSimpArgs false
set_option linter.unusedVariables false
set_option linter.unusedSectionVars false
open Go.RowKit
set_option maxRecDepth 8000
set_option maxHeartbeats 40000000
theorem Own.empty(b:Nat)(e:TypeId)(a:Nat):Own (.slice (some ⟨b,0,none⟩) 0 0) [(b,cE ([]:List Value) e)] e a 0 []:=⟨by simp,.inr ⟨b,0,#[],rfl,rfl,by omega,by decide,by simp,by simp⟩⟩
abbrev Sa:TypeId:=29
def DK(M:Mem)(v:Value)(bs:List (List By))(ws:List Wt):Prop:=∃bv wv,v=.agg #[bv,wv]/\LS M bv bs/\WS M wv ws
variable{M:Mem}
theorem WS.nil:WS M (.slice none 0 0) []:=⟨none,0,[],rfl,Nat.le_refl _,SM.nil,rfl,λ_ h=>by cases h⟩
def AW(bs:List (List By))(ws:List Wt):List (List By):=ws.foldl (λb w=>b.set w.1.toNat w.2) bs
theorem F1(bs:List (List By))(ws:List Wt):(AW bs ws).length=bs.length:=by
 unfold AW
 induction ws generalizing bs with
 |nil=>rfl
 |cons w ws a=>rw[List.foldl_cons,a];simp
variable{bs:List (List By)}{k:Nat}{ws:List Wt}
theorem XU(h:k<ws.length):AW bs (ws.take (k+1))=(AW bs (ws.take k)).set ws[k].1.toNat ws[k].2:=by
 rw[List.take_succ_eq_append_getElem h];unfold AW;rw[List.foldl_append];rfl
theorem ZM(h:∀b∈bs,b.length=128)(d:∀w∈ws,w.2.length=128):∀b∈AW bs ws,b.length=128:=by
 unfold AW
 induction ws generalizing bs with
 |nil=>exact h
 |cons w ws e=>
  rw[List.foldl_cons]
  refine e (λb c=>?_) (λw a=>d w (List.mem_cons_of_mem _ a))
  rcases List.mem_or_eq_of_mem_set c with c|rfl
  ·exact h b c
  exact d w (by simp)
variable{ws0:List Wt}
theorem Ka(h:dkOk bs ws0)(a:∀w∈ws,w.2.length=128):dkOk (AW bs ws) []:=⟨by rw[F1];exact h.1,by simp,ZM h.2.2.1 a,λ_ h=>by cases h⟩
theorem T4(c:Nat)(M:Mem):
  SpecL prog 80 #[.slice none 0 c] M [] λv _ a=>Own v a 30 1 0 []:=by
 refine sB func80 ntmps80 ?_;intro W
 refine gh ?_
 refine lq (Bc (KY rfl rfl rfl rfl) (v':=.bool true) (by simp)) ?_
 refine gr ?_
 grind[Own.nil]
theorem RN(b:Addr)(n c:Nat)(a:List Value)(M:Mem)(hs:SM M (some b) a)(j:a.length=n)(e:∀v∈a,v.oneCell'=true)(i:n<=1000000):
  SpecL prog 80 #[.slice (some b) n c] M [] λv _ g=>Own v g 30 1 n a:=by
 refine sB func80 ntmps80 ?_;intro W
 refine gh ?_
 refine lq (Bc (KY rfl rfl rfl rfl) (v':=.bool false) (by simp)) ?_
 refine gh ?_
 refine lh (Aa (z:=[.slice none 0 0]) (cs:=[]) rfl rfl rfl (by rfl) (by rfl) (by rfl)) ?_;rintro _ _ _ ⟨f,rfl,rfl,rfl⟩
 refine gh ?_
 refine lh (Dx (n:=0) (xs:=[]) (news:=a) rfl rfl rfl rfl (Own.empty f _ _) (by omega) hs rfl e (by omega) (by decide)) ?_;rintro h _ _ ⟨rfl,k,rfl,d⟩
 refine jp rfl ?_
 refine Am (jT (Bs ?_))
 refine Gd rfl rfl ?_
 grind
theorem RM(a:Option Addr)(n c:Nat)(d:List Value)(M:Mem)(hs:SM M a d)(e:d.length=n)(g:∀v∈d,v.oneCell'=true)(f:n<=1000000):SpecL prog 80 #[.slice a n c] M [] λv _ j=>Own v j 30 1 n d:=by
 cases a with
 |none=>
  have i:d=[]:=hs.elim id (λ⟨_,_,h,_⟩=>by cases h)
  subst i
  have:n=0:=by simpa using e.symm
  subst this
  exact T4 c M
 |some b=>exact RN b n c d M hs e g f
theorem Sq(bs:List (List By))(z ws:List Wt)(y:Option Addr)(t:Nat)(b:List (List By×Value))(X:Value)(V:Option Addr)(U:Nat)(f:List (Wt×Value))(M:Mem)(ai:bs.length<=t)(I:SM M y (b.map (·.2)))(J:b.map (·.1)=bs)(s:∀p∈b,BS M p.2 p.1)(ah:ws.length<=U)(H:SM M V (f.flatMap AT))(n:f.map (·.1)=ws)(O:∀p∈f,BS M p.2 p.1.2)(o:dkOk bs z)(Y:∀w∈ws,0<=w.1/\w.1<256/\w.2.length=128)(ac:ws.length<=4096):
  SpecL prog 38 #[.agg #[.slice y bs.length t,X],.slice V ws.length U] M [] λu M' L'=>DK M' u (AW bs ws) []/\L'=[]:=by
 have aj:bs.length=256:=o.1
 have af:b.length=256:=by grind
 refine sB func38 ntmps38 ?_;intro W
 refine EV λb2 b4=>?_
 refine gC (RM y bs.length t (b.map (·.2)) M I (by rw[List.length_map];omega) (λv G=>by obtain⟨p,d,rfl⟩:=List.mem_map.1 G;obtain⟨_,_,h,_⟩:=s p d;rw[h];rfl) (by omega)) ?_;rintro _ M1 R1 hM1 a
 obtain⟨g,m,al,T,e1,r,_⟩:=a.open (by omega)
 subst T
 refine ga λb5=>?_
 refine Cz (α:=Nat×Lc×List (List By×Value)) (λx=>[(4,pB b4),(5,pB b5),(12,.slice V ws.length U),(13,.int .i64 ws.length),(14,.int .i64 x.1)]) (λ_=>M1) (λx=>(b5,cE [.slice (some ⟨g,0,none⟩) bs.length m,.slice none 0 0] Sa)::(x.2.1++[(b4,cE [.slice none 0 0,.slice none 0 0] Sa),(b2,cE [.slice y bs.length t,X] Sa)])) (λx=>x.1<=ws.length/\Own (.slice (some ⟨g,0,none⟩) bs.length m) x.2.1 30 1 bs.length (x.2.2.map (·.2))/\x.2.2.map (·.1)=AW bs (ws.take x.1)/\∀p∈x.2.2,BS M1 p.2 p.1) (λx=>ws.length-x.1) (0,R1,b) ⟨Nat.zero_le _,a,by rw[List.take_zero];exact J,λp d=>(s p d).mono hM1⟩ ?_
 rintro⟨k,R,D⟩ ⟨hk,a,c,j⟩
 try dsimp only at hk a c j⊢
 refine gj (λS=>?_) λS=>?_
 ·refine gh ?_
  have l:k<ws.length:=by omega
  obtain⟨sb,so,T,hx⟩:=H.open (by intro e;have:=congrArg List.length e;rw[Aj AT 2 Bl,List.length_nil]at this;have h2:=congrArg List.length n;rw[List.length_map]at h2;omega)
  subst T
  obtain⟨C,B,N,F,E⟩:=Ei hx n O l
  have ad:=Y ws[k] (List.getElem_mem l)
  refine gh ?_
  refine lq (Bb (cs:=Wj ws[k] C B) rfl rfl rfl rfl rfl (λi v G=>((N i v G).mono hM1).cj _)) ?_
  refine ga λb7=>?_
  refine Dz rfl (CZ rfl rfl rfl rfl rfl rfl a rfl (by omega)) ?_;rintro _ _ _ ⟨rfl,R2,rfl,K⟩
  refine gh ?_
  refine Bw (k+1,R2,D.set ws[k].1.toNat (ws[k].2,.slice C ws[k].2.length B)) ⟨by show k+1<=ws.length;omega,?_,?_,?_⟩ (hs:=λw h=>(h.perm (List.perm_append_comm_assoc R2 [_,_] [_,_])).fewer (.cons _ (.refl _)))
  ·simp_all
  ·show (D.set _ _).map (·.1)=AW bs (ws.take (k+1));rw[List.map_set,c,XU l]
  intro p d
  rcases List.mem_or_eq_of_mem_set d with d|rfl
  ·exact j p d
  exact BS.mono ⟨C,B,rfl,F,E⟩ hM1
 refine gh ?_
 obtain rfl:k=ws.length:=by omega
 rw[List.take_length]at c
 simp only[List.cons_append,List.nil_append]
 refine EM a (by simp) ?_
 intro Mf fa fc P ef ag L;cases ef
 have ae:(AW bs ws).length=256:=by grind[F1]
 have Q:LS Mf (.slice (some ⟨g,0,none⟩) bs.length m) (AW bs ws):=⟨_,_,D,by rw[F1],by rw[F1];exact r,L,c,λp d=>(j p d).mono P⟩
 refine gc (Ps (AW bs ws) [] _ _ Mf Q WS.nil (Ka o (λw h=>(Y w h).2.2))) ?_;rintro _ M2 ak ⟨am,aa,rfl,hB,Z⟩
 obtain⟨ba,bc,ao,rfl,_⟩:=id hB
 obtain⟨wa,wc,ab,rfl,_⟩:=id Z
 refine gr ?_
 exact⟨⟨_,_,rfl,hB,Z⟩,rfl⟩
theorem LG(bs:List (List By))(a ws:List Wt)(u b v:Value)(M:Mem)(r:LS M u bs)(o:WS M v ws)(j:dkOk bs a)(y:∀w∈ws,0<=w.1/\w.1<256/\w.2.length=128)(e:ws.length<=4096):SpecL prog 38 #[.agg #[u,b],v] M [] λu s t=>DK s u (AW bs ws) []/\t=[]:=by
 obtain⟨D,B,d,rfl,l,g,i,n⟩:=r
 obtain⟨C,z,c,rfl,k,f,h,m⟩:=o
 grind[Sq]
theorem dkOk.w(h:dkOk bs ws):∀w∈ws,0<=w.1/\w.1<256/\w.2.length=128:=h.2.2.2
theorem KG(bs:List (List By))(ws:List Wt)(e c:Value)(M:Mem)(j:LS M e bs)(i:WS M c ws)(a:dkOk bs ws):
  SpecL prog 23 #[.agg #[e,c]] M [] λu r s=>(∃d,u=.tuple #[d,.int .i64 0]/\DK r d (AW bs ws) [])/\s=[]:=by
 have f:GY bs ws=0:=if_pos a
 refine sB func23 ntmps23 ?_;intro W
 refine EV λD C=>?_
 refine gQ (CK bs ws e c M j i) ?_
 refine jf rfl (decide_eq_false (by first|omega|(rw[f];decide))) ?_
 refine gc (LG bs ws ws e c _ M (j) i a a.w (by exact a.2.1)) ?_;rintro _ E m b
 obtain⟨n,k,rfl,h,g⟩:=b
 obtain⟨B,z,o,rfl,_⟩:=id h
 obtain⟨y,t,l,rfl,_⟩:=id g
 refine gr ?_
 exact⟨⟨_,rfl,_,_,rfl,h,g⟩,rfl⟩
theorem HE(bs:List (List By))(ws:List Wt)(d b:Value)(M:Mem)(f:LS M d bs)(e:WS M b ws)(c:dkOk bs ws)(k:Int)(hk:0<=k/\k<256):
  SpecL prog 143 #[.agg #[d,b],.int .i64 k] M [] λu _ _=>u=.int .i64 0:=by
 have a:GY bs ws=0:=if_pos c
 refine sB func143 ntmps143 ?_;intro W
 refine ga λg=>?_
 refine gQ (CK bs ws d b M f e) ?_
 refine jf rfl (decide_eq_false (by first|omega|(rw[a];decide))) ?_
 refine gg ?_
 refine jf rfl (decide_eq_false (by first|omega|(rw[a];decide))) ?_
 refine gg ?_
 refine jf rfl (decide_eq_false (by first|omega|(rw[a];decide))) ?_
 refine gr ?_
 rfl
theorem Hy(bs:List (List By))(ws:List Wt)(U V:Value)(M:Mem)(Q:LS M U bs)(P:WS M V ws)(l:dkOk bs ws)(k:Int)(hk:0<=k/\k<256)(a:List By)(Z:Value)(X:BS M Z a)(ah:a.length=128)(af:ws.length<4096):
  SpecL prog 100 #[.agg #[U,V],.int .i64 k,Z] M [] λu M' L'=>(∃d,u=.tuple #[d,.int .i64 0]/\DK M' d bs (ws++[(k,a)]))/\L'=[]:=by
 have ak:=Q
 have aj:=P
 obtain⟨a2,c2,s,rfl,J,B,F,L⟩:=id P
 obtain⟨da,dc,rfl,ai,ag⟩:=id X
 refine sB func100 ntmps100 ?_;intro W
 refine EV λb3 b6=>?_
 refine gQ (HE bs ws U _ M Q P l k hk) ?_
 refine gt ?_
 obtain⟨a1,c1,t,rfl,K,C,G,N⟩:=id Q
 refine gC (Qw bs ws a1 c1 t a2 c2 s M K C G N J B F L l) ?_;rintro _ M1 Rw O ⟨ao,aa,rfl,Y,qs,E,D,c⟩
 obtain⟨r,o,rfl⟩:=c.form
 obtain⟨ba,bc,ap,rfl,_⟩:=id Y
 refine ga λb9=>?_
 refine Hr [9] [9] [0,1,2,3,104,5,106,107,8,109] M1 ([(b9,cE [.slice ba bs.length bc,.slice r ws.length o] Sa)]) ([]) ?_
 refine gh ?_
 refine dh rfl (hC (Bv _ a M1 (X.mono O) (by omega))) ?_;rintro _ M2 _ ⟨b,Rc,rfl,e⟩
 refine⟨b,by simp,?_⟩
 obtain⟨ca,cc,rfl⟩:=e.form
 refine gh ?_
 refine DA rfl rfl rfl (Aa (cs:=[_,_]) rfl rfl rfl (by rfl) (by rfl) (by rfl)) ?_;rintro _ _ _ ⟨aq,rfl,rfl,rfl⟩
 refine⟨_,_,MLe.refl _,b,λ_ h=>h,by simp,?_⟩
 refine DA rfl rfl rfl (Ba (R:=Rw) (m:=1) (news:=[.int .i64 k,.slice ca a.length cc]) rfl rfl rfl rfl c rfl (λi v hv=>CJ.loc (by simpa using hv)) rfl (by rfl) (by simp[Value.oneCell']) (by omega) (by omega)) ?_;rintro _ _ _ ⟨rfl,au,rfl,f,_⟩
 refine⟨_,_,MLe.refl _,b,λ_ h=>h,by simp,?_⟩
 obtain⟨ae,ac,rfl⟩:=f.form
 refine dq rfl (Ak rfl rfl rfl rfl rfl) ?_
 refine Ed rfl rfl (Ae rfl rfl rfl rfl rfl rfl rfl rfl) ?_;rintro _ _ _ ⟨rfl,rfl⟩
 refine⟨b,by simp,?_⟩
 refine gh ?_
 refine Cj e (by simp) ?_
 intro Ma am al n T I H;cases T
 refine Cj f (by simp) ?_
 intro Mb ad ab g S z y;cases S
 refine gr ?_
 refine⟨⟨_,rfl,_,_,rfl,Y.mono (b.trans (n.trans g)),?_⟩,rfl⟩
 refine⟨_,_,qs++[((k,a),.slice ca a.length cc)],by rw[List.length_append];rfl,by rw[List.length_append];exact z,?_,by rw[List.map_append,E];rfl,?_⟩
 ·rw [List.flatMap_append];exact y
 intro p j;rcases List.mem_append.1 j with j|j
 ·exact (D p j).mono (b.trans (n.trans g))
 rw[List.mem_singleton.1 j];exact⟨_,_,rfl,I,H.mono g⟩
def CQ:List Bool->List Wt->List Wt
 |b::bs,w::ws=>if b then w::CQ bs ws else CQ bs ws
 |_,_=>[]
theorem Hp:∀{bs:List Bool}{ws:List Wt}{w:Wt},w∈CQ bs ws->w∈ws
 |[],_,_,h=>by simp[CQ]at h
 |_::_,[],_,h=>by simp[CQ]at h
 |b::bs,x::ws,w,h=>by
  unfold CQ at h
  split at h
  ·rcases List.mem_cons.1 h with rfl|h
   ·simp
   exact List.mem_cons_of_mem _ (Hp h)
  exact List.mem_cons_of_mem _ (Hp h)
theorem N4:∀{bs:List Bool}{ws:List Wt},(CQ bs ws).length<=ws.length
 |[],_=>by simp[CQ]
 |_::_,[]=>by simp[CQ]
 |b::bs,x::ws=>by
  have:=N4 (bs:=bs) (ws:=ws)
  unfold CQ
  split<;>simp only[List.length_cons]<;>omega
theorem La:∀{bs:List Bool}{ws:List Wt}{k:Nat}(h:k<bs.length)(a:k<ws.length),CQ (bs.take (k+1)) ws=CQ (bs.take k) ws++(if bs[k]then [ws[k]]else [])
 |[],_,_,h,_=>by cases h
 |_::_,[],_,_,h=>by cases h
 |b::bs,x::ws,0,_,_=>by cases b<;>simp[CQ]
 |b::bs,x::ws,k+1,h,a=>by
  have:=La (bs:=bs) (ws:=ws) (k:=k) (by simpa using h) (by simpa using a)
  cases b<;>simp[CQ,this]
def Bo(xs:List Bool):List Value:=xs.map Value.bool
theorem Fp(bs:List (List By))(ws:List Wt)(B wv:Value)(M:Mem)(h1:LS M B bs)(D:WS M wv ws)(f:dkOk bs ws)(keep:List Bool)(I:Option Addr)(kc:Nat)(P:SM M I (Bo keep))(ah:keep.length<=1000000):
  SpecL prog 14 #[.agg #[B,wv],.slice I keep.length kc] M [] λu M' L'=>(if keep.length=ws.length then ∃d,u=.tuple #[d,.int .i64 0]/\DK M' d (AW bs (CQ keep ws)) []else u=.tuple #[.agg #[.slice none 0 0,.slice none 0 0],.int .i64 2])/\L'=[]:=by
 have U:GY bs ws=0:=if_pos f
 have z:=h1
 have X:=D
 obtain⟨a2,c2,ae,rfl,ai,N,s,V⟩:=id D
 have af:ws.length<=4096:=f.2.1
 refine sB func14 ntmps14 ?_;intro W
 refine EV λb2 b4=>?_
 refine gQ (CK bs ws B _ M z X) ?_
 refine jf rfl (decide_eq_false (by first|omega|(rw[U];decide))) ?_
 refine gj (λZ=>?_) λZ=>?_
 ·refine gr ?_
  exact⟨by rw[if_neg (by omega)];rfl,rfl⟩
 refine gh ?_
 refine Cz (α:=Nat×Lc×Value×List (Wt×Value)) (λx=>[(2,pB b2),(4,pB b4),(7,x.2.2.1),(23,.slice I keep.length kc),(24,.int .i64 keep.length),(25,.int .i64 x.1)]) (λ_=>M) (λx=>x.2.1++[(b4,cE [.slice none 0 0,.slice none 0 0] Sa),(b2,cE [B,.slice a2 ws.length c2] Sa)]) (λx=>x.1<=keep.length/\Own x.2.2.1 x.2.1 WT 2 (CQ (keep.take x.1) ws).length (x.2.2.2.flatMap AT)/\x.2.2.2.map (·.1)=CQ (keep.take x.1) ws/\∀p∈x.2.2.2,BS M p.2 p.1.2) (λx=>keep.length-x.1) (0,[],.slice none 0 0,[]) ⟨Nat.zero_le _,Own.nil _ _,rfl,λ_ h=>by cases h⟩ ?_
 rintro⟨k,R,v,C⟩ ⟨hk,a,j,g⟩
 try dsimp only at hk a j g⊢
 refine gj (λY=>?_) λY=>?_
 ·refine gg ?_
  have o:k<ws.length:=by omega
  have n:k<keep.length:=by omega
  obtain⟨kb,ko,e0,O⟩:=P.open (by intro e;have:=congrArg List.length e;simp only[Bo,List.length_map,List.length_nil]at this;omega)
  subst e0
  refine gg ?_
  refine Br rfl rfl (AE (v:=.bool keep[k]) rfl rfl rfl rfl ((O _ _ (by rw[Nat.mul_one];simp[Bo,n])).cj _)) (λr=>?_) (λr=>?_)
  ·refine gh ?_
   obtain⟨sb,so,e0,hx⟩:=N.open (by intro e;have:=congrArg List.length e;rw[Aj AT 2 Bl,List.length_nil]at this;have D:=congrArg List.length s;rw[List.length_map]at D;omega)
   subst e0
   obtain⟨F,E,T,K,J⟩:=Ei hx s V o
   refine gh ?_
   refine lq (Bb (cs:=Wj ws[k] F E) rfl rfl rfl rfl rfl (λi v L=>(T i v L).cj _)) ?_
   refine lh (Aa (cs:=[_,_]) rfl rfl rfl (by rfl) (by rfl) (by rfl)) ?_;rintro _ _ _ ⟨ap,rfl,rfl,rfl⟩
   refine lh (Ba (R:=R) (m:=1) rfl rfl rfl rfl a rfl (λi v L=>CJ.loc (by simpa using L)) rfl (by rfl) (by simp[Value.oneCell']) (by have:=N4 (bs:=keep.take k) (ws:=ws);omega) (by omega)) ?_;rintro ad _ _ ⟨rfl,R2,rfl,c,_⟩
   obtain⟨H,G,rfl⟩:=c.form
   refine gh ?_
   have b:=La (ws:=ws) n o
   rw[r,if_pos rfl]at b
   refine Bw (k+1,R2,.slice H _ G,C++[(ws[k],.slice F ws[k].2.length E)]) ⟨by show k+1<=keep.length;omega,?_,?_,?_⟩ (hs:=λw h=>(h.perm (List.perm_append_comm_assoc R2 [_] [_,_])).fewer (.cons _ (.refl _)))
   ·show Own _ _ _ _ (CQ (keep.take (k+1)) ws).length _;rw[b,List.length_append,List.flatMap_append];exact c
   ·grind
   intro p l;rcases List.mem_append.1 l with l|l
   ·exact g p l
   rw[List.mem_singleton.1 l];exact⟨F,E,rfl,K,J⟩
  refine gh ?_
  have b:=La (ws:=ws) n o
  rw[r,if_neg (by decide)]at b
  rw[List.append_nil]at b
  refine Bw (k+1,R,v,C) ⟨by show k+1<=keep.length;omega,?_,?_,?_⟩
  ·grind
  ·grind
  omega
 refine gh ?_
 obtain rfl:k=keep.length:=by omega
 rw[List.take_length]at a j
 obtain⟨al,ak,rfl⟩:=a.form
 refine EM a (by simp) ?_
 intro Mf fa fc y ef S Q;cases ef
 have aa:=N4 (bs:=keep) (ws:=ws)
 have ag:C.length=(CQ keep ws).length:=by grind
 refine gc (LG bs ws (CQ keep ws) B _ _ Mf (z.mono y) ⟨_,_,C,rfl,S,Q,j,λp l=>(g p l).mono y⟩ f (λw h=>f.w w (Hp h)) (by omega)) ?_;rintro _ M1 aj t
 obtain⟨am,ab,rfl,hB,hW⟩:=t
 obtain⟨ba,bc,ao,rfl,_⟩:=id hB
 obtain⟨wa,wc,ac,rfl,_⟩:=id hW
 refine gr ?_
 exact⟨by rw[if_pos (by omega)];exact⟨_,rfl,_,_,rfl,hB,hW⟩,rfl⟩
set_option maxRecDepth 8000
set_option maxHeartbeats 40000000
variable{n:Nat}
theorem Yb{y:Nat}{pre:List Nat}(h:pre++[y]<+:List.range n):y=pre.length/\y<n/\pre=List.range pre.length:=by
 obtain⟨r,c⟩:=h
 have b:(pre++[y]++r)[pre.length]? =some y:=by simp
 rw[c]at b
 obtain⟨d,a⟩:=List.getElem?_eq_some_iff.1 b
 rw[List.getElem_range]at a
 rw[List.length_range]at d
 refine⟨a.symm,by omega,?_⟩
 have e:(pre++[y]++r).take pre.length=pre:=by grind
 grind
def EI(t:List By)(i:Nat):List By:=(t.drop (128*i)).take 128
theorem V4(a:Option Addr)(n c:Nat)(M:Mem):
  SpecL prog 99 #[.slice a n c,.int .i64 128] M [] λu g k=>∃b d,u=.func (.func 164) #[] #[pB b,pB d]/\g b=some (.cells #[.slice a n c] 30 (0,0))/\g d=some (.cells #[.int .i64 128] 3 (0,0))/\k=[]:=by
 refine sB func99 ntmps99 ?_;intro W
 refine gh ?_
 refine lh (Bf (cs:=[.slice a n c]) rfl rfl rfl rfl) ?_;rintro _ _ _ ⟨d,rfl,rfl,rfl⟩
 refine lh (Bf (cs:=[.int .i64 128]) rfl rfl rfl rfl) ?_;rintro _ _ _ ⟨f,rfl,rfl,rfl⟩
 refine gt ?_
 refine AP d (by simp) ?_
 intro m h j
 refine AP f (by simp) ?_
 intro l e i
 refine gr ?_
 exact⟨d,f,rfl,e _ _ j,i,rfl⟩
theorem V7(b u j g c:Nat)(M:Mem)(P:256<=c)(G:M b=some (.cells #[.slice (some ⟨j,g,none⟩) 256 c] 30 (0,0)))(B:M u=some (.cells #[.int .i64 128] 3 (0,0)))(l:Nat)(J F:List Nat->Mem->Lc->Prop)(d:Mem)(C:Lc)(D:MLe M d)(H:∀pre y M2 L2,MLe d M2->J pre M2 L2->pre++[y]<+:List.range 2->DD prog l ((λi:Nat=>[.slice (some ⟨j,g+128*i,none⟩) 128 128]) y).toArray M2 L2 λv f L'=>(v=.bool true/\J (pre++[y]) f L')\/(v=.bool false/\F (pre++[y]) f L'))(K:J [] d C):
  SpecL prog 164 #[.func (.yield l) #[] #[],pB b,pB u] d C λ_ f L'=>J (List.range 2) f L'\/∃pre,pre<+:List.range 2/\F pre f L':=by
 have e:∀{M2:Mem}(L:Lc),MLe d M2->CJ M2 L b 0 (.slice (some ⟨j,g,none⟩) 256 c):=λL h=>(CM.cj ⟨_,_,_,h _ _ (D _ _ G),rfl⟩ L)
 have n:∀{M2:Mem}(L:Lc),MLe d M2->CJ M2 L u 0 (.int .i64 128):=λL h=>(CM.cj ⟨_,_,_,h _ _ (D _ _ B),rfl⟩ L)
 refine sB func164 ntmps164 ?_;intro W
 refine gh ?_
 refine Cz (α:=Nat×Mem×Lc) (λx=>[(0,.func (.yield l) #[] #[]),(1,pB b),(2,pB u),(4,.int .i64 ((128*x.1:Nat):Int))]) (λx=>x.2.1) (λx=>x.2.2) (λx=>x.1<=2/\MLe d x.2.1/\J ((List.range 2).take x.1) x.2.1 x.2.2) (λx=>2-x.1) (0,d,C) ⟨by show 0<=2;omega,MLe.refl _,K⟩ ?_
 rintro⟨k,N,O⟩ ⟨hk,a,r⟩
 try dsimp only at hk a r⊢
 refine gh ?_
 refine lq (AE rfl rfl rfl rfl (e _ a)) ?_
 refine gj (λI=>?_) λI=>?_
 ·refine gh ?_
  refine JG [0,1,2,3,4,5,6] ?_
  refine dq rfl (AE rfl rfl rfl rfl (n _ a)) ?_
  refine dq rfl (AE rfl rfl rfl rfl (e _ a)) ?_
  refine gh ?_
  have z:k<2:=by omega
  refine dq rfl (Bc (C6 rfl rfl rfl (.no _) (.no _) (.of (v:=128*k) rfl (by omega) (by omega)) (by omega) (by simp)) (v':=.slice (some ⟨j,g+128*k,none⟩) (256-128*k) (c-128*k)) (by rw[AB (by omega)];try simp)) ?_
  refine gh ?_
  refine dq rfl (Bc (qMin rfl rfl rfl rfl) (v':=.int .i64 128) (by congr 1;omega)) ?_
  refine gh ?_
  refine lq (AE rfl rfl rfl rfl (e _ a)) ?_
  refine gh ?_
  refine lq (Bc (C6 rfl rfl rfl (.of (v:=128*k+128) rfl (by omega) (by omega)) (.of (v:=128*k+128) rfl (by omega) (by omega)) (.of (v:=128*k) rfl (by omega) (by omega)) (by omega) (by simp)) (v':=.slice (some ⟨j,g+128*k,none⟩) 128 128) (by rw[AB (by omega)];try simp)) ?_
  have m:(List.range 2).take (k+1)=(List.range 2).take k++[k]:=by rw[List.take_succ_eq_append_getElem (by simpa using z),List.getElem_range]
  refine lh (Hu rfl rfl rfl rfl (H ((List.range 2).take k) k N O a r (by rw[<-m];exact List.take_prefix _ _))) ?_;rintro _ f _ ⟨o,E,rfl,s⟩
  rcases s with⟨rfl,s⟩|⟨rfl,s⟩
  ·refine gh ?_
   refine lq (AE rfl rfl rfl rfl (n _ (a.trans o))) ?_
   refine gh ?_
   refine Bw (k+1,f,E) ⟨by show k+1<=2;omega,a.trans o,by show J ((List.range 2).take (k+1)) _ _;rw[m];exact s⟩ (hk:=(Keep.cons (t:=0) rfl (Keep.cons (t:=1) rfl (Keep.cons (t:=2) rfl (Keep.ceq (t:=4) rfl (by congr 1) Keep.nil)))))
  refine gh ?_
  refine AD (L':=E) (by simp) ?_
  refine JV (rs:=[]) rfl .nil ?_
  grind
 refine gh ?_
 refine Ug ?_
 refine JV (rs:=[]) rfl .nil ?_
 grind
theorem V6(b f d a c:Nat)(M:Mem)(g:256<=c)(h:M b=some (.cells #[.slice (some ⟨d,a,none⟩) 256 c] 30 (0,0)))(e:M f=some (.cells #[.int .i64 128] 3 (0,0))):Iter prog 164 [pB b,pB f] M (λi:Nat=>[.slice (some ⟨d,a+128*i,none⟩) 128 128]) (List.range 2):=
 λl J r n o j k m=>V7 b f d a c M g h e l J r n o j k m
def wts(k:Int)(t:List By):List Wt:=[(k,EI t 0),(k+1,EI t 1)]
theorem NH(bs:List (List By))(ws:List Wt)(f c:Value)(M:Mem)(h:LS M f bs)(g:WS M c ws)(d:dkOk bs ws)(a:Int)(hs:a=0\/a=1):
  SpecL prog 97 #[.agg #[f,c],.int .i64 a] M [] λu _ _=>u=.tuple #[.int .i64 (4+2*a),.int .i64 0]:=by
 have b:GY bs ws=0:=if_pos d
 refine sB func97 ntmps97 ?_;intro W
 refine ga λi=>?_
 refine gQ (CK bs ws f c M h g) ?_
 refine jf rfl (decide_eq_false (by first|omega|(rw[b];decide))) ?_
 refine gj (λe=>?_) λe=>?_
 ·refine gg ?_
  refine jf rfl (decide_eq_false (by first|omega|(rw[b];decide))) ?_
  refine gh ?_
  refine lq (qQuo rfl rfl rfl rfl (by omega) (by omega) (by omega)) ?_
  refine gr ?_
  grind
 refine gh ?_
 refine lq (qQuo rfl rfl rfl rfl (by omega) (by omega) (by omega)) ?_
 refine gr ?_
 grind
theorem TM(bs:List (List By))(ws:List Wt)(r o:Value)(M:Mem)(h1:LS M r bs)(h2:WS M o ws)(f:dkOk bs ws)(a:Int)(hs:a=0\/a=1)(t:List By)(tv:Value)(ht:BS M tv t)(g:DR t)(ad:ws.length<=4000):
  SpecL prog 51 #[.agg #[r,o],.int .i64 a,tv] M [] λu M' L'=>(∃d,u=.tuple #[d,.int .i64 0]/\DK M' d bs (ws++wts (4+2*a) t))/\L'=[]:=by
 have m:FO t=0:=if_pos g
 have j:t.length=256:=g.1
 obtain⟨ta,tc,rfl,af,P⟩:=id ht
 obtain⟨I,H,e0,hx⟩:=P.open (by intro e;have:=congrArg List.length e;rw[Af,List.length_nil]at this;omega)
 subst e0
 refine sB func51 ntmps51 ?_;intro W
 refine Rl λb3 b6 b7=>?_
 refine gq (NH bs ws r o M h1 h2 f a hs) ?_
 refine gA2 λb8 b9=>?_
 refine jf rfl (decide_eq_false (by first|omega|(rw[hck];decide)|(rw[m];decide))) ?_
 refine gQ (DN t _ M ht) ?_
 refine jf rfl (decide_eq_false (by first|omega|(rw[hck];decide)|(rw[m];decide))) ?_
 refine gh ?_
 rw[j]
 refine gC (V4 _ 256 tc M) ?_;rintro _ M1 _ n ⟨cb,Z,rfl,Y,F,rfl⟩
 simp only[List.nil_append]
 refine gh ?_
 have X:=h1.mono n
 have V:=h2.mono n
 refine BU (L':=[(b9,cE [.int .i64 0] 39),(b8,cE [.int .i64 (4+2*a)] 3),(b7,cE [.int .i64 0] 39),(b6,cE [.slice none 0 0,.slice none 0 0] Sa),(b3,cE [r,o] Sa)]) (λ_ h=>h) ?_
 refine D1 (R:=[(b9,cE [.int .i64 0] 39),(b8,cE [.int .i64 (4+2*a)] 3),(b3,cE [r,o] Sa)]) (xs:=List.range 2) (enc:=(λi:Nat=>[.slice (some ⟨I,H+128*i,none⟩) 128 128])) (ps:=[30]) rfl (by kernel_rfl) (V6 cb Z I H tc M1 (by omega) Y F)
  (λpre s R=>∃c b,R=[(b9,cE [.int .i64 0] 39),(b8,cE [.int .i64 (4+2*a+(pre.length:Int))] 3),(b3,cE [c,b] Sa)]/\LS s c bs/\WS s b (ws++(wts (4+2*a) t).take pre.length))
  (λ_ _ _ _=>False)
  (λ_=>rfl) (by decide) ⟨r,o,by simp,X,by simpa using V⟩ ?_ ?_ ?_
 ·intro l W2 pre y s R2 E T C
  obtain⟨c,b,rfl,K,J⟩:=T
  refine gh ?_
  refine jK λW'=>?_
  refine gh ?_
  obtain⟨rfl,O,ag⟩:=Yb C
  have ah:pre.length<2:=O
  have k:(EI t pre.length).length=128:=by grind[EI]
  have ae:((wts (4+2*a) t).take pre.length).length<=2:=by grind
  have D:dkOk bs (ws++(wts (4+2*a) t).take pre.length):=⟨f.1,by rw[List.length_append];omega,f.2.2.1,λw B=>by
   rcases List.mem_append.1 B with B|B
   ·exact f.w w B
   have:=List.mem_of_mem_take B
   simp only[wts,List.mem_cons,List.not_mem_nil,or_false]at this
   rcases this with rfl|rfl
   ·exact ⟨by show 0<=4+2*a;omega,by show 4+2*a<256;omega,by show (EI t 0).length=128;unfold EI;simp[j]⟩
   exact⟨by show 0<=4+2*a+1;omega,by show 4+2*a+1<256;omega,by show (EI t 1).length=128;unfold EI;simp[j]⟩⟩
  have Q:BS s (.slice (some ⟨I,H+128*pre.length,none⟩) 128 128) (EI t pre.length):=⟨_,_,by rw[k],by rw[k];exact Nat.le_refl _,.inr ⟨I,H+128*pre.length,rfl,λi u hu=>by have:=SM.sub (128*pre.length) 128 hx i u hu;rw[Nat.mul_one]at this;exact this.mono (n.trans E)⟩⟩
  refine gc (Hy bs (ws++(wts (4+2*a) t).take pre.length) c b s K J D (4+2*a+pre.length) (by omega) (EI t pre.length) _ Q k (by rw[List.length_append];omega)) ?_;rintro _ M3 ai ⟨d,rfl,aj,ac,rfl,U,S⟩
  obtain⟨ab,aa,G,rfl,_⟩:=id U
  obtain⟨N,L,z,rfl,_⟩:=id S
  refine gg ?_
  refine jf rfl (decide_eq_false (by first|omega|(rw[hck];decide)|(rw[m];decide))) ?_
  refine gh ?_
  refine Zj ?_
  grind[wts,EI]
 ·intro d s R2 E T
  obtain⟨c,b,rfl,K,J⟩:=T
  obtain⟨ab,aa,G,rfl,_⟩:=id K
  obtain⟨N,L,z,rfl,_⟩:=id J
  simp only[List.cons_append,List.nil_append]
  refine gh ?_
  refine Bi (L2:=_) Rm.perm ?_
  refine gr ?_
  exact⟨⟨_,rfl,_,_,rfl,K,J⟩,rfl⟩
 grind
theorem QB(t:List By)(d:Value)(M:Mem)(e:BS M d t)(a:DR t):
  SpecL prog 53 #[d] M [] λu _ _=>u=.tuple #[.int .u32 (FZ t),.int .i64 0]:=by
 have c:FO t=0:=if_pos a
 have h:t.length=256:=a.1
 obtain⟨g,f,rfl,i,b⟩:=id e
 refine sB func53 ntmps53 ?_;intro W
 refine gQ (DN t _ M e) ?_
 refine jf rfl (decide_eq_false (by first|omega|(rw[c];decide))) ?_
 refine gq (MI g f t M b (by omega)) ?_
 refine gr ?_
 rfl
set_option maxRecDepth 8000
set_option maxHeartbeats 40000000
theorem Xd(b:Option Addr)(c:Nat)(xs:List By)(a m:Nat)(M:Mem)(h:¬a+m<=xs.length)(f:m<=100)(g:a<=1000)(e:xs.length<=1000000):
  SpecL prog 190 #[.slice b xs.length c,.int .i64 a,.int .i64 m] M [] λv _ d=>v=.tuple #[.int .u32 0,.int .i64 8]/\d=[]:=by
 refine sB func190 ntmps190 ?_;intro W
 refine gA λi=>?_
 refine gu ?_
 exact⟨rfl,rfl⟩
theorem LP(b:Option Addr)(c:Nat)(xs:List By)(a:Nat)(M:Mem)(d:xs.length<=1000000)(h:¬a+4<=xs.length)(e:a<=1000):
  SpecL prog 146 #[.slice b xs.length c,.int .i64 a] M [] λv _ _=>v=.tuple #[.int .u32 0,.int .i64 8]:=by
 refine sB func146 ntmps146 ?_;intro W
 refine gc (Xd b c xs a 4 M h (by omega) e d) ?_;rintro _ _ _ rfl
 refine gr ?_
 rfl
theorem Pk(b:Option Addr)(c:Nat)(xs:List By)(a:Nat)(M:Mem)(d:xs.length<=1000000)(h:¬a+2<=xs.length)(e:a<=1000):
  SpecL prog 147 #[.slice b xs.length c,.int .i64 a] M [] λv _ _=>v=.tuple #[.int .i64 0,.int .i64 8]:=by
 refine sB func147 ntmps147 ?_;intro W
 refine gc (Xd b c xs a 2 M h (by omega) e d) ?_;rintro _ _ _ rfl
 refine gh ?_
 refine lq (B7 rfl rfl rfl (by omega)) ?_
 refine gr ?_
 rfl
structure Vo where
 id:Int
 root:Int
 frz:Bool
 frm:Int
abbrev CU(v:Vo):List Value:=[.int .u32 v.id,.int .i64 v.root,.bool v.frz,.int .u32 v.frm]
def bB(b:Bool):By:=if b then 1 else 0
def wKy(v:Vo):List By:=[Cy v.root,[bB v.frz],A6 v.frm].flatten
def BO(v:Vo):It:=⟨⟨1,v.id,0⟩,0,wKy v⟩
def CA(x:It):Vo:=⟨x.key.id,Cl x.val 0 2,decide (((x.val.getD 2 0).toNat:Int)=1),Cl x.val 3 4⟩
def Dj(x:It):Prop:=7<=x.val.length/\BO (CA x)=x
instance(x:It):Decidable (Dj x):=by unfold Dj;exact inferInstance
variable{M:Mem}{b:Nat}{u1:Value}{x1:List By}
theorem LS.three{c a:Value}{e d:List By}(h:M b=some (cE [u1,c,a] 30))(j:BS M u1 x1)(i:BS M c e)(g:BS M a d):LS M (.slice (some ⟨b,0,none⟩) 3 3) [x1,e,d]:=
 ⟨some ⟨b,0,none⟩,3,[(x1,u1),(e,c),(d,a)],rfl,Nat.le_refl _,SM.of_block (l:=[u1,c,a]) h,rfl,λp f=>by
  simp only[List.mem_cons,List.not_mem_nil,or_false]at f
  rcases f with rfl|rfl|rfl
  ·exact j
  ·exact i
  exact g⟩
theorem wCu(xs:List By)(a:Nat):0<=Cl xs a 2/\Cl xs a 2<65536:=by
 have c:∀x:By,0<=D5 [x]/\D5 [x]<256:=λx=>by
  have:∀n:Nat,n<256->0<=D5 [UInt8.ofNat n]/\D5 [UInt8.ofNat n]<256:=by decide +kernel
  have h:=this x.toNat x.toNat_lt
  rwa[UInt8.ofNat_toNat]at h
 have h:∀ys:List By,ys.length<=2->0<=D5 ys/\D5 ys<65536:=λys b=>by
  match ys,b with
  |[],_=>exact⟨by decide,by decide⟩
  |[x],_=>
   have:=c x;omega
  |[x,y],_=>
   have d:=c x
   show 0<=D5 ([x]++[y])/\D5 ([x]++[y])<65536
   rw[E0]
   generalize D5 [x]=a at d
   have b:=y.toNat_lt
   have e:RP .u32 a 8=a*256:=by
    unfold RP
    rw[IntKind.wrap_u32,show (2:Int) ^ (min 8 IntKind.u32.bits)=256 by decide];omega
   rw[e]
   refine⟨(Xr _ _).1,?_⟩
   unfold Uh
   rw[IntKind.wrap_u32]
   have g:(BitVec.ofInt IntKind.u32.bits (a*256)).toNat<2 ^ 16:=by
    rw[BitVec.toNat_ofInt];show ((a*256)%4294967296).toNat<_;omega
   have f:(BitVec.ofInt IntKind.u32.bits (y.toNat:Int)).toNat<2 ^ 16:=by
    rw[BitVec.toNat_ofInt];show (((y.toNat:Int))%4294967296).toNat<_;omega
   have i:(BitVec.ofInt IntKind.u32.bits (a*256) ||| BitVec.ofInt IntKind.u32.bits (y.toNat:Int)).toNat<2 ^ 16:=by
    rw[BitVec.toNat_or];exact Nat.or_lt_two_pow g f
   omega
 grind[Cl]
theorem NM(v:Vo)(M:Mem)(h:0<=v.root/\v.root<65536):
  SpecL prog 92 #[.agg (CU v).toArray] M [] λu M' L'=>(∃Y X,u=.agg (Fk (BO v) Y X).toArray/\(BO v).val.length<=X/\SM M' Y (Ab (BO v).val))/\L'=[]:=by
 refine sB func92 ntmps92 ?_;intro W
 refine EV λJ I=>?_
 refine gc (J0 v.root M h) ?_;rintro _ M2 aa ⟨Z,rfl,B⟩
 refine gg ?_
 refine Br rfl rfl (AE rfl rfl rfl rfl (CJ.loc rfl)) (λz=>?_) (λz=>?_)
 ·refine gh ?_
  refine Cg ([(J,cE (CU v) 82)]) (by kernel_rfl) (by simp) ?_
  refine gk [0,1] ?_
  refine GJ (i:=2) rfl (by kernel_rfl) (by kernel_rfl) rfl rfl (Bk (cs:=[_,_,_]) rfl rfl rfl (by rfl)) ?_
  refine gk [3,4,6,7] ?_
  refine Ch (α:=Mem×Value×Value) (λy=>MLe M2 y.1/\BS y.1 y.2.1 [bB v.frz]/\BS y.1 y.2.2 (A6 v.frm)) (λy=>[(2,pB I),(16,.agg #[.int .u8 1,.int .u32 v.id,.int .u32 0]),(17,Z),(19,y.2.1),(22,y.2.2)]) (λy=>y.1) (λ_=>[(I,.cells zeroIt.toArray IT (0,0)),(J,cE (CU v) 82)]) 4 #[true,true,true,true,true,true,true,true,true,false,false,false,false] ?_ (λf=>?_)
  ·rintro ⟨Mr,v5,H⟩ ⟨b,n,m⟩
   try dsimp only at b n m⊢
   obtain⟨a5,k5,rfl,_,_⟩:=id n
   obtain⟨a8,k8,rfl,_,_⟩:=id m
   obtain⟨O,K,rfl,_,_⟩:=id B
   refine aO 9 ?_
   refine sh rfl (Aa (cs:=[_,_,_]) rfl rfl rfl (by rfl) (by rfl) (by rfl)) ?_;rintro _ _ _ ⟨F,rfl,rfl,rfl⟩
   refine aG (b) ?_
   refine AH F (by simp) (by simp) ?_
   intro S c L
   have C:=LS.three L (((B.mono b).mono c)) (n.mono c) (m.mono c)
   refine aO 10 ?_
   refine sh rfl (hC (DL _ _ S C (by simp) (by simp[A6,Cy]))) ?_;rintro _ V _ ⟨g,R,rfl,r⟩
   refine aG ((b.trans c).trans g) ?_
   refine wBx r (by simp) (by simp) ?_
   intro U P N t E s o;subst E
   refine GJ (i:=11) rfl (by kernel_rfl) (by kernel_rfl) rfl rfl (Bk (cs:=[_,_,_,_,_]) rfl rfl rfl (by rfl)) ?_
   refine aO 12 ?_
   refine My rfl rfl (Ae rfl rfl rfl rfl rfl rfl rfl rfl) ?_;rintro _ _ _ ⟨rfl,rfl⟩
   refine aG (((b.trans c).trans g).trans t) ?_
   refine D3 (by kernel_rfl) ?_
   refine gr ?_
   exact⟨⟨_,_,rfl,s,o⟩,rfl⟩
  refine AR [5,8] (by kernel_rfl) rfl ⟨?_,?_,trivial⟩
  ·refine sh rfl (Aa (cs:=[_]) rfl rfl rfl (by rfl) (by rfl) (by rfl)) ?_;rintro _ _ _ ⟨e,rfl,rfl,rfl⟩
   refine aG (MLe.refl _) ?_
   refine AH e (by simp) (by simp) ?_
   intro G d D
   have k:BS G (.slice (some ⟨e,0,none⟩) 1 1) [bB v.frz]:=⟨_,1,rfl,Nat.le_refl _,SM.of_block (l:=Ab [bB v.frz]) (by rw[z];exact D)⟩
   refine aO 8 ?_
   refine sh rfl (hC (AJ v.frm _)) ?_;rintro H T _ ⟨a,Q,rfl,j,rfl⟩
   refine aG ((d).trans a) ?_
   simp only[List.nil_append]
   exact aR f (_,_,_) ⟨(d.trans a),k.mono (a),j.mono (MLe.refl _)⟩
  refine sh rfl (hC (AJ v.frm _)) ?_;rintro H T _ ⟨a,Q,rfl,j,rfl⟩
  refine aG (a) ?_
  simp only[List.nil_append]
  refine aO 5 ?_
  refine sh rfl (Aa (cs:=[_]) rfl rfl rfl (by rfl) (by rfl) (by rfl)) ?_;rintro _ _ _ ⟨e,rfl,rfl,rfl⟩
  refine aG (a) ?_
  refine AH e (by simp) (by simp) ?_
  intro G d D
  have k:BS G (.slice (some ⟨e,0,none⟩) 1 1) [bB v.frz]:=⟨_,1,rfl,Nat.le_refl _,SM.of_block (l:=Ab [bB v.frz]) (by rw[z];exact D)⟩
  exact aR f (_,_,_) ⟨(a.trans d),k.mono (MLe.refl _),j.mono (d)⟩
 refine gh ?_
 refine Cg ([(J,cE (CU v) 82)]) (by kernel_rfl) (by simp) ?_
 refine gk [0,1] ?_
 refine GJ (i:=2) rfl (by kernel_rfl) (by kernel_rfl) rfl rfl (Bk (cs:=[_,_,_]) rfl rfl rfl (by rfl)) ?_
 refine gk [3,4,6,7] ?_
 refine Ch (α:=Mem×Value×Value) (λy=>MLe M2 y.1/\BS y.1 y.2.1 [bB v.frz]/\BS y.1 y.2.2 (A6 v.frm)) (λy=>[(2,pB I),(16,.agg #[.int .u8 1,.int .u32 v.id,.int .u32 0]),(17,Z),(19,y.2.1),(22,y.2.2)]) (λy=>y.1) (λ_=>[(I,.cells zeroIt.toArray IT (0,0)),(J,cE (CU v) 82)]) 4 #[true,true,true,true,true,true,true,true,true,false,false,false,false] ?_ (λf=>?_)
 ·rintro ⟨Mr,v5,H⟩ ⟨b,n,m⟩
  try dsimp only at b n m⊢
  obtain⟨a5,k5,rfl,_,_⟩:=id n
  obtain⟨a8,k8,rfl,_,_⟩:=id m
  obtain⟨O,K,rfl,_,_⟩:=id B
  refine aO 9 ?_
  refine sh rfl (Aa (cs:=[_,_,_]) rfl rfl rfl (by rfl) (by rfl) (by rfl)) ?_;rintro _ _ _ ⟨F,rfl,rfl,rfl⟩
  refine aG (b) ?_
  refine AH F (by simp) (by simp) ?_
  intro S c L
  have C:=LS.three L (((B.mono b).mono c)) (n.mono c) (m.mono c)
  refine aO 10 ?_
  refine sh rfl (hC (DL _ _ S C (by simp) (by simp[A6,Cy]))) ?_;rintro _ V _ ⟨g,R,rfl,r⟩
  refine aG ((b.trans c).trans g) ?_
  refine wBx r (by simp) (by simp) ?_
  intro U P N t E s o;subst E
  refine GJ (i:=11) rfl (by kernel_rfl) (by kernel_rfl) rfl rfl (Bk (cs:=[_,_,_,_,_]) rfl rfl rfl (by rfl)) ?_
  refine aO 12 ?_
  refine My rfl rfl (Ae rfl rfl rfl rfl rfl rfl rfl rfl) ?_;rintro _ _ _ ⟨rfl,rfl⟩
  refine aG (((b.trans c).trans g).trans t) ?_
  refine D3 (by kernel_rfl) ?_
  refine gr ?_
  exact⟨⟨_,_,rfl,s,o⟩,rfl⟩
 refine AR [5,8] (by kernel_rfl) rfl ⟨?_,?_,trivial⟩
 ·refine sh rfl (Aa (cs:=[_]) rfl rfl rfl (by rfl) (by rfl) (by rfl)) ?_;rintro _ _ _ ⟨e,rfl,rfl,rfl⟩
  refine aG (MLe.refl _) ?_
  refine AH e (by simp) (by simp) ?_
  intro G d D
  have k:BS G (.slice (some ⟨e,0,none⟩) 1 1) [bB v.frz]:=⟨_,1,rfl,Nat.le_refl _,SM.of_block (l:=Ab [bB v.frz]) (by rw[z];exact D)⟩
  refine aO 8 ?_
  refine sh rfl (hC (AJ v.frm _)) ?_;rintro H T _ ⟨a,Q,rfl,j,rfl⟩
  refine aG ((d).trans a) ?_
  simp only[List.nil_append]
  exact aR f (_,_,_) ⟨(d.trans a),k.mono (a),j.mono (MLe.refl _)⟩
 refine sh rfl (hC (AJ v.frm _)) ?_;rintro H T _ ⟨a,Q,rfl,j,rfl⟩
 refine aG (a) ?_
 simp only[List.nil_append]
 refine aO 5 ?_
 refine sh rfl (Aa (cs:=[_]) rfl rfl rfl (by rfl) (by rfl) (by rfl)) ?_;rintro _ _ _ ⟨e,rfl,rfl,rfl⟩
 refine aG (a) ?_
 refine AH e (by simp) (by simp) ?_
 intro G d D
 have k:BS G (.slice (some ⟨e,0,none⟩) 1 1) [bB v.frz]:=⟨_,1,rfl,Nat.le_refl _,SM.of_block (l:=Ab [bB v.frz]) (by rw[z];exact D)⟩
 exact aR f (_,_,_) ⟨(a.trans d),k.mono (MLe.refl _),j.mono (d)⟩
theorem vol_a(x:It)(c:Option Addr)(b:Nat)(M:Mem)(f:x.val.length<=b)(hs:SM M c (Ab x.val))(d:x.val.length<=1000000)(h:x.val.length<2):
  SpecL prog 187 #[.agg (Fk x c b).toArray] M [] λu j e=>(∃v,u=.tuple #[.agg (CU v).toArray,.bool (decide (Dj x))]/\(Dj x->v=CA x))/\e=[]:=by
 refine sB func187 ntmps187 ?_;intro W
 refine EV λi g=>?_
 refine gq (Pk c b x.val 0 M d (by omega) (by omega)) ?_
 refine gQ (LP c b x.val 3 M d (by omega) (by omega)) ?_
 refine gu ?_
 have a:¬Dj x:=λh=>by have:=h.1;omega
 rw[show decide (Dj x)=false from decide_eq_false a]
 exact⟨⟨⟨0,0,false,0⟩,rfl,λh=>absurd h a⟩,rfl⟩
theorem vol_b(x:It)(c:Option Addr)(b:Nat)(M:Mem)(e:x.val.length<=b)(hs:SM M c (Ab x.val))(d:x.val.length<=1000000)(h:2<=x.val.length)(g:x.val.length<7):
  SpecL prog 187 #[.agg (Fk x c b).toArray] M [] λu k f=>(∃v,u=.tuple #[.agg (CU v).toArray,.bool (decide (Dj x))]/\(Dj x->v=CA x))/\f=[]:=by
 refine sB func187 ntmps187 ?_;intro W
 refine EV λj i=>?_
 refine gq (DJ c b x.val 0 M hs e (by omega) d) ?_
 refine gQ (LP c b x.val 3 M d (by omega) (by omega)) ?_
 refine gu ?_
 have a:¬Dj x:=λh=>by have:=h.1;omega
 rw[show decide (Dj x)=false from decide_eq_false a]
 exact⟨⟨⟨0,0,false,0⟩,rfl,λh=>absurd h a⟩,rfl⟩
theorem wMe(x:It)(l:Option Addr)(a:Nat)(M:Mem)(i:x.val.length<=a)(hs:SM M l (Ab x.val))(m:x.val.length<=1000000)(s:7<=x.val.length):
  SpecL prog 187 #[.agg (Fk x l a).toArray] M [] λu D z=>(∃v,u=.tuple #[.agg (CU v).toArray,.bool (decide (Dj x))]/\(Dj x->v=CA x))/\z=[]:=by
 obtain⟨d,c,t,o⟩:=hs.open (by intro e;have:=congrArg List.length e;rw[Af,List.length_nil]at this;omega)
 subst t
 refine HM (vs:=[_]) 46 _ func187 rfl ntmps187 rfl rfl ?_;intro W
 refine Ao (Ah ?_)
 refine lh (Bf (cs:=[_,_,_,_,_]) rfl rfl rfl rfl) ?_;rintro _ _ _ ⟨k,rfl,rfl,rfl⟩
 refine lh (AM rfl rfl) ?_;rintro _ _ _ ⟨y,rfl,rfl,rfl⟩
 refine jp rfl ?_
 refine Am (jT (Ao (Ah ?_)))
 refine lq (Ak rfl rfl rfl rfl rfl) ?_
 refine lq (Ak rfl rfl rfl rfl rfl) ?_
 refine lq (AE rfl rfl rfl rfl (CJ.loc rfl)) ?_
 refine lq (Ak rfl rfl rfl rfl rfl) ?_
 refine Dz rfl (Ae rfl rfl rfl rfl rfl rfl rfl rfl) ?_;rintro _ _ _ ⟨rfl,rfl⟩
 refine Am (jT (Ao (Ah ?_)))
 refine lq (Ak rfl rfl rfl rfl rfl) ?_
 refine lq (AE rfl rfl rfl rfl (CJ.loc rfl)) ?_
 refine lq (qC (DJ _ a x.val 0 M hs i (by omega) m)) ?_
 iterate 5 refine jp rfl ?_
 refine Am (jT (Ao (Ah ?_)))
 refine lq (Ak rfl rfl rfl rfl rfl) ?_
 refine lq (AE rfl rfl rfl rfl (CJ.loc rfl)) ?_
 refine lq (qC (BC _ a x.val 3 M hs i (by omega) m)) ?_
 iterate 5 refine jp rfl ?_
 refine Am (jT (Ao (Ao (Ah ?_))))
 refine jp rfl ?_
 refine jf rfl (decide_eq_false (by omega)) ?_
 iterate 2 refine jp rfl ?_
 refine jf rfl (decide_eq_false (by omega)) ?_
 refine jp rfl ?_
 refine Am (jT (FM rfl (D0 (jT (Ao ?_)))))
 refine LL [0,1,2,3,4,5,6,7,108,9,110,11,112] [(k,cE (Fk x (some ⟨d,c,none⟩) a) IT)] ?_
 refine dp rfl rfl ?_
 refine dq rfl (Ak rfl rfl rfl rfl rfl) ?_
 refine dq rfl (AE rfl rfl rfl rfl (CJ.loc rfl)) ?_
 refine dq rfl (Ca rfl rfl rfl rfl (by omega)) ?_
 refine dq rfl (AE rfl rfl rfl rfl ((o ((2:Int).toNat*1) _ (Cc (j:=2) (by omega))).cj _)) ?_
 iterate 2 refine dp rfl rfl ?_
 refine dq rfl (Ak rfl rfl rfl rfl rfl) ?_
 refine Df rfl rfl (Ae rfl rfl rfl rfl rfl rfl rfl rfl) ?_;rintro _ _ _ ⟨rfl,rfl⟩
 refine⟨_,_,MLe.refl _,MLe.refl _,λ_ h=>h,by simp,?_⟩
 refine dq rfl (Ak rfl rfl rfl rfl rfl) ?_
 refine Df rfl rfl (Ae rfl rfl rfl rfl rfl rfl rfl rfl) ?_;rintro _ _ _ ⟨rfl,rfl⟩
 refine⟨_,_,MLe.refl _,MLe.refl _,λ_ h=>h,by simp,?_⟩
 refine dq rfl (Ak rfl rfl rfl rfl rfl) ?_
 refine Df rfl rfl (Ae rfl rfl rfl rfl rfl rfl rfl rfl) ?_;rintro _ _ _ ⟨rfl,rfl⟩
 refine⟨_,_,MLe.refl _,MLe.refl _,λ_ h=>h,by simp,?_⟩
 refine wBu (wJm (jT (Ao ?_)))
 refine Hr [5] [2,3,5,6] [0,1,3,102,4,105,6] M ([(y,cE [.int .u32 x.key.id,.int .i64 (Cl x.val 0 2),.bool (decide (((x.val.getD 2 0).toNat:Int)=1)),.int .u32 (Cl x.val 3 4)] 82),(k,cE (Fk x (some ⟨d,c,none⟩) a) IT)]) ([(k,cE (Fk x (some ⟨d,c,none⟩) a) IT)]) ?_
 refine dq rfl (Gz rfl rfl rfl rfl rfl) ?_
 refine dq rfl (Gz rfl rfl rfl rfl rfl) ?_
 refine Vr rfl rfl rfl (Gz rfl rfl rfl rfl rfl) ?_
 refine DA rfl rfl rfl (Bu rfl rfl rfl rfl rfl (by kernel_rfl) (NM (CA x) M (wCu _ _))) ?_;rintro _ n _ ⟨b,_,rfl,⟨⟨C,B,rfl,g,f⟩,rfl⟩⟩
 refine⟨n,_,b,MLe.refl _,λ_ h=>h,by simp,?_⟩
 refine dq rfl (qC (LM (BO (CA x)) x _ _ n ⟨_,_,rfl,g,f⟩ ⟨_,_,rfl,i,hs.mono b⟩)) ?_
 refine Ed rfl rfl (Ae rfl rfl rfl rfl rfl rfl rfl rfl) ?_;rintro _ _ _ ⟨rfl,rfl⟩
 refine⟨b,by simp,?_⟩
 refine ep rfl rfl ?_
 refine Ld ?_
 refine wJm (jT (Bs ?_))
 refine zd ([]) rfl ?_
 have r:decide (Dj x)=decide (BO (CA x)=x):=decide_eq_decide.2 ⟨λh=>h.2,λh=>⟨s,h⟩⟩
 rw[r]
 exact⟨⟨CA x,rfl,λ_=>rfl⟩,rfl⟩
theorem Sf(x:It)(b:Option Addr)(a:Nat)(M:Mem)(e:x.val.length<=a)(hs:SM M b (Ab x.val))(d:x.val.length<=1000000):SpecL prog 187 #[.agg (Fk x b a).toArray] M [] λu f c=>(∃v,u=.tuple #[.agg (CU v).toArray,.bool (decide (Dj x))]/\(Dj x->v=CA x))/\c=[]:=by
 grind[vol_a,vol_b,wMe]
set_option maxRecDepth 8000
variable{A:Lc}{E:Ent}{M:Mem}{b:Nat}{o:Obj}
theorem St.setObj{w d:World}{n:Obj}{B:Lc}(h:St E M (A++(b,o)::B) w)(j:d.os=w.os)(r:d.tape=w.tape)(s:d.output=w.output)(hs:d.heap.size=w.heap.size)
  (l:d.heap[b]? =some n) (i:∀k,k≠b->d.heap[k]? =w.heap[k]?):St E M (A++(b,n)::B) d:=by
 have m:=h.locs (b,o) (by simp)
 have g:∀p∈A++B,p.1≠b:=by
  intro p c y
  have u:=h.nodup
  grind
 exact
  {os:=j.trans h.os,tape:=r.trans h.tape,output:=s.trans h.output,size:=by rw[hs];exact h.size
   same:=λk t f=>by
    have:k≠b:=λe=>by subst e;exact m.2.1.elim (λh=>by omega) f
    rw[i k this];exact h.same k t f
   fresh:=h.fresh
   agree:=λk x f=>by
    have:k≠b:=λe=>by subst e;rw[m.2.2]at f;cases f
    rw[i k this];exact h.agree k x f
   locs:=λp c=>by
    rcases List.mem_append.1 c with c|c
    ·have a:=h.locs p (by simp[c])
     exact⟨by rw[i _ (g p (by simp[c]))];exact a.1,a.2⟩
    rcases List.mem_cons.1 c with rfl|c
    ·exact ⟨l,m.2⟩
    have a:=h.locs p (by simp[c])
    exact⟨by rw[i _ (g p (by simp[c]))];exact a.1,a.2⟩
   nodup:=by have:=h.nodup;simpa [List.map_append]using this }
section
variable{P:Program}{ops:Array Oper}{N:Fs}{F:Fr}{E:Ent}{M:Mem}{L:Lc}{o:Oper}
end
set_option maxRecDepth 8000
def CI:Nat->List (Int×Value)->List MapEntry
 |_,[]=>[]
 |j,p::l=>{ key:=.int .i64 p.1,val:=p.2,born:=j }::CI (j+1) l
def A4(l:List (Int×Value)):Obj:=.map (CI 0 l).toArray l.length
def Lm(k:Int):List (Int×Value)->Nat->Option (Nat×Value)
 |[],_=>none
 |p::l,i=>if k=p.1 then some (i,p.2)else Lm k l (i+1)
def CS(k:Int):List (Int×Value)->Option Value
 |[]=>none
 |p::l=>if k=p.1 then some p.2 else CS k l
def FS(k:Int)(v:Value):List (Int×Value)->List (Int×Value)
 |[]=>[(k,v)]
 |p::l=>if k=p.1 then (k,v)::l else p::FS k v l
theorem FU{q:IntKind}(k:Int):∀(l:List (Int×Value))(j i:Nat),Instr.findNow (.int q) (.int .i64 k) (CI j l) i=some (Lm k l i)
 |[],_,_=>rfl
 |p::l,j,i=>by
  rw[CI,Instr.findNow,Lm]
  by_cases h:k=p.1
  ·simp [Instr.sameNow,h]
  have a:(k==p.1)=false:=by simpa using h
  simp only[Instr.sameNow,if_true,a,if_neg h]
  exact FU k l (j+1) (i+1)
theorem TG(k:Int):∀(l:List (Int×Value))(i:Nat),(Lm k l i=none/\CS k l=none)\/∃j v,Lm k l i=some (i+j,v)/\CS k l=some v/\j<l.length
 |[],_=>.inl ⟨rfl,rfl⟩
 |p::l,i=>by
  rw[Lm,CS]
  by_cases h:k=p.1
  ·rw [if_pos h,if_pos h];exact .inr ⟨0,p.2,rfl,rfl,by simp⟩
  rw[if_neg h,if_neg h]
  rcases TG k l (i+1)with a|⟨j,v,a,b,c⟩
  ·exact .inl a
  exact .inr ⟨j+1,v,by rw[a];congr 2;omega,b,by simp;omega⟩
theorem SN(k:Int)(v:Value):∀(l:List (Int×Value))(i j:Nat),Lm k l i=none->CI j (FS k v l)=CI j l++[{ key:=.int .i64 k,val:=v,born:=j+l.length }]/\(FS k v l).length=l.length+1
 |[],_,j,_=>⟨by simp[FS,CI],rfl⟩
 |p::l,i,j,h=>by
  rw[Lm]at h
  split at h
  ·cases h
  rename_i a
  obtain⟨c,b⟩:=SN k v l (i+1) (j+1) h
  rw[FS,if_neg a]
  refine⟨?_,by simp[b]⟩
  rw[CI,c,CI];simp[Nat.add_comm,Nat.add_left_comm]
theorem SL(k:Int)(v:Value):∀(l:List (Int×Value))(i j n:Nat)(u:Value),Lm k l i=some (n,u)->i<=n/\CI j (FS k v l)=(CI j l).modify (n-i) (λe=>{ e with key:=.int .i64 k,val:=v })/\(FS k v l).length=l.length/\∃e,(CI j l)[n-i]? =some e/\e.key=.int .i64 k
 |[],_,_,_,_,h=>by cases h
 |p::l,i,j,n,u,h=>by
  rw[Lm]at h
  rw[FS]
  split at h
  ·rename_i a
   cases h
   rw[if_pos a]
   exact⟨Nat.le_refl _,by simp[CI],rfl,_,by simp[CI];rfl,by simp[a]⟩
  rename_i a
  rw[if_neg a]
  obtain⟨m,g,f,e,d,c⟩:=SL k v l (i+1) (j+1) n u h
  have b:n-i=(n-(i+1))+1:=by omega
  refine⟨by omega,?_,by simp[f],e,?_,c⟩
  ·rw [CI,g,CI,b];rfl
  rw[CI,b];simpa using d
theorem Gh(k:Int)(v:Value):∀(l:List (Int×Value))(x:Int),CS x (FS k v l)=if x=k then some v else CS x l
 |[],x=>by simp[FS,CS]
 |p::l,x=>by
  rw[FS]
  by_cases h:k=p.1
  ·rw [if_pos h,CS,CS]
   by_cases a:x=k
   ·simp [a]
   simp[a,<-h]
  rw[if_neg h,CS,CS,Gh k v l x]
  by_cases a:x=p.1
  ·rw [if_pos a,if_pos a,if_neg (λe=>h (by rw[<-e,a]))]
  rw[if_neg a,if_neg a]
section
variable{P:Program}{ops:Array Oper}{N:Fs}{F:Fr}{E:Ent}{M:Mem}{L:Lc}{o:Oper}
theorem Ql{t:TypeId}(e:gd ops F o=some true)(d:o.op=.makeMap t none):
  HF P ops N F E M L o (λv f g=>∃b,v=.map (some b)/\M=f/\g=(b,A4 [])::L):=Dw e λa w h c=>
 ⟨_,_,M,_,.inl (by simp[execOp,d,Instr.makeMap,newObj];rfl),c.alloc (A4 []),_,rfl,rfl,rfl⟩
theorem LI{t g m:TypeId}(h:P.underlying t=some (.map g m))(hk:P.underlying g=some (.int .i64)){w:World}{z:Value}(n:(zeroValue m).run P w=.ok z w){b:Nat}{l:List (Int×Value)}(o:w.heap[b]? =some (A4 l))(k:Int)(c:Bool):
  (Instr.lookup t (.map (some b)) (.int .i64 k) c).run P w=.ok (if c then .tuple #[(CS k l).getD z,.bool (CS k l).isSome]else (CS k l).getD z) w:=by
 have a:MapKept.IsKey (.int .i64) (.int .i64 k):=by simp[MapKept.IsKey]
 have d:Instr.findNow (.int .i64) (.int .i64 k) (CI 0 l).toArray.toList 0=some (Lm k l 0):=FU k l 0 0
 have i:=MapKept.run_getObj_map (P:=P) (w:=w) (r:=b) (es:=(CI 0 l).toArray) (clock:=l.length) o
 rcases TG k l 0 with⟨f,e⟩|⟨j,v,f,e,_⟩
 ·rw [f]at d
  simp[Instr.lookup,run_underlying h,i,MapKept.run_checkKey hk a,MapKept.run_findKey hk d,Result.andThen,n,e]
 rw[f]at d
 simp[Instr.lookup,run_underlying h,i,MapKept.run_checkKey hk a,MapKept.run_findKey hk d,Result.andThen,e]
theorem Sb{c:TypeId}{z:Value}(a:(P.info? c).bind (·.zero)=some z)(w:World):(zeroValue c).run P w=.ok z w:=by
 cases b:P.info? c with
 |none=>rw[b]at a;cases a
 |some d=>
  rw[b]at a
  have e:d.zero=some z:=a
  simp[zeroValue,typeInfo,b,e]
theorem SI{t c e:TypeId}{x y:Operand}{b:Nat}{k:Int}{l:List (Int×Value)}{z:Value}(n:gd ops F o=some true)(m:o.op=.lookup t x y false)(g:ev F x=some (.map (some b)))(f:ev F y=some (.int .i64 k))
  [j:Und P t (.map c e)] [hk:Und P c (.int .i64)] [at_:At b (A4 l) L] (r:(P.info? e).bind (·.zero)=some z):QF P ops N F M L o ((CS k l).getD z):=BG n λa d w i=>by
 have:=LI (P:=P) j.h hk.h (Sb r w) (i.locs _ at_.mem) k false
 simp only[Bool.false_eq_true,if_false]at this
 simp[execOp,m,d.ev g,d.ev f,this]
theorem Ye{t c e:TypeId}{x y:Operand}{b:Nat}{k:Int}{l:List (Int×Value)}{z:Value}(n:gd ops F o=some true)(m:o.op=.lookup t x y true)(g:ev F x=some (.map (some b)))(f:ev F y=some (.int .i64 k))
  [j:Und P t (.map c e)] [hk:Und P c (.int .i64)] [at_:At b (A4 l) L] (r:(P.info? e).bind (·.zero)=some z):QF P ops N F M L o (.tuple #[(CS k l).getD z,.bool (CS k l).isSome]):=BG n λa d w i=>by
 have:=LI (P:=P) j.h hk.h (Sb r w) (i.locs _ at_.mem) k true
 simp only[if_true]at this
 simp[execOp,m,d.ev g,d.ev f,this]
theorem SC{t j s:TypeId}(m:P.underlying t=some (.map j s))(hk:P.underlying j=some (.int .i64)){w:World}{b:Nat}{l:List (Int×Value)}(f:w.heap[b]? =some (A4 l))(k:Int)(v:Value):
  (Instr.mapUpdate t (.map (some b)) (.int .i64 k) v).run P w=.ok () { w with heap:=w.heap.setIfInBounds b (A4 (FS k v l)) }:=by
 have a:MapKept.IsKey (.int .i64) (.int .i64 k):=by simp[MapKept.IsKey]
 have c:Instr.findNow (.int .i64) (.int .i64 k) (CI 0 l).toArray.toList 0=some (Lm k l 0):=FU k l 0 0
 have o:=MapKept.run_getObj_map (P:=P) (w:=w) (r:=b) (es:=(CI 0 l).toArray) (clock:=l.length) f
 cases d:Lm k l 0 with
 |none=>
  rw[d]at c
  obtain⟨i,h⟩:=SN k v l 0 0 d
  have g:A4 (FS k v l)=.map ((CI 0 l).toArray.push { key:=.int .i64 k,val:=v,born:=l.length }) (l.length+1):=by
   unfold A4;rw[i,h];simp
  simp[Instr.mapUpdate,run_underlying m,o,MapKept.run_checkKey hk a,MapKept.run_findKey hk c,Result.andThen,MapKept.run_setObj_map _ (show w.heap[b]? =some (.map (CI 0 l).toArray l.length)from f),g]
 |some r=>
  obtain⟨n,u⟩:=r
  rw[d]at c
  obtain⟨_,i,h,e,B,z⟩:=SL k v l 0 0 n u d
  have g:A4 (FS k v l)=.map ((CI 0 l).toArray.modify n (λe=>{ e with key:=.int .i64 k,val:=v })) l.length:=by
   unfold A4;rw[i,h];simp
  have y:(CI 0 l)[n]? =some e:=by simpa using B
  simp[Instr.mapUpdate,run_underlying m,o,MapKept.run_checkKey hk a,MapKept.run_findKey hk c,Result.andThen,y,z,MapKept.run_keyThatStays a,MapKept.run_setObj_map _ (show w.heap[b]? =some (.map (CI 0 l).toArray l.length)from f),g]
theorem Tx{t g C:TypeId}{x y z:Operand}{b:Nat}{k:Int}{v:Value}{l:List (Int×Value)}{L':Lc}(u:gd ops F o=some true)(c:o.op=.mapUpdate t x y z\/o.op=.insert t x y z)(n:ev F x=some (.map (some b)))(m:ev F y=some (.int .i64 k))(j:ev F z=some v)
  [r:Und P t (.map g C)] [hk:Und P g (.int .i64)] [at_:At b (A4 l) L] [hp:PutAt b (A4 l) (A4 (FS k v l)) L L']:HF P ops N F E M L o (λ_ D f=>M=D/\f=L'):=Dw u λa w e i=>by
 have d:w.heap[b]? =some (A4 l):=(i.locs (b,A4 l) at_.mem).1
 obtain⟨A,B,rfl,rfl⟩:=hp.ex
 have s:=SC (P:=P) r.h hk.h d k v
 refine⟨undef,{ w with heap:=w.heap.setIfInBounds b (A4 (FS k v l)) },M,_,.inr ⟨rfl,?_⟩,i.setObj rfl rfl rfl (by simp) (MapKept.heap_set d).1 (λk hk=>(MapKept.heap_set d).2 k hk),rfl,rfl⟩
 rcases c with c|c<;>simp[execOp,c,e.ev n,e.ev m,e.ev j,s]
end
end Go.Proofs.YtdahhoicackcaaaGreat
