/- Walks: the pool of a superblock; the pool of a disk. -/
import Derived.Test.YtdahhoicackcaaaGreatZHn
import Derived.Test.YtdahhoicackcaaaGreatZRing
import Derived.Test.YtdahhoicackcaaaGreatZSp
import Derived.Test.YtdahhoicackcaaaGreatZRfind
namespace Go.Proofs.YtdahhoicackcaaaGreat
open Go.Proofs.Tryz
open List (nil_append getD getElem_mem)
set_option linter.unusedSimpArgs false
set_option linter.unusedVariables false
set_option linter.unusedSectionVars false
open Go.RowKit
set_option maxRecDepth 8000
set_option maxHeartbeats 40000000
structure PoN(p:Po):Prop where
 gen:0<=p.gen/\p.gen<4294967296
 next:0<=p.next/\p.next<4294967296
 dead:p.dead.length<=1000000
def EX(p:Po):Int:=if Ax p≠0 then Ax p else if p.gen=4294967295 then 9 else 0
theorem SP(p:Po):Ax p=0\/Ax p=8:=by grind[Ax]
theorem poChk_is{p:Po}:Ax p=0↔∃x,cens p.st p.root p.next p.dead=some x:=by
 grind[Ax]
variable{s:Sto}
theorem Jl:∀{rs refs nodes:List Int}{x:List Int×List Int},B3 s rs refs nodes=some x->∀r∈rs,DQ s r=true
 |[],_,_,_,_,r,a=>by cases a
 |y::rs,refs,nodes,x,h,r,a=>by
  rw[B3]at h
  split at h
  ·rename_i b
   rcases List.mem_cons.1 a with rfl|a
   ·exact b
   exact Jl h r a
  cases h
structure PoOk(p:Po):Prop where
 st:Aq p.st
 len:p.dead.length<=40
 dead:∀d∈p.dead,tk d
 root:tk p.root
theorem PoOk.of{p:Po}(h:Ax p=0):PoOk p:=by
 obtain⟨x,a⟩:=poChk_is.1 h
 unfold cens at a
 split at a
 ·rename_i b
  refine⟨b.1,b.2.1,?_,by have:=Kc b.2.2;exact⟨this.1,this.2.1⟩⟩
  split at a
  ·cases a
  split at a
  ·cases a
  split at a
  ·cases a
  rename_i c
  intro d e
  have:=Kc (Jl c d (by unfold DW;simp[e]))
  exact⟨this.1,this.2.1⟩
 grind
def GZ(p:Po):Su:=⟨p.gen+1,p.root,p.next,FZ p.st.now,p.dead⟩
theorem QN{p:Po}(h:PoOk p):Ha (GZ p):=⟨h.dead,h.root,h.len⟩
def Bx(p:Po):Nat->List Wt
 |0=>[]
 |1=>wts (4+2*((p.gen+1)%2)) p.st.now
 |_=>[((p.gen+1)%4,PG (GZ p))]
def FA(p:Po):Nat->List (List By)×List Wt
 |0=>(p.st.blocks,p.st.waits)
 |1=>(p.st.blocks,p.st.waits)
 |k+2=>(AW (FA p (k+1)).1 (FA p (k+1)).2,Bx p (k+1))
variable{i:Nat}{t:List By}
theorem Tw(h:t.length=256)(a:i<2):(EI t i).length=128:=by grind[EI]
theorem KE{p:Po}(h:PoOk p)(c:PoN p)(k:Nat):(Bx p k).length<=2/\∀w∈Bx p k,0<=w.1/\w.1<8/\w.2.length=128:=by
 have b:p.st.now.length=256:=h.st.2.1.1
 have d:=c.gen
 match k with
 |0=>exact⟨by simp[Bx],λw a=>by simp[Bx]at a⟩
 |1=>
  refine⟨by simp[Bx,wts],λw a=>?_⟩
  simp only[Bx,wts,List.mem_cons,List.not_mem_nil,or_false]at a
  rcases a with rfl|rfl
  ·exact ⟨by show 0<=4+2*((p.gen+1)%2);omega,by show 4+2*((p.gen+1)%2)<8;omega,Tw b (by decide)⟩
  exact⟨by show 0<=4+2*((p.gen+1)%2)+1;omega,by show 4+2*((p.gen+1)%2)+1<8;omega,Tw b (by decide)⟩
 |k+2=>
  refine⟨by simp[Bx],λw a=>?_⟩
  simp only[Bx,List.mem_cons,List.not_mem_nil,or_false]at a
  subst a
  exact⟨by show 0<=(p.gen+1)%4;omega,by show (p.gen+1)%4<8;omega,Wu (QN h)⟩
variable{bs:List (List By)}{k:Nat}{ws:List Wt}
theorem wEi{p:Po}(h:PoOk p)(c:PoN p)(b:dkOk bs ws)(a:ws=[]):dkOk bs (ws++Bx p k):=by
 obtain⟨e,d⟩:=KE h c k
 subst a
 exact⟨b.1,by rw[nil_append];omega,b.2.2.1,λw a=>by have:=d w (by simpa using a);exact⟨this.1,by omega,this.2.2⟩⟩
theorem Hz{p:Po}(h:PoOk p)(a:PoN p):∀k,dkOk (FA p k).1 (FA p k).2
 |0=>h.st.1
 |1=>h.st.1
 |k+2=>by
  have b:=Hz h a (k+1)
  have:=wEi h a (k:=k+1) (Ka b λw c=>(b.w w c).2.2) rfl
  rw[nil_append]at this;exact this
variable{n:Int}
theorem wFc(h:0<=n/\n<4294967296):RR .i64 n 1=n%2:=by
 unfold RR
 have a:(BitVec.ofInt IntKind.i64.bits n &&& BitVec.ofInt IntKind.i64.bits 1).toNat=n.toNat%2:=by
  rw[BitVec.toNat_and,BitVec.toNat_ofInt,BitVec.toNat_ofInt,show ((1:Int)%((2 ^ IntKind.i64.bits:Nat):Int)).toNat=2 ^ 1-1 by decide,Nat.and_two_pow_sub_one_eq_mod]
  show (n%18446744073709551616).toNat%2=n.toNat%2
  omega
 rw[a,IntWalk.i64_in _ (by omega)];omega
def Bn(p:Po):Po:={ p with st:=⟨AW (FA p 3).1 (FA p 3).2,[],p.st.now,p.st.now⟩,gen:=p.gen+1 }
abbrev ffs:Nat->FuncId
 |0=>49
 |1=>50
 |_=>52
abbrev cps(b1:Nat):Nat->List Value
 |0=>[]
 |_=>[pB b1]
abbrev Np(b1 i:Nat):Value:=.func (.func (ffs i)) #[] (cps b1 i).toArray
theorem wDj(i:Nat):EN prog (ffs i)=true:=by
 match i with
 |0=>show EN prog 49=true;kernel_rfl
 |1=>show EN prog 50=true;kernel_rfl
 |i+2=>show EN prog 52=true;kernel_rfl
theorem Uz(p:Po)(M:Mem)(bs:List (List By))(ws:List Wt)(e a:Value)(c:LS M e bs)(b:WS M a ws)(g:dkOk bs ws):
  SpecL prog 49 #[.agg #[e,a]] M [] λu M' i=>(∃d,u=.tuple #[d,.int .i64 0]/\DK M' d bs (ws++Bx p 0))/\i=[]:=by
 obtain⟨m,l,h,rfl,_⟩:=id c
 obtain⟨k,j,f,rfl,_⟩:=id b
 refine sB func49 ntmps49 ?_;intro W
 refine EV λo n=>?_
 refine gr ?_
 exact⟨⟨_,rfl,_,_,rfl,c,by rw[show ws++Bx p 0=ws from List.append_nil _];exact b⟩,rfl⟩
theorem Uy(p:Po)(f:PoOk p)(s:PoN p)(K:p.gen≠4294967295)(pv o c r:Value)(da:Option Addr)(k:Nat)(M:Mem)(C:BS M c p.st.now)(z:p.dead.length<=k)(y:SM M da (Al p.dead))(l:Nat)(a:M l=some (cE (FW pv o c r p.gen p.root p.next (.slice da p.dead.length k)) QJ))(bs:List (List By))(ws:List Wt)(h b:Value)(E:LS M h bs)(D:WS M b ws)(g:dkOk bs ws)(e:ws.length<=4000):
  SpecL prog 50 #[.agg #[h,b],pB l] M [] λu M' H=>(∃d,u=.tuple #[d,.int .i64 0]/\DK M' d bs (ws++Bx p 1))/\H=[]:=by
 have t:=s.gen
 refine sB func50 ntmps50 ?_;intro W
 refine EV λP O=>?_
 refine lq (AE rfl rfl rfl rfl (CM.cj ⟨_,_,_,a,rfl⟩ _)) ?_
 refine lq (Bc (qP rfl rfl) (v':=.int .u32 (p.gen+1)) (by congr 1;rw[IntKind.wrap_u32];omega)) ?_
 refine lq (B7 rfl rfl rfl (by omega)) ?_
 refine lq (Bc (F5 rfl rfl rfl rfl rfl) (v':=.int .i64 ((p.gen+1)%2)) (by rw[wFc (by omega)])) ?_
 refine gh ?_
 refine lq (AE rfl rfl rfl rfl (CM.cj ⟨_,_,_,a,rfl⟩ _)) ?_
 refine gc (TM bs ws h b M E D g ((p.gen+1)%2) (by omega) p.st.now c C f.st.2.1 e) ?_;rintro _ Q B ⟨d,rfl,F,m,rfl,j,i⟩
 obtain⟨N,L,G,rfl,_⟩:=id j
 obtain⟨J,I,n,rfl,_⟩:=id i
 refine gr ?_
 exact⟨⟨_,rfl,_,_,rfl,j,i⟩,rfl⟩
theorem Ux(p:Po)(b:PoOk p)(l:PoN p)(L:p.gen≠4294967295)(pv t e y:Value)(da:Option Addr)(j:Nat)(M:Mem)(D:BS M e p.st.now)(i:p.dead.length<=j)(f:SM M da (Al p.dead))(o:Nat)(a:M o=some (cE (FW pv t e y p.gen p.root p.next (.slice da p.dead.length j)) QJ))(bs:List (List By))(ws:List Wt)(k c:Value)(F:LS M k bs)(E:WS M c ws)(h:dkOk bs ws)(z:ws.length<=4000):
  SpecL prog 52 #[.agg #[k,c],pB o] M [] λu M' I=>(∃d,u=.tuple #[d,.int .i64 0]/\DK M' d bs (ws++Bx p 2))/\I=[]:=by
 have B:=l.gen
 have g:=l.dead
 refine sB func52 ntmps52 ?_;intro W
 refine EV λQ P=>?_
 refine lq (AE rfl rfl rfl rfl (CM.cj ⟨_,_,_,a,rfl⟩ _)) ?_
 refine gQ (QB p.st.now e M D b.st.2.1) ?_
 refine gt ?_
 refine lq (AE rfl rfl rfl rfl (CM.cj ⟨_,_,_,a,rfl⟩ _)) ?_
 refine lq (Bc (qP rfl rfl) (v':=.int .u32 (p.gen+1)) (by congr 1;rw[IntKind.wrap_u32];omega)) ?_
 refine gh ?_
 refine lq (AE rfl rfl rfl rfl (CM.cj ⟨_,_,_,a,rfl⟩ _)) ?_
 refine gh ?_
 refine lq (AE rfl rfl rfl rfl (CM.cj ⟨_,_,_,a,rfl⟩ _)) ?_
 refine gh ?_
 refine lq (AE rfl rfl rfl rfl (CM.cj ⟨_,_,_,a,rfl⟩ _)) ?_
 refine gc (XX bs ws k c M F E h (GZ p) da j i f g (QN b) (by show 0<=p.gen+1/\p.gen+1<4294967296;omega) (by omega)) ?_;rintro _ R C ⟨d,rfl,G,r,rfl,n,m⟩
 obtain⟨O,N,H,rfl,_⟩:=id n
 obtain⟨K,J,s,rfl,_⟩:=id m
 refine gr ?_
 exact⟨⟨_,rfl,_,_,rfl,n,m⟩,rfl⟩
theorem Nn(p:Po)(e:PoOk p)(t:PoN p)(y:p.gen≠4294967295)(pv n j o:Value)(da:Option Addr)(l:Nat)(k:Nat)(hk:k<3)(M:Mem)(z:BS M j p.st.now)(g:p.dead.length<=l)(f:SM M da (Al p.dead))(m:Nat)(h:M m=some (cE (FW pv n j o p.gen p.root p.next (.slice da p.dead.length l)) QJ))(bs:List (List By))(ws:List Wt)(i b:Value)(s:LS M i bs)(r:WS M b ws)(a:dkOk bs ws)(c:0<k->ws.length<=4000):SpecL prog (ffs k) (.agg #[i,b]::cps m k).toArray M [] λu M' B=>(∃d,u=.tuple #[d,.int .i64 0]/\DK M' d bs (ws++Bx p k))/\B=[]:=by
 match k,hk with
 |0,_=>exact Uz p M bs ws i b s r a
 |1,_=>exact Uy p e t y pv n j o da l M z g f m h bs ws i b s r a (c (by decide))
 |2,_=>exact Ux p e t y pv n j o da l M z g f m h bs ws i b s r a (c (by decide))
theorem Jm(p:Po)(pv d e f:Value)(da:Option Addr)(g:Nat)(M:Mem):
  SpecL prog 22 #[.agg (FW pv d e f p.gen p.root p.next (.slice da p.dead.length g)).toArray] M [] λu M' l=>∃b a,u=.slice (some ⟨b,0,none⟩) 3 3/\M' b=some (cE [Np a 0,Np a 1,Np a 2] 106)/\M' a=some (cE (FW pv d e f p.gen p.root p.next (.slice da p.dead.length g)) QJ)/\l=[]:=by
 refine sB func22 ntmps22 ?_;intro W
 refine ga λa=>?_
 refine lh (Aa (cs:=[_,_,_]) rfl rfl rfl (by rfl) (by rfl) (by rfl)) ?_;rintro _ _ _ ⟨h,rfl,rfl,rfl⟩
 refine gh ?_
 refine AP a (by simp) ?_
 intro n i k
 refine AP h (by simp) ?_
 intro m c j
 refine gr ?_
 exact⟨h,a,rfl,j,c _ _ k,rfl⟩
theorem Fv(p:Po)(i:PoOk p)(L:PoN p)(hg:p.gen≠4294967295)(pv S s z:Value)(da:Option Addr)(y:Nat)(M:Mem)(h3:BS M s p.st.now)(C:p.dead.length<=y)(B:SM M da (Al p.dead))(h1:LS M pv p.st.blocks)(h2:WS M S p.st.waits)(n:Nat)(ak:n<=3)(c b r:Nat)(hb:M b=some (cE [Np r 0,Np r 1,Np r 2] 106))(D:M r=some (cE (FW pv S s z p.gen p.root p.next (.slice da p.dead.length y)) QJ)):
  SpecL prog 21 #[.agg (FW pv S s z p.gen p.root p.next (.slice da p.dead.length y)).toArray,.slice (some ⟨b,0,none⟩) n c] M [] λu M' L'=>(∃d,u=.tuple #[d,.int .i64 0]/\DK M' d (FA p n).1 (FA p n).2)/\L'=[]:=by
 obtain⟨aa,Z,ad,rfl,_⟩:=id h1
 obtain⟨Q,P,ab,rfl,_⟩:=id h2
 refine sB func21 ntmps21 ?_;intro W
 refine EV λb2 b4=>?_
 refine Cz (α:=Nat×Mem×Value×Value) (λx=>[(2,pB b2),(4,pB b4),(11,.slice (some ⟨b,0,none⟩) n c),(12,.int .i64 n),(13,.int .i64 x.1)]) (λx=>x.2.1) (λx=>[(b4,cE [x.2.2.1,x.2.2.2] Sa),(b2,cE (FW (.slice aa p.st.blocks.length Z) (.slice Q p.st.waits.length P) s z p.gen p.root p.next (.slice da p.dead.length y)) QJ)]) (λx=>x.1<=n/\MLe M x.2.1/\LS x.2.1 x.2.2.1 (FA p x.1).1/\WS x.2.1 x.2.2.2 (FA p x.1).2) (λx=>n-x.1) (0,M,_,_) ⟨Nat.zero_le _,MLe.refl _,h1,h2⟩ ?_
 rintro⟨k,Mk,al,ae⟩ ⟨hk,a,H,F⟩
 try dsimp only at hk a H F⊢
 obtain⟨ka,kc,aj,rfl,_⟩:=id H
 obtain⟨ai,ah,ac,rfl,_⟩:=id F
 refine gj (λU=>?_) λU=>?_
 ·refine gh ?_
  have m:k<3:=by omega
  refine gh ?_
  refine lq (AE (v:=Np r k) rfl rfl rfl rfl (CM.cj ⟨_,_,_,a _ _ hb,by rw[Nat.zero_add,Nat.mul_one];match k,m with|0,_=>rfl|1,_=>rfl|2,_=>rfl⟩ _)) ?_
  refine gj (λT=>?_) λT=>?_
  ·refine gh ?_
   have e:=Hz i L k
   refine gc (KG (FA p k).1 (FA p k).2 _ _ Mk H F e) ?_;rintro _ Mb l ⟨d,rfl,am,af,rfl,G,E⟩
   obtain⟨ba,bc,ao,rfl,_⟩:=id G
   obtain⟨wa,wc,ag,rfl,_⟩:=id E
   refine gt ?_
   refine lh (Bu rfl rfl rfl rfl rfl (wDj k) (Nn p i L hg _ _ s z da y k m Mb ((h3.mono (a.trans l))) C (B.mono (a.trans l)) r ((a.trans l) _ _ D) (AW (FA p k).1 (FA p k).2) [] _ _ G E (Ka e λw hw=>(e.w w hw).2.2) (λ_=>by simp))) ?_;rintro _ N _ ⟨o,_,rfl,⟨⟨d3,rfl,Y,O,rfl,g,f⟩,rfl⟩⟩
   simp only[nil_append]
   obtain⟨X,V,I,rfl,_⟩:=id g
   obtain⟨K,J,R,rfl,_⟩:=id f
   refine gt ?_
   obtain⟨j,rfl⟩:∃j,k=j+1:=⟨k-1,by omega⟩
   refine Bw (j+1+1,N,.slice X _ V,.slice K _ J) ⟨by show j+1+1<=n;omega,(a.trans l).trans o,g,f⟩
  refine gh ?_
  refine lh (Bu rfl rfl rfl rfl rfl (wDj k) (Nn p i L hg _ _ s z da y k m Mk (h3.mono a) C (B.mono a) r (a _ _ D) (FA p k).1 (FA p k).2 _ _ H F (Hz i L k) (λh=>by omega))) ?_;rintro _ N _ ⟨o,_,rfl,⟨⟨d3,rfl,Y,O,rfl,g,f⟩,rfl⟩⟩
  simp only[nil_append]
  obtain⟨X,V,I,rfl,_⟩:=id g
  obtain⟨K,J,R,rfl,_⟩:=id f
  refine gt ?_
  obtain rfl:k=0:=by omega
  refine H1 (1,N,.slice X _ V,.slice K _ J) (Keep.cons (t:=2) rfl (Keep.cons (t:=4) rfl (Keep.cons (t:=11) rfl (Keep.cons (t:=12) rfl (Keep.cons (t:=13) rfl Keep.nil))))) ⟨by show 1<=n;omega,a.trans o,g,by
   have hz:(FA p 0).2++Bx p 0=(FA p 1).2:=List.append_nil _
   have:=f
   rw[hz]at this
   show WS N (.slice K ((FA p 0).2++Bx p 0).length J) (FA p 1).2
   rw[hz];exact this⟩ (by show n-1<n-0;omega) (λ_ h=>h)
 refine gr ?_
 obtain rfl:k=n:=by omega
 exact⟨⟨_,rfl,_,_,rfl,H,F⟩,rfl⟩
theorem LY(p:Po)(v:Value)(M:Mem)(h:PT M v p)(c:PoN p):
  SpecL prog 20 #[v] M [] λu M' i=>u=.int .i64 (EX p)/\i=[]:=by
 have a:=h
 obtain⟨pv,j,k,l,s,rfl,r,o,n,m,da,t,rfl,e,d⟩:=h
 refine sB func20 ntmps20 ?_;intro W
 refine ga λy=>?_
 refine gc (Fn p _ M a c.dead) ?_;rintro _ z f rfl
 refine gj (λg=>?_) λg=>?_
 ·refine gr ?_
  grind[EX]
 refine gj (λb=>?_) λb=>?_
 ·refine gr ?_
  grind[EX]
 refine gr ?_
 grind[EX]
theorem SX(c:Nat)(M:Mem):
  SpecL prog 56 #[.slice none 0 c] M [] λv _ a=>Own v a 3 1 0 []:=by
 refine sB func56 ntmps56 ?_;intro W
 refine gh ?_
 refine lq (Bc (KY rfl rfl rfl rfl) (v':=.bool true) (by simp)) ?_
 refine gr ?_
 grind[Own.nil]
theorem Q4(b:Addr)(n c:Nat)(a:List Value)(M:Mem)(hs:SM M (some b) a)(j:a.length=n)(e:∀v∈a,v.oneCell'=true)(i:n<=1000000):
  SpecL prog 56 #[.slice (some b) n c] M [] λv _ g=>Own v g 3 1 n a:=by
 refine sB func56 ntmps56 ?_;intro W
 refine gh ?_
 refine lq (Bc (KY rfl rfl rfl rfl) (v':=.bool false) (by simp)) ?_
 refine gh ?_
 refine lh (Aa (z:=[.int .i64 0]) (cs:=[]) rfl rfl rfl (by rfl) (by rfl) (by rfl)) ?_;rintro _ _ _ ⟨f,rfl,rfl,rfl⟩
 refine gh ?_
 refine lh (Dx (n:=0) (xs:=[]) (news:=a) rfl rfl rfl rfl (Own.empty f _ _) (by omega) hs rfl e (by omega) (by decide)) ?_;rintro h _ _ ⟨rfl,k,rfl,d⟩
 refine jp rfl ?_
 refine Am (jT (Bs ?_))
 refine Gd rfl rfl ?_
 grind
theorem De(a:Option Addr)(n c:Nat)(d:List Value)(M:Mem)(hs:SM M a d)(e:d.length=n)(g:∀v∈d,v.oneCell'=true)(f:n<=1000000):SpecL prog 56 #[.slice a n c] M [] λv _ j=>Own v j 3 1 n d:=by
 cases a with
 |none=>
  have i:d=[]:=hs.elim id (λ⟨_,_,h,_⟩=>by cases h)
  subst i
  have:n=0:=by simpa using e.symm
  subst this
  exact SX c M
 |some b=>exact Q4 b n c d M hs e g f
theorem Pm(p:Po)(pv f g h:Value)(da:Option Addr)(i:Nat)(M:Mem)(I:LS M pv p.st.blocks)(H:WS M f p.st.waits)(G:BS M g p.st.now)(F:BS M h p.st.last)(E:p.dead.length<=i)(l:SM M da (Al p.dead))(a:Aq p.st)(m:p.dead.length<=1000000):
  SpecL prog 24 #[.agg (FW pv f g h p.gen p.root p.next (.slice da p.dead.length i)).toArray] M [] λu M' O=>PT M' u p/\O=[]:=by
 have n:=a.1
 have C:p.st.now.length=256:=a.2.1.1
 have D:p.st.last.length=256:=a.2.2.1
 refine sB func24 ntmps24 ?_;intro W
 refine EV λL b2=>?_
 refine Hr [7,9] [7,8,9] [0,1,3,4,102,6,105,107,8,109] M ([(L,cE (FW pv f g h p.gen p.root p.next (.slice da p.dead.length i)) QJ)]) ([]) ?_
 refine gh ?_
 refine dh rfl (hC (Jo p.st pv f g h M I H G F n (by omega) (by omega))) ?_;rintro _ N _ ⟨d,_,rfl,⟨j,rfl⟩⟩
 refine⟨d,by simp,?_⟩
 obtain⟨U,T,S,R,rfl,z,y,t,s⟩:=j.ex
 obtain⟨ba,bc,K,rfl,_⟩:=id z
 obtain⟨Q,P,B,rfl,_⟩:=id y
 obtain⟨X,V,rfl,_⟩:=id t
 obtain⟨Z,Y,rfl,_⟩:=id s
 refine gh ?_
 refine dh rfl (hC (De da _ i (Al p.dead) N (l.mono d) (Ay _) (DB _) m)) ?_;rintro _ M2 _ ⟨c,R2,rfl,e⟩
 refine⟨c,by simp,?_⟩
 obtain⟨ea,ec,rfl⟩:=e.form
 refine Ed rfl rfl (Ae rfl rfl rfl rfl rfl rfl rfl rfl) ?_;rintro _ _ _ ⟨rfl,rfl⟩
 refine⟨d.trans c,by simp,?_⟩
 refine Hq rfl rfl rfl (Ak rfl rfl rfl rfl rfl) ?_
 refine G1 rfl rfl (Ae rfl rfl rfl rfl rfl rfl rfl rfl) ?_;rintro _ _ _ ⟨rfl,rfl⟩
 refine⟨d.trans c,by simp,?_⟩
 refine gh ?_
 refine Cj e (by simp) ?_
 intro M4 a4 c4 r J o k;cases J
 refine gr ?_
 have b:=c.trans r
 exact⟨⟨_,_,_,_,_,rfl,z.mono b,y.mono b,t.mono b,s.mono b,_,_,rfl,o,k⟩,rfl⟩
theorem Ea{p:Po}(h:EX p=0):PoOk p/\p.gen≠4294967295:=by
 grind[EX,PoOk.of]
abbrev poZ:List Value:=[.slice none 0 0,.slice none 0 0,.slice none 0 0,.slice none 0 0,.int .u32 0,.int .i64 0,.int .u32 0,.slice none 0 0]
def ComP(p:Po)(u:Value)(M':Mem):Prop:=if EX p=0 then ∃v,u=.tuple #[v,.int .i64 0]/\PT M' v (Bn p)else u=.tuple #[.agg poZ.toArray,.int .i64 (EX p)]
def wDo:Value:=.agg #[.slice none 0 0,.slice none 0 0]
def Ud(p:Po)(phase:Int)(keep:List Bool)(u:Value)(M':Mem):Prop:=
 if EX p=0 then if phase<1\/3<phase then u=.tuple #[wDo,.int .i64 2]
  else if keep.length=(FA p phase.toNat).2.length then ∃d,u=.tuple #[d,.int .i64 0]/\DK M' d (AW (FA p phase.toNat).1 (CQ keep (FA p phase.toNat).2)) []else u=.tuple #[wDo,.int .i64 2]
 else u=.tuple #[wDo,.int .i64 (EX p)]
theorem TR(p:Po)(pv i j k:Value)(da:Option Addr)(l:Nat)(M:Mem)(I:LS M pv p.st.blocks)(G:WS M i p.st.waits)(F:BS M j p.st.now)(R:BS M k p.st.last)(o:p.dead.length<=l)(f:SM M da (Al p.dead))(D:PoN p):
  SpecL prog 8 #[.agg (FW pv i j k p.gen p.root p.next (.slice da p.dead.length l)).toArray] M [] λu M' L'=>ComP p u M'/\L'=[]:=by
 have ad:PT M (.agg (FW pv i j k p.gen p.root p.next (.slice da p.dead.length l)).toArray) p:=⟨pv,i,j,k,_,rfl,I,G,F,R,da,l,rfl,o,f⟩
 have ao:=D.gen
 refine sB func8 ntmps8 ?_;intro W
 refine EV λT b2=>?_
 refine gc (LY p _ M ad D) ?_;rintro _ M0 s rfl
 refine gj (λH=>?_) λH=>?_
 ·refine gr ?_
  exact⟨by unfold ComP;rw[if_neg H];rfl,rfl⟩
 refine gh ?_
 have K:EX p=0:=Classical.not_not.1 H
 obtain⟨h,hg⟩:=Ea K
 replace I:=I.mono s
 replace G:=G.mono s
 replace F:=F.mono s
 replace R:=R.mono s
 replace f:=f.mono s
 refine Cg ([(b2,.cells poZ.toArray QJ (0,0)),(T,cE (FW pv i j k p.gen p.root p.next (.slice da p.dead.length l)) QJ)]) (by kernel_rfl) (by simp) ?_
 refine gk [0,1] ?_
 refine Ch (α:=Mem×Value×Value×Nat) (λy=>MLe M0 y.1/\LS y.1 y.2.1 (FA p 3).1/\WS y.1 y.2.2.1 (FA p 3).2) (λy=>[(1,pB T),(2,pB b2),(5,.pointer (some ⟨y.2.2.2,0,none⟩)),(18,.agg [y.2.1,y.2.2.1].toArray),(19,.int .i64 0)]) (λy=>y.1) (λy=>[(y.2.2.2,cE [.slice none 0 0,.slice none 0 0] Sa),(b2,.cells poZ.toArray QJ (0,0)),(T,cE (FW pv i j k p.gen p.root p.next (.slice da p.dead.length l)) QJ)]) 2 #[true,true,true,true,true,true,true,true,false,false] ?_ (λm=>?_)
 ·rintro ⟨Mr,J,C,S⟩ ⟨E,e,b⟩
  try dsimp only at E e b⊢
  obtain⟨xa,xc,aj,rfl,_⟩:=id e
  obtain⟨ya,yc,ai,rfl,_⟩:=id b
  refine aO 8 ?_
  refine My rfl rfl (Ae rfl rfl rfl rfl rfl rfl rfl rfl) ?_;rintro _ _ _ ⟨rfl,rfl⟩
  refine aG (E) ?_
  refine gk [9] ?_
  refine D3 (by kernel_rfl) ?_
  refine gt ?_
  refine gc (KG (FA p 3).1 (FA p 3).2 _ _ Mr e b (Hz h D 3)) ?_;rintro _ Mb ae ⟨d,rfl,ap,ak,rfl,O,L⟩
  obtain⟨za,zc,ah,rfl,_⟩:=id O
  obtain⟨X,V,ag,rfl,_⟩:=id L
  refine gt ?_
  have r:=E.trans ae
  refine gc (Pm p pv i j k da l Mb (I.mono r) (G.mono r) (F.mono r) (R.mono r) o (f.mono r) h.st D.dead) ?_;rintro _ Mt N Z
  obtain⟨q1,q2,q3,q4,q5,rfl,g1,g2,g3,g4,ga,gc,rfl,ab,aa⟩:=Z
  obtain⟨ba,bc,aq,rfl,_⟩:=id g1
  obtain⟨wa,wc,al,rfl,_⟩:=id g2
  obtain⟨na,nc,rfl,_⟩:=id g3
  obtain⟨la,lc,rfl,_⟩:=id g4
  refine gh ?_
  refine Hr [7,10] [7,8,9,10] [0,1,2,3,5,6,104,107,8,9,110] Mt ([(S,cE [.slice za (AW (FA p 3).1 (FA p 3).2).length zc,.slice X ([]:List Wt).length V] Sa),(T,cE (FW (.slice ba p.st.blocks.length bc) (.slice wa p.st.waits.length wc) (.slice na p.st.now.length nc) (.slice la p.st.last.length lc) p.gen p.root p.next (.slice ga p.dead.length gc)) QJ)]) ([]) ?_
  refine gh ?_
  have am:p.st.now.length=256:=h.st.2.1.1
  refine dh rfl (hC (Bv _ p.st.now Mt g3 (by omega))) ?_;rintro _ Mc _ ⟨z,Rc,rfl,n⟩
  refine⟨z,by simp,?_⟩
  obtain⟨ca,cc,rfl⟩:=n.form
  refine Ed rfl rfl (Ae rfl rfl rfl rfl rfl rfl rfl rfl) ?_;rintro _ _ _ ⟨rfl,rfl⟩
  refine⟨z,by simp,?_⟩
  refine Hq rfl rfl rfl (Ak rfl rfl rfl rfl rfl) ?_
  refine Hq rfl rfl rfl (Ak rfl rfl rfl rfl rfl) ?_
  refine G1 rfl rfl (Ae rfl rfl rfl rfl rfl rfl rfl rfl) ?_;rintro _ _ _ ⟨rfl,rfl⟩
  refine⟨z,by simp,?_⟩
  refine gh ?_
  refine lq (Bc (qP rfl rfl) (v':=.int .u32 (p.gen+1)) (by congr 1;rw[IntKind.wrap_u32];omega)) ?_
  refine gh ?_
  refine Cj n (by simp) ?_
  intro M4 a4 c4 af e4 ac Y;cases e4
  refine gr ?_
  have Q:=z.trans af
  exact⟨by unfold ComP;rw[if_pos K];exact⟨_,rfl,_,_,_,_,_,rfl,O.mono (N.trans Q),L.mono (N.trans Q),g3.mono Q,⟨_,_,rfl,ac,Y⟩,_,_,rfl,ab,aa.mono Q⟩,rfl⟩
 refine AR [2,7] (by kernel_rfl) rfl ⟨?_,?_,trivial⟩
 ·refine sh rfl (hC (Jm p pv i j k da l _)) ?_;rintro _ U _ ⟨a,R2,rfl,P,t,rfl,B,g,rfl⟩
  refine aG (a) ?_
  simp only[nil_append]
  refine AR [3,7] (by kernel_rfl) rfl ⟨?_,?_,trivial⟩
  ·refine sh rfl (hC (Fv p h D hg pv i j k da l U (F.mono a) o (f.mono a) (I.mono a) (G.mono a) 3 (by decide) 3 P t B g)) ?_;rintro _ M3 _ ⟨c,R3,rfl,⟨d,rfl,J,C,rfl,e,b⟩,rfl⟩
   refine aG ((a).trans c) ?_
   simp only[nil_append]
   refine gk [4,5,6] ?_
   refine aO 7 ?_
   refine sh rfl (AM rfl rfl) ?_;rintro _ _ _ ⟨S,rfl,rfl,rfl⟩
   refine aG ((a.trans c)) ?_
   exact aR m (_,_,_,_) ⟨(a.trans c),e,b⟩
  refine sh rfl (AM rfl rfl) ?_;rintro _ _ _ ⟨S,rfl,rfl,rfl⟩
  refine aG (a) ?_
  refine aO 3 ?_
  refine sh rfl (hC (Fv p h D hg pv i j k da l U (F.mono a) o (f.mono a) (I.mono a) (G.mono a) 3 (by decide) 3 P t B g)) ?_;rintro _ M3 _ ⟨c,R3,rfl,⟨d,rfl,J,C,rfl,e,b⟩,rfl⟩
  refine aG ((a).trans c) ?_
  simp only[nil_append]
  refine gk [4,5,6] ?_
  exact aR m (_,_,_,_) ⟨(a.trans c),e,b⟩
 refine sh rfl (AM rfl rfl) ?_;rintro _ _ _ ⟨S,rfl,rfl,rfl⟩
 refine aG (MLe.refl _) ?_
 refine aO 2 ?_
 refine sh rfl (hC (Jm p pv i j k da l _)) ?_;rintro _ U _ ⟨a,R2,rfl,P,t,rfl,B,g,rfl⟩
 refine aG (a) ?_
 simp only[nil_append]
 refine aO 3 ?_
 refine sh rfl (hC (Fv p h D hg pv i j k da l U (F.mono a) o (f.mono a) (I.mono a) (G.mono a) 3 (by decide) 3 P t B g)) ?_;rintro _ M3 _ ⟨c,R3,rfl,⟨d,rfl,J,C,rfl,e,b⟩,rfl⟩
 refine aG ((a).trans c) ?_
 simp only[nil_append]
 refine gk [4,5,6] ?_
 exact aR m (_,_,_,_) ⟨(a.trans c),e,b⟩
variable{M':Mem}{u:Value}
theorem CrP.form{keep:List Bool}(h:if keep.length=ws.length then ∃d,u=.tuple #[d,.int .i64 0]/\DK M' d (AW bs (CQ keep ws)) []else u=.tuple #[.agg #[.slice none 0 0,.slice none 0 0],.int .i64 2]):
  ∃m k l j g i e,u=.tuple #[.agg #[.slice m k l,.slice j g i],.int .i64 e]/\(if keep.length=ws.length then e=0/\DK M' (.agg #[.slice m k l,.slice j g i]) (AW bs (CQ keep ws)) []else e=2/\(.agg #[.slice m k l,.slice j g i]:Value)=wDo):=by
 by_cases f:keep.length=ws.length
 ·rw [if_pos f]at h
  obtain⟨d,rfl,s,r,rfl,o,n⟩:=h
  obtain⟨a,c,_,rfl,_⟩:=id o
  obtain⟨b,e,_,rfl,_⟩:=id n
  exact⟨a,_,c,b,_,e,0,rfl,by rw[if_pos f];exact⟨rfl,_,_,rfl,o,n⟩⟩
 rw[if_neg f]at h
 exact⟨none,0,0,none,0,0,2,h,by rw[if_neg f];exact⟨rfl,rfl⟩⟩
theorem wDv(p:Po)(pv j k l:Value)(da:Option Addr)(o:Nat)(M:Mem)(I:LS M pv p.st.blocks)(H:WS M j p.st.waits)(G:BS M k p.st.now)(V:BS M l p.st.last)(z:p.dead.length<=o)(f:SM M da (Al p.dead))(F:PoN p)(phase:Int)(keep:List Bool)(N:Option Addr)(P:Nat)(Q:SM M N (Bo keep))(R:keep.length<=1000000):
  SpecL prog 15 #[.agg (FW pv j k l p.gen p.root p.next (.slice da p.dead.length o)).toArray,.int .i64 phase,.slice N keep.length P] M [] λu M' L'=>Ud p phase keep u M'/\L'=[]:=by
 have U:PT M (.agg (FW pv j k l p.gen p.root p.next (.slice da p.dead.length o)).toArray) p:=⟨pv,j,k,l,_,rfl,I,H,G,V,da,o,rfl,z,f⟩
 have ad:=F.gen
 refine sB func15 ntmps15 ?_;intro W
 refine EV λb3 Z=>?_
 refine gc (LY p _ M U F) ?_;rintro _ M0 c rfl
 refine gj (λC=>?_) λC=>?_
 ·refine gr ?_
  exact⟨by unfold Ud;rw[if_neg C];rfl,rfl⟩
 refine gh ?_
 have m:EX p=0:=Classical.not_not.1 C
 obtain⟨s,hg⟩:=Ea m
 replace I:=I.mono c
 replace H:=H.mono c
 replace G:=G.mono c
 replace V:=V.mono c
 replace f:=f.mono c
 refine gC (Jm p pv j k l da o M0) ?_;rintro _ M2 _ a ⟨O,E,rfl,J,r,rfl⟩
 simp only[nil_append]
 refine gj (λY=>?_) λY=>?_
 ·refine gr ?_
  exact⟨by unfold Ud;rw[if_pos m,if_pos (by omega)];rfl,rfl⟩
 refine gj (λX=>?_) λX=>?_
 ·refine gr ?_
  exact⟨by unfold Ud;rw[if_pos m,if_pos (by omega)];rfl,rfl⟩
 refine gh ?_
 refine Cg ([(Z,cE [.slice none 0 0,.slice none 0 0] Sa),(b3,cE (FW pv j k l p.gen p.root p.next (.slice da p.dead.length o)) QJ)]) (by kernel_rfl) (by simp) ?_
 refine gk [0,1,2] ?_
 refine GJ (i:=3) rfl (by kernel_rfl) (by kernel_rfl) rfl rfl (Bc (C6 rfl rfl rfl (.no _) (.of (v:=phase.toNat) rfl (by omega) rfl) (.no _) (by omega) (by simp)) (v':=.slice (some ⟨O,0,none⟩) phase.toNat 3) (by rw[AZ];rfl)) ?_
 refine Ch (α:=Mem×Value×Value×Nat) (λy=>MLe M2 y.1/\LS y.1 y.2.1 (FA p phase.toNat).1/\WS y.1 y.2.2.1 (FA p phase.toNat).2) (λy=>[(2,.slice N keep.length P),(6,pB Z),(10,.pointer (some ⟨y.2.2.2,0,none⟩)),(35,.agg [y.2.1,y.2.2.1].toArray),(36,.int .i64 0)]) (λy=>y.1) (λy=>[(y.2.2.2,cE [.slice none 0 0,.slice none 0 0] Sa),(Z,cE [.slice none 0 0,.slice none 0 0] Sa),(b3,cE (FW pv j k l p.gen p.root p.next (.slice da p.dead.length o)) QJ)]) 2 #[true,true,true,true,true,true,true,true,true,false,false] ?_ (λaa=>?_)
 ·rintro ⟨Mr,K,D,L⟩ ⟨B,h,g⟩
  try dsimp only at B h g⊢
  obtain⟨xa,xc,ac,rfl,_⟩:=id h
  obtain⟨ya,yc,ab,rfl,_⟩:=id g
  refine aO 9 ?_
  refine My rfl rfl (Ae rfl rfl rfl rfl rfl rfl rfl rfl) ?_;rintro _ _ _ ⟨rfl,rfl⟩
  refine aG (B) ?_
  refine gk [10] ?_
  refine D3 (by kernel_rfl) ?_
  refine gt ?_
  refine gc (Fp (FA p phase.toNat).1 (FA p phase.toNat).2 _ _ Mr h g (Hz s F _) keep N P (Q.mono (c.trans (a.trans B))) R) ?_;rintro _ Mc ae T
  obtain⟨va,vn,vc,wa,wn,wc,e,rfl,b⟩:=CrP.form T
  refine gr ?_
  refine⟨?_,rfl⟩
  unfold Ud;rw[if_pos m,if_neg (by omega)]
  by_cases hl:keep.length=(FA p phase.toNat).2.length
  ·rw [if_pos hl]at b ⊢;obtain⟨rfl,S⟩:=b;exact⟨_,rfl,S⟩
  rw[if_neg hl]at b ⊢;obtain⟨rfl,S⟩:=b;show Value.tuple #[.agg #[.slice va vn vc,.slice wa wn wc],.int .i64 2]=_;rw[S]
 refine AR [4,8] (by kernel_rfl) rfl ⟨?_,?_,trivial⟩
 ·refine sh rfl (hC (Fv p s F hg pv j k l da o M2 (G.mono a) z (f.mono a) (I.mono a) (H.mono a) phase.toNat (by omega) 3 O E J r)) ?_;rintro _ M4 _ ⟨n,R4,rfl,⟨d,rfl,K,D,rfl,h,g⟩,rfl⟩
  refine aG (n) ?_
  simp only[nil_append]
  refine gk [5,6,7] ?_
  refine aO 8 ?_
  refine sh rfl (AM rfl rfl) ?_;rintro _ _ _ ⟨L,rfl,rfl,rfl⟩
  refine aG (n) ?_
  refine Cr (listed':=#[true,true,true,true,true,true,true,true,true,false,false]) (by kernel_rfl) (Cq (Keep.cons (t:=2) rfl (Keep.cons (t:=6) rfl (Keep.cons (t:=10) rfl (Keep.cons (t:=35) rfl (Keep.cons (t:=36) rfl Keep.nil))))) ?_)
  simp_all
 refine sh rfl (AM rfl rfl) ?_;rintro _ _ _ ⟨L,rfl,rfl,rfl⟩
 refine aG (MLe.refl _) ?_
 refine aO 4 ?_
 refine sh rfl (hC (Fv p s F hg pv j k l da o M2 (G.mono a) z (f.mono a) (I.mono a) (H.mono a) phase.toNat (by omega) 3 O E J r)) ?_;rintro _ M4 _ ⟨n,R4,rfl,⟨d,rfl,K,D,rfl,h,g⟩,rfl⟩
 refine aG (n) ?_
 simp only[nil_append]
 refine gk [5,6,7] ?_
 refine Cr (listed':=#[true,true,true,true,true,true,true,true,true,false,false]) (by kernel_rfl) (Cq (Keep.cons (t:=2) rfl (Keep.cons (t:=6) rfl (Keep.cons (t:=10) rfl (Keep.cons (t:=35) rfl (Keep.cons (t:=36) rfl Keep.nil))))) ?_)
 simp_all
theorem FP(p:Po)(v:Value)(M:Mem)(h:PT M v p)(g:PoN p):SpecL prog 8 #[v] M [] λu M' c=>ComP p u M'/\c=[]:=by
 obtain⟨pv,d,e,f,m,rfl,l,k,j,i,da,n,rfl,b,a⟩:=h
 grind[TR,pv,da]
theorem TN(p:Po)(v:Value)(M:Mem)(h:PT M v p)(l:PoN p)(phase:Int)(keep:List Bool)(a:Option Addr)(b:Nat)(c:SM M a (Bo keep))(d:keep.length<=1000000):SpecL prog 15 #[v,.int .i64 phase,.slice a keep.length b] M [] λu M' g=>Ud p phase keep u M'/\g=[]:=by
 obtain⟨pv,i,j,k,s,rfl,r,o,n,m,da,t,rfl,f,e⟩:=h
 grind[wDv,pv,da]
set_option maxRecDepth 8000
structure Eqv(s t:Sto):Prop where
 now:s.now=t.now
 nd:∀k,Ai s k=Ai t k
section
variable{s t:Sto}
theorem Eqv.one(h:Eqv s t):∀(l:Nat),AL s l=AL t l
 |0=>by funext x;simp only[AL,h.now]
 |l+1=>by funext x;simp only[AL,h.nd,h.one l]
theorem Eqv.rd(h:Eqv s t)(lv:Int)(xs:List It):BR s lv xs=BR t lv xs:=by unfold BR;rw[h.one]
theorem Eqv.lrn(h:Eqv s t)(k a:Int):lrn s k a=Go.Proofs.YtdahhoicackcaaaGreat.lrn t k a:=by unfold Go.Proofs.YtdahhoicackcaaaGreat.lrn;rw[h.nd]
theorem Eqv.rt(h:Eqv s t)(k:Int):DQ s k=DQ t k:=by
 unfold DQ;rw[h.lrn]
 split
 ·rfl
 exact congrArg Sp.is (h.rd _ _)
theorem Eqv.kid(h:Eqv s t):kid s=Go.Proofs.YtdahhoicackcaaaGreat.kid t:=by funext x;unfold Go.Proofs.YtdahhoicackcaaaGreat.kid;rw[h.nd]
theorem Eqv.vols(h:Eqv s t)(next:Int):∀l,Ct s next l=Ct t next l
 |0=>rfl
 |l+1=>by funext xs;simp only[Ct,h.vols next l,h.kid]
theorem Eqv.tree(h:Eqv s t):∀(f:Nat)(st refs nodes:List Int),BJ s f st refs nodes=BJ t f st refs nodes
 |0,_,_,_=>rfl
 |f+1,st,refs,nodes=>by simp only[BJ,h.nd,h.tree f]
theorem Eqv.trees(h:Eqv s t):∀(rs refs nodes:List Int),B3 s rs refs nodes=B3 t rs refs nodes
 |[],_,_=>rfl
 |r::rs,refs,nodes=>by simp only[B3,h.rt,h.tree,h.trees rs]
theorem Eqv.cens(h:Eqv s t)(hs:Aq s)(b:Aq t)(a next:Int)(dead:List Int):cens s a next dead=Go.Proofs.YtdahhoicackcaaaGreat.cens t a next dead:=by
 have c:∀r,enough s r=enough t r:=λr=>by unfold enough;rw[h.now]
 unfold Go.Proofs.YtdahhoicackcaaaGreat.cens
 simp only[h.rt,h.lrn,h.vols,h.trees,c,hs,b]
end
theorem ZO(bs:List (List By))(ws:List Wt)(n l:List By)(k:Nat)(w:Wt):seen ⟨bs,ws++[w],n,l⟩ k=if w.1=(k:Int)then w.2 else seen ⟨bs,ws,n,l⟩ k:=by
 grind[seen]
theorem KS(bs:List (List By))(ws:List Wt)(w:Wt):AW bs (ws++[w])=(AW bs ws).set w.1.toNat w.2:=by grind[AW]
variable{α:Type}
theorem K7{p:List α->Prop}(c:p [])(b:∀xs x,p xs->p (xs++[x]))(xs:List α):p xs:=by
 have:∀ys:List α,p ys.reverse:=λys=>by
  induction ys with
  |nil=>exact c
  |cons y ys a=>rw[List.reverse_cons];exact b _ _ a
 have:=this xs.reverse
 grind
theorem ZL(bs:List (List By))(n l:List By)(k:Nat)(hk:k<bs.length)(ws:List Wt):(∀w∈ws,0<=w.1)->(AW bs ws).getD k []=seen ⟨bs,ws,n,l⟩ k:=by
 refine K7 (p:=λws=>(∀w∈ws,0<=w.1)->(AW bs ws).getD k []=seen ⟨bs,ws,n,l⟩ k) (λ_=>by unfold seen AW;rfl) (λws w a h=>?_) ws
 rw[KS,ZO]
 have c:=h w (by simp)
 have a:=a λv b=>h v (by simp[b])
 grind[F1]
theorem Ss(bs:List (List By))(k:Nat)(hk:8<=k)(ws:List Wt):(∀w∈ws,0<=w.1/\w.1<8)->(AW bs ws).getD k []=bs.getD k []:=by
 refine K7 (p:=λws=>(∀w∈ws,0<=w.1/\w.1<8)->(AW bs ws).getD k []=bs.getD k []) (λ_=>rfl) (λws w a h=>?_) ws
 have c:=h w (by simp)
 rw[KS,<-a λv b=>h v (by simp[b])];simp[getD,List.getElem?_set_ne (show w.1.toNat≠k by omega)]
variable{k:Nat}
theorem Xp{p:Po}(h:PoOk p)(c:PoN p)(hk:8<=k)(b:k<256):(AW (FA p 3).1 (FA p 3).2).getD k []=seen p.st k:=by
 have d:=KE h c 2
 have e:=KE h c 1
 show (AW (AW (AW p.st.blocks p.st.waits) (Bx p 1)) (Bx p 2)).getD k []=_
 rw[Ss _ k hk _ λw a=>⟨(d.2 w a).1,(d.2 w a).2.1⟩,Ss _ k hk _ λw a=>⟨(e.2 w a).1,(e.2 w a).2.1⟩]
 exact ZL p.st.blocks p.st.now p.st.last k (by rw[h.st.1.1];exact b) p.st.waits λw a=>(h.st.1.w w a).1
variable{xs:List By}
theorem Q3(h:DR xs)(hk:k<8\/256<=k):xs.getD k 0=0:=by
 rcases hk with hk|hk
 ·have a:=List.all_eq_true.1 h.2 (xs.getD k 0) (by rw[Dy (by rw[h.1];omega)];exact List.mem_iff_getElem.2 ⟨k,by rw[List.length_take,h.1];omega,by rw[List.getElem_take]⟩)
  simpa using a
 simp[getD,List.getElem?_eq_none (show xs.length<=k by rw[h.1];exact hk)]
variable{s:Sto}
theorem Q5(h:DR s.now)(hk:k<8\/256<=k):Ai s k=none:=by grind[Ai,Q3]
theorem RH{p:Po}(h:PoOk p)(b:PoN p):Eqv (Bn p).st p.st:=⟨rfl,λk=>by
 by_cases a:k<8\/256<=k
 ·rw [Q5 h.st.2.1 a,Q5 (s:=(Bn p).st) h.st.2.1 a]
 unfold Ai
 show (if p.st.now.getD k 0=0 then none else C1 (seen (Bn p).st k))=_
 rw[show seen (Bn p).st k=seen p.st k from Xp h b (by omega) (by omega)]⟩
theorem Pu{p:Po}(h:PoOk p)(a:PoN p):Aq (Bn p).st:=⟨Ka (Hz h a 3) λw b=>((Hz h a 3).w w b).2.2,h.st.2.1,h.st.2.1⟩
theorem wKi{p:Po}(h:EX p=0)(b:PoN p):Ax (Bn p)=0:=by
 have a:=(Ea h).1
 have d:Ax p=0:=by
  grind[SP,EX]
 obtain⟨x,c⟩:=poChk_is.1 d
 refine poChk_is.2 ⟨x,?_⟩
 rw[<-c];exact(RH a b).cens (Pu a b) a.st _ _ _
def po0:Po:=⟨mkS st0 0 [],0,8,1,[]⟩
theorem Q0:EX po0=0:=by decide +kernel
set_option maxRecDepth 8000
set_option maxRecDepth 8000
structure Sl where
 a:Option Addr
 n:Nat
 c:Nat
abbrev Sl.v(s:Sl):Value:=.slice s.a s.n s.c
structure V5 where
 b:Sl
 w:Sl
 n:Sl
 l:Sl
 d:Sl
abbrev AO(x:V5)(g r n:Int):List Value:=FW x.b.v x.w.v x.n.v x.l.v g r n x.d.v
structure PT5(M:Mem)(x:V5)(p:Po):Prop where
 b:LS M x.b.v p.st.blocks
 w:WS M x.w.v p.st.waits
 n:BS M x.n.v p.st.now
 l:BS M x.l.v p.st.last
 d:NI M x.d.v p.dead
variable{M M':Mem}
theorem PT5.mono{x:V5}{p:Po}(h:PT5 M x p)(a:MLe M M'):PT5 M' x p:=⟨h.b.mono a,h.w.mono a,h.n.mono a,h.l.mono a,h.d.mono a⟩
variable{s:Sl}
theorem LS.len{bs:List (List By)}(h:LS M s.v bs):s.n=bs.length:=by obtain⟨a,c,b,e,_⟩:=h;exact congrArg (λv=>match v with|Value.slice _ n _=>n|_=>0) e
variable{ws:List Wt}
theorem WS.len(h:WS M s.v ws):s.n=ws.length:=by obtain⟨a,c,b,e,_⟩:=h;exact congrArg (λv=>match v with|Value.slice _ n _=>n|_=>0) e
variable{bs:List By}
theorem BS.len(h:BS M s.v bs):s.n=bs.length:=by obtain⟨a,c,e,_⟩:=h;exact congrArg (λv=>match v with|Value.slice _ n _=>n|_=>0) e
theorem NI.len{bs:List Int}(h:NI M s.v bs):s.n=bs.length:=by obtain⟨a,c,e,_⟩:=h;exact congrArg (λv=>match v with|Value.slice _ n _=>n|_=>0) e
theorem BS.sm(h:BS M s.v bs):SM M s.a (Ab bs):=by
 obtain⟨a,c,e,_,h⟩:=h
 grind
theorem NI.sm{bs:List Int}(h:NI M s.v bs):SM M s.a (Al bs):=by
 obtain⟨a,c,e,_,h⟩:=h
 grind
theorem LS.sl{v:Value}{bs:List (List By)}(h:LS M v bs):∃s:Sl,v=s.v:=by obtain⟨a,c,b,e,_⟩:=h;exact⟨⟨a,_,c⟩,e⟩
theorem WS.sl{v:Value}{bs:List Wt}(h:WS M v bs):∃s:Sl,v=s.v:=by obtain⟨a,c,b,e,_⟩:=h;exact⟨⟨a,_,c⟩,e⟩
theorem BS.sl{v:Value}(h:BS M v bs):∃s:Sl,v=s.v:=by obtain⟨a,c,e,_⟩:=h;exact⟨⟨a,_,c⟩,e⟩
theorem NI.sl{v:Value}{bs:List Int}(h:NI M v bs):∃s:Sl,v=s.v:=by obtain⟨a,c,e,_⟩:=h;exact⟨⟨a,_,c⟩,e⟩
theorem PT.five{v:Value}{p:Po}(h:PT M v p):∃x:V5,v=.agg (AO x p.gen p.root p.next).toArray/\PT5 M x p:=by
 obtain⟨pv,l,m,n,o,rfl,k,j,i,g,f⟩:=h
 obtain⟨a,rfl⟩:=k.sl
 obtain⟨b,rfl⟩:=j.sl
 obtain⟨c,rfl⟩:=i.sl
 obtain⟨d,rfl⟩:=g.sl
 obtain⟨e,rfl⟩:=f.sl
 exact⟨⟨a,b,c,d,e⟩,rfl,k,j,i,g,f⟩
theorem PT5.pt{x:V5}{p:Po}(h:PT5 M x p):PT M (.agg (AO x p.gen p.root p.next).toArray) p:=⟨_,_,_,_,_,rfl,h.b,h.w,h.n,h.l,h.d⟩
def Sh:V5:=⟨⟨none,0,0⟩,⟨none,0,0⟩,⟨none,0,0⟩,⟨none,0,0⟩,⟨none,0,0⟩⟩
variable{u:Value}
theorem ComP.form{p:Po}(h:ComP p u M'):∃x g r n e,u=.tuple #[.agg (AO x g r n).toArray,.int .i64 e]/\((e=0/\EX p=0/\PT5 M' x (Bn p)/\g=p.gen+1/\r=p.root/\n=p.next)\/(e=EX p/\EX p≠0/\x=Sh)):=by
 unfold ComP at h
 split at h
 ·rename_i b
  obtain⟨v,rfl,h⟩:=h
  obtain⟨x,rfl,a⟩:=h.five
  exact⟨x,_,_,_,0,rfl,.inl ⟨rfl,b,a,rfl,rfl,rfl⟩⟩
 grind[Sh]
theorem V0(s:Sto)(v sl:Value)(lv:Int)(xs:List It)(M:Mem)(j:ST M v s)(r:NS M sl xs)(t:∀x∈xs,0<=x.key.kind/\x.key.kind<256)(k:Aq s)(o:Cw lv xs=true)(m:wMi s xs)(y:mkAt (Ag s xs)<256)(g:s.waits.length<4096):
  SpecL prog 90 #[v,.agg #[.int .i64 lv,sl]] M [] λu M' z=>(∃v,u=.tuple #[v,.int .i64 (mkAt (Ag s xs)),.int .i64 0]/\ST M' v (mkS s lv xs))/\z=[]:=by
 obtain⟨b,w,n,l,rfl,K,⟨C,B,d,rfl,h,e,f,i⟩,J,I⟩:=j.ex
 obtain⟨a,c,D,rfl,G,E,F,H⟩:=r
 grind[VZ]
theorem wMg:Aq st0:=by decide +kernel
theorem ZJ:mkAt (Ag st0 [])=8:=by decide +kernel
theorem SK(v:Value)(M:Mem)(b:ST M v st0):
  SpecL prog 43 #[v] M [] λu M' i=>(∃v,u=.tuple #[v,.int .i64 8,.int .i64 0]/\ST M' v (mkS st0 0 []))/\i=[]:=by
 obtain⟨J,I,F,E,rfl,D,C,B,z⟩:=id b.ex
 refine sB func43 ntmps43 ?_;intro W
 refine EV λH G=>?_
 refine gc (V0 st0 _ _ 0 [] M b NS.nil (λ_ h=>by cases h) wMg (by decide) (λk h=>by cases h) (by rw[ZJ];decide) (by decide)) ?_;rintro _ K g ⟨j,rfl,a⟩
 rw[ZJ]
 obtain⟨y,t,s,r,rfl,f,e,d,c⟩:=a.ex
 obtain⟨o,rfl⟩:=f.sl
 obtain⟨n,rfl⟩:=e.sl
 obtain⟨m,rfl⟩:=d.sl
 obtain⟨l,rfl⟩:=c.sl
 refine gr ?_
 exact⟨⟨_,rfl,_,_,_,_,rfl,f,e,d,c⟩,rfl⟩
theorem Qt(M:Mem):
  SpecL prog 18 #[] M [] λu M' k=>PT M' u po0/\k=[]:=by
 refine sB func18 ntmps18 ?_;intro W
 refine ga λi=>?_
 refine gc (XZ M) ?_;rintro _ j h a
 obtain⟨E,i,C,B,rfl,_⟩:=id a.ex
 refine gc (SK _ j a) ?_;rintro _ F g ⟨l,rfl,b⟩
 obtain⟨z,y,t,s,rfl,f,e,d,c⟩:=b.ex
 obtain⟨r,rfl⟩:=f.sl
 obtain⟨o,rfl⟩:=e.sl
 obtain⟨n,rfl⟩:=d.sl
 obtain⟨m,rfl⟩:=c.sl
 refine ga λD=>?_
 refine gr ?_
 exact⟨⟨_,_,_,_,_,rfl,f,e,d,c,none,0,rfl,Nat.le_refl _,SM.nil⟩,rfl⟩
set_option maxRecDepth 8000
set_option maxHeartbeats 40000000
def RcP(t:List By)(u:Value)(M':Mem):Prop:=∃(s:Sl)(e:Int),u=.tuple #[s.v,.int .i64 e]/\((e=0/\DR t/\BS M' s.v t)\/(e≠0/\¬DR t))
variable{t:List By}
theorem wEa(h:FO t=0):DR t:=by
 grind[FO]
theorem UU(s:Sto)(n e:Value)(M:Mem)(C:LS M n s.blocks)(B:WS M e s.waits)(c:dkOk s.blocks s.waits)(a:Int)(hs:a=0\/a=1)(k:Nat)(hk:(k:Int)=4+2*a)(t:List By)(ht:seen s k++seen s (k+1)=t)(Q:t.length=256):
  SpecL prog 88 #[.agg #[n,e],.int .i64 a] M [] λu M' Z=>RcP t u M'/\Z=[]:=by
 refine sB func88 ntmps88 ?_;intro W
 refine ga λb2=>?_
 refine gQ (by have h:=NH s.blocks s.waits n e M C B c a hs;rw[<-hk]at h;exact h) ?_
 refine gt ?_
 refine gc (GN s k n e M C B c (by omega)) ?_;rintro _ Y m ⟨v1,rfl,g⟩
 obtain⟨P,N,rfl,H,F⟩:=id g
 refine gc (by have h:=GN s (k+1) n e Y (C.mono m) (B.mono m) c (by omega);rw[show ((k+1:Nat):Int)=(k:Int)+1 from by omega]at h;exact h) ?_;rintro _ M2 z ⟨v2,rfl,f⟩
 obtain⟨O,L,rfl,G,E⟩:=id f
 refine gh ?_
 refine lh (Aa (cs:=[_,_]) rfl rfl rfl (by rfl) (by rfl) (by rfl)) ?_;rintro _ _ _ ⟨D,rfl,rfl,rfl⟩
 refine Cx D (by simp) ?_
 intro X l V
 have o:=LS.two V ((g.mono z).mono l) (f.mono l)
 have i:[seen s k,seen s (k+1)].flatten=t:=by grind
 refine gC (DL _ _ X o (by simp) (by rw[i];omega)) ?_;rintro _ M5 R5 T b
 rw[i]at b
 refine EM b (by simp) ?_
 intro K J I S U y r;cases U
 have j:BS K (.slice J t.length I) t:=⟨J,I,rfl,y,r⟩
 refine gQ (DN t _ K j) ?_
 refine gj (λd=>?_) λd=>?_
 ·refine gr ?_
  exact⟨⟨⟨none,0,0⟩,_,rfl,.inr ⟨d,λR=>d (if_pos R)⟩⟩,rfl⟩
 refine gr ?_
 exact⟨⟨⟨_,_,_⟩,0,rfl,.inl ⟨rfl,wEa (by omega),j⟩⟩,rfl⟩
set_option maxRecDepth 8000
set_option maxHeartbeats 40000000
def Cv(s:Sto)(g:Int):List By:=seen s (4+2*(g%2)).toNat++seen s ((4+2*(g%2)).toNat+1)
def CP(s:Sto)(x:Su):Po:=⟨⟨s.blocks,s.waits,Cv s x.gen,Cv s x.gen⟩,x.gen,x.root,x.next,x.dead⟩
structure TryOk(s:Sto)(x:Su):Prop where
 ct:DR (Cv s x.gen)
 sum:FZ (Cv s x.gen)=x.table
 chk:Ax (CP s x)=0
def TryP(s:Sto)(x:Su)(u:Value)(M':Mem):Prop:=∃(y:V5)(g r n:Int)(b:Bool),u=.tuple #[.agg (AO y g r n).toArray,.bool b]/\((b=true/\TryOk s x/\PT5 M' y (CP s x)/\g=x.gen/\r=x.root/\n=x.next)\/(b=false/\¬TryOk s x))
variable{s:Sto}
theorem Wo(h:dkOk s.blocks s.waits)(g:Int):(Cv s g).length=256:=by
 grind[Cv,ZN]
theorem Zz(s:Sto)(x:Su)(M:Mem)(b w d:Sl)(K:LS M b.v s.blocks)(J:WS M w.v s.waits)(P:NI M d.v x.dead)(j:dkOk s.blocks s.waits)(Z:0<=x.gen/\x.gen<4294967296)(E:x.dead.length<=1000000):
  SpecL prog 40 #[.agg #[b.v,w.v],.agg (Uu x d.v).toArray] M [] λu M' Y=>TryP s x u M'/\Y=[]:=by
 refine sB func40 ntmps40 ?_;intro W
 refine Rl λX V U=>?_
 refine lq (B7 rfl rfl rfl (by omega)) ?_
 refine lq (Bc (F5 rfl rfl rfl rfl rfl) (v':=.int .i64 (x.gen%2)) (by rw[wFc (by omega)])) ?_
 refine gc (UU s b.v w.v M K J j (x.gen%2) (by omega) (4+2*(x.gen%2)).toNat (by omega) (Cv s x.gen) rfl (Wo j _)) ?_;rintro _ L H ⟨t,e,rfl,o⟩
 refine gj (λC=>?_) λC=>?_
 ·refine gr ?_
  exact⟨⟨Sh,0,0,0,false,rfl,.inr ⟨rfl,λn=>by obtain⟨Q,_⟩|⟨_,m⟩:=o;exact C Q;exact m n.ct⟩⟩,rfl⟩
 refine gh ?_
 obtain⟨_,y,k⟩|⟨O,_⟩:=o
 rotate_left
 ·omega
 refine gQ (QB (Cv s x.gen) t.v L k y) ?_
 refine gt ?_
 refine gj (λl=>?_) λl=>?_
 ·refine gr ?_
  exact⟨⟨Sh,0,0,0,false,rfl,.inr ⟨rfl,λn=>l n.sum⟩⟩,rfl⟩
 refine gh ?_
 refine LL [0,1,2,5,6,7,8,9,10,11,12,103,4,13,114] [(V,cE (Uu x d.v) 94),(X,cE [b.v,w.v] 29)] ?_
 refine gh ?_
 have N:=Wo j x.gen
 refine dh rfl (hC (Bv t.v (Cv s x.gen) L k (by omega))) ?_;rintro _ M3 _ ⟨g,R3,rfl,i⟩
 refine⟨g,by simp,?_⟩
 obtain⟨c,a,rfl⟩:=i.form
 refine dq rfl (Bk (cs:=[_,_,_,_]) rfl rfl rfl (by rfl)) ?_
 refine dq rfl (Bk (cs:=[_,_,_,_,_,_,_,_]) rfl rfl rfl (by rfl)) ?_
 refine Df rfl rfl (Ae rfl rfl rfl rfl rfl rfl rfl rfl) ?_;rintro _ _ _ ⟨rfl,rfl⟩
 refine⟨_,_,MLe.refl _,(by first|exact g|exact f),λ_ h=>h,by simp,?_⟩
 refine gh ?_
 refine JF i (by simp) ?_
 intro D T S B R G F;cases R
 have I:=H.trans (g.trans B)
 have z:BS D (.slice c (Cv s x.gen).length a) (Cv s x.gen):=⟨c,a,rfl,G,F⟩
 have r:PT5 D ⟨b,w,t,⟨c,(Cv s x.gen).length,a⟩,d⟩ (CP s x):=⟨K.mono I,J.mono I,k.mono (g.trans B),z,P.mono I⟩
 refine Hr [4] [3,4,5] [0,1,102,3,104,5] D ([(U,cE (FW b.v w.v t.v (.slice c (Cv s x.gen).length a) x.gen x.root x.next d.v) 36)]) ([]) ?_
 refine gh ?_
 refine dh rfl (hC (Fn (CP s x) _ D r.pt E)) ?_;rintro _ M4 _ ⟨f,_,rfl,⟨rfl,rfl⟩⟩
 refine⟨f,by simp,?_⟩
 simp only[nil_append]
 refine dp rfl rfl ?_
 refine Ed rfl rfl (Ae rfl rfl rfl rfl rfl rfl rfl rfl) ?_;rintro _ _ _ ⟨rfl,rfl⟩
 refine⟨f,by simp,?_⟩
 refine gr ?_
 refine⟨⟨⟨b,w,t,⟨c,(Cv s x.gen).length,a⟩,d⟩,x.gen,x.root,x.next,_,rfl,?_⟩,rfl⟩
 by_cases m:Ax (CP s x)=0
 ·exact .inl ⟨decide_eq_true m,⟨y,Classical.not_not.1 l,m⟩,r.mono f,rfl,rfl,rfl⟩
 exact .inr ⟨decide_eq_false m,λn=>m n.chk⟩
theorem VK(p:Po)(v:Value)(M:Mem)(h:PT M v p)(a:Aq p.st)(b:p.dead.length<=1000000):SpecL prog 24 #[v] M [] λu M' c=>PT M' u p/\c=[]:=by
 obtain⟨pv,d,e,f,n,rfl,m,l,k,j,da,o,rfl,i,g⟩:=h
 grind[Pm,pv,da]
def Zg(s:Sto)(u:Value)(M':Mem):Prop:=∃(y:V5)(g r n e:Int),u=.tuple #[.agg (AO y g r n).toArray,.int .i64 e]/\
 ((e≠0/\y=Sh/\(dkOk s.blocks s.waits->e=40/\∀x∈BD s 4,¬TryOk s x))\/
 (e=0/\dkOk s.blocks s.waits/\∃x,x∈BD s 4/\TryOk s x/\(∀z∈BD s 4,x.gen<z.gen->¬TryOk s z)/\PT5 M' y (CP s x)/\g=x.gen/\r=x.root/\n=x.next))
theorem TryOk.st{x:Su}(h:TryOk s x):Aq (CP s x).st:=(PoOk.of h.chk).st
theorem Yr(s:Sto)(M:Mem)(b w:Sl)(e:LS M b.v s.blocks)(d:WS M w.v s.waits)(a:¬dkOk s.blocks s.waits):
  SpecL prog 16 #[.agg #[b.v,w.v]] M [] λu M' f=>Zg s u M'/\f=[]:=by
 refine sB func16 ntmps16 ?_;intro W
 refine EV λi g=>?_
 refine gc (X0 s.blocks s.waits b.v w.v M e d a) ?_;rintro _ j c rfl
 refine gu ?_
 exact⟨⟨Sh,0,0,0,8,rfl,.inl ⟨by decide,rfl,λh=>absurd h a⟩⟩,rfl⟩
theorem Vb(s:Sto)(M:Mem)(b w:Sl)(h1:LS M b.v s.blocks)(h2:WS M w.v s.waits)(r:dkOk s.blocks s.waits):
  SpecL prog 16 #[.agg #[b.v,w.v]] M [] λu M' L'=>Zg s u M'/\L'=[]:=by
 refine sB func16 ntmps16 ?_;intro W
 refine EV λb1 b2=>?_
 refine gc (UR s b.v w.v M h1 h2 r) ?_;rintro _ M1 I T
 obtain⟨v,e,rfl,G⟩:=T
 refine gj (λY=>?_) λY=>?_
 ·refine gr ?_
  obtain⟨rfl,hf,_⟩|⟨h0,_⟩:=G
  ·exact ⟨⟨Sh,0,0,0,40,rfl,.inl ⟨by decide,rfl,λ_=>⟨rfl,λx B=>by rw[hf]at B;cases B⟩⟩⟩,rfl⟩
  omega
 refine gh ?_
 obtain⟨rfl,_⟩|⟨_,c,a,H,O,D⟩:=G
 ·omega
 have ab:c.length<=4:=by rw[<-List.length_map (f:=(·.1)),a.length_eq];exact Kx _ 4
 obtain⟨ra,rc,rfl,N⟩:=O
 refine gh ?_
 refine Cz (α:=Nat×Mem) (λy=>[(1,pB b1),(2,pB b2),(19,.slice ra c.length rc),(20,.int .i64 c.length),(21,.int .i64 (y.1:Int))]) (λy=>y.2) (λ_=>[(b2,.cells poZ.toArray 36 (0,0)),(b1,cE [b.v,w.v] 29)]) (λy=>y.1<=c.length/\MLe M1 y.2/\∀j (o:j<c.length),j<y.1->¬TryOk s c[j].1) (λy=>c.length-y.1) (0,M1) ⟨Nat.zero_le _,MLe.refl _,λj _ h=>absurd h (Nat.not_lt_zero _)⟩ ?_
 rintro⟨k,Mk⟩ ⟨hk,d,n⟩
 try dsimp only at hk d n⊢
 refine gj (λX=>?_) λX=>?_
 ·refine gh ?_
  have l:k<c.length:=by omega
  obtain⟨Z,J⟩:=(D c[k] (getElem_mem l)).sl
  obtain⟨rb,ro,e0,B⟩:=N.open (by intro e;have:=congrArg List.length e;rw[Aj Bm 5 Ez,List.length_nil]at this;omega)
  subst e0
  refine gh ?_
  refine lq (Bb (cs:=Uu c[k].1 Z.v) rfl rfl rfl rfl rfl (λi v hv=>((Cs Bm 5 Ez B (List.getElem?_eq_getElem l) i v (by rw[<-J]at hv;exact hv)).mono d).cj _)) ?_
  refine ga λb7=>?_
  have E:c[k].1∈BD s 4:=a.mem_iff.1 (List.mem_map_of_mem (getElem_mem l))
  have m:=wDg E
  refine gc (by have ht:=Zz s c[k].1 Mk b w Z (h1.mono (I.trans d)) (h2.mono (I.trans d)) (by rw[<-J];exact(D c[k] (getElem_mem l)).mono d) r m.1 (by have:=m.2.2.2.2.2;omega);exact ht) ?_;rintro _ M2 U L
  obtain⟨z,tg,tr,tn,tb,rfl,C⟩:=L
  iterate 2 refine jp rfl ?_
  refine Zi rfl (λV=>?_) (λV=>?_)
  ·refine ga λb8=>?_
   obtain⟨_,g,K,rfl,rfl,rfl⟩|⟨hb,_⟩:=C
   rotate_left
   ·grind
   refine gc (VK (CP s c[k].1) _ M2 K.pt g.st (by have:=m.2.2.2.2.2;show c[k].1.dead.length<=1000000;omega)) ?_;rintro _ M3 ad Q
   obtain⟨q,rfl,P⟩:=Q.five
   refine gr ?_
   refine⟨⟨q,_,_,_,0,rfl,.inr ⟨rfl,r,c[k].1,E,g,λz K aa=>?_,P,rfl,rfl,rfl⟩⟩,rfl⟩
   obtain⟨p,R,rfl⟩:=List.mem_map.1 (a.mem_iff.2 K)
   obtain⟨j,o,rfl⟩:=List.mem_iff_getElem.1 R
   by_cases S:j<k
   ·grind
   by_cases ac:j=k
   ·grind
   have:=H k j (by omega) o o;omega
  refine ga λb8=>?_
  obtain⟨hb,_⟩|⟨_,g⟩:=C
  ·grind
  refine H1 (k+1,M2) (Keep.cons (t:=1) rfl (Keep.cons (t:=2) rfl (Keep.cons (t:=19) rfl (Keep.cons (t:=20) rfl (Keep.cons (t:=21) rfl Keep.nil))))) ⟨by show k+1<=_;omega,d.trans U,λj o S=>by
   by_cases F:j=k
   ·subst F;exact g
   exact n j o (by omega)⟩ (by show c.length-(k+1)<c.length-k;omega) (λw h=>h.fewer (.cons _ (.cons _ (.refl _))))
 refine gr ?_
 exact⟨⟨Sh,0,0,0,40,rfl,.inl ⟨by decide,rfl,λ_=>⟨rfl,λx B=>by
  obtain⟨p,R,rfl⟩:=List.mem_map.1 (a.mem_iff.2 B)
  obtain⟨j,o,rfl⟩:=List.mem_iff_getElem.1 R
  exact n j o (by omega)⟩⟩⟩,rfl⟩
theorem Jv(s:Sto)(M:Mem)(v:Value)(h:DK M v s.blocks s.waits):SpecL prog 16 #[v] M [] λu M' d=>Zg s u M'/\d=[]:=by
 obtain⟨f,e,rfl,c,a⟩:=h
 obtain⟨b,rfl⟩:=c.sl
 obtain⟨w,rfl⟩:=a.sl
 grind[dkOk,Vb,Yr]
end Go.Proofs.YtdahhoicackcaaaGreat
