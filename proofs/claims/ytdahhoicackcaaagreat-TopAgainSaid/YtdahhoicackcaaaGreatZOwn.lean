/- Walks: a bench that is written: blocks shared, nodes made. -/
import Derived.Test.YtdahhoicackcaaaGreatZHn
import Derived.Test.YtdahhoicackcaaaGreatZSp
namespace Go.Proofs.YtdahhoicackcaaaGreat
open Go.Proofs.Tryz
open List (length_append length length_map length_nil take_length replicate nil_append getElem_mem)
set_option linter.unusedSimpArgs false
set_option linter.unusedVariables false
set_option linter.unusedSectionVars false
open Go.RowKit
set_option maxRecDepth 8000
set_option maxHeartbeats 40000000
def bU(x:Int):By:=UInt8.ofNat (x%256).toNat
theorem G7(x:Int):IntKind.u8.wrap x=((bU x).toNat:Int):=by
 rw[IntKind.wrap_u8]
 unfold bU
 have:(x%256).toNat<256:=by omega
 rw[UInt8.toNat_ofNat_of_lt' (by simpa using this)]
 omega
def A6(n:Int):List By:=[bU n,bU (G2 .u32 n 8),bU (G2 .u32 n 16),bU (G2 .u32 n 24)]
def Cy(n:Int):List By:=[bU n,bU (G2 .i64 n 8)]
theorem AJ(n:Int)(M:Mem):
  SpecL prog 159 #[.int .u32 n] M [] λu d e=>BS d u (A6 n)/\e=[]:=by
 refine sB func159 ntmps159 ?_;intro W
 refine gh ?_
 refine lq (Bc (CV rfl rfl rfl) (by rw[G7])) ?_
 refine gh ?_
 refine lq (Gy rfl rfl rfl rfl (by omega) rfl) ?_
 refine lq (Bc (CV rfl rfl rfl) (by rw[G7])) ?_
 refine gh ?_
 refine lq (Gy rfl rfl rfl rfl (by omega) rfl) ?_
 refine lq (Bc (CV rfl rfl rfl) (by rw[G7])) ?_
 refine gh ?_
 refine lq (Gy rfl rfl rfl rfl (by omega) rfl) ?_
 refine lq (Bc (CV rfl rfl rfl) (by rw[G7])) ?_
 refine lh (Aa (cs:=[_,_,_,_]) rfl rfl rfl (by rfl) (by rfl) (by rfl)) ?_;rintro _ _ _ ⟨a,rfl,rfl,rfl⟩
 refine gh ?_
 refine AP a (by simp) ?_
 intro f b c
 refine gr ?_
 exact⟨⟨some ⟨a,0,none⟩,4,rfl,Nat.le_refl _,SM.of_block (l:=Ab (A6 n)) c⟩,rfl⟩
theorem J0(n:Int)(M:Mem)(h:0<=n/\n<65536):
  SpecL prog 158 #[.int .i64 n] M [] λu f g=>(∃s,u=.tuple #[s,.int .i64 0]/\BS f s (Cy n))/\g=[]:=by
 have b:G2 .i64 n 16=0:=by unfold G2;rw[show (2:Int) ^ (min 16 IntKind.i64.bits)=65536 by decide,Int.fdiv_eq_ediv_of_nonneg _ (by decide)];omega
 refine sB func158 ntmps158 ?_;intro W
 refine gh ?_
 refine lq (Gy rfl rfl rfl rfl (by omega) rfl) ?_
 refine jf rfl (decide_eq_false (by first|omega|exact λe=>e b)) ?_
 refine gh ?_
 refine lq (Bc (CV rfl rfl rfl) (by rw[G7])) ?_
 refine gh ?_
 refine lq (Gy rfl rfl rfl rfl (by omega) rfl) ?_
 refine lq (Bc (CV rfl rfl rfl) (by rw[G7])) ?_
 refine lh (Aa (cs:=[_,_]) rfl rfl rfl (by rfl) (by rfl) (by rfl)) ?_;rintro _ _ _ ⟨a,rfl,rfl,rfl⟩
 refine gh ?_
 refine AP a (by simp) ?_
 intro i c d
 refine gr ?_
 exact⟨⟨_,rfl,some ⟨a,0,none⟩,2,rfl,Nat.le_refl _,SM.of_block (l:=Ab (Cy n)) d⟩,rfl⟩
theorem wCp(M:Mem):
  SpecL prog 201 #[.slice none 0 0,.int .i64 0] M [] λu b a=>Own u a 5 1 0 []:=by
 refine sB func201 ntmps201 ?_;intro W
 refine gt ?_
 refine lq (QZ rfl rfl rfl) ?_
 refine gu ?_
 grind[Own.nil]
theorem YI(n:Nat)(M:Mem)(h:0<n)(f:n<=1000000000):
  SpecL prog 201 #[.slice none 0 0,.int .i64 n] M [] λu j i=>Own u i 5 1 0 []:=by
 refine sB func201 ntmps201 ?_;intro W
 refine gt ?_
 refine lq (QZ rfl rfl rfl) ?_
 refine gt ?_
 refine lq (QZ rfl rfl rfl) ?_
 refine lq (Bc (C6 rfl rfl rfl (.no _) (.of (v:=0) rfl (by omega) rfl) (.no _) (by omega) (by simp)) (v':=.slice none 0 0) (by rw[AZ])) ?_
 refine gh ?_
 refine lh (wCj (n:=n) rfl rfl rfl (by simp[show (n:Int)-(0-0)=n by omega];rfl) h f (by omega)) ?_;rintro _ _ _ ⟨rfl,b,a,e,rfl,rfl,g,d,c⟩
 refine gh ?_
 refine lq (Bc (C6 rfl rfl rfl (.no _) (.of (v:=0) rfl (by omega) rfl) (.no _) (by omega) (by simp)) (v':=.slice (some ⟨b,0,none⟩) 0 a) (by rw[AZ];rfl)) ?_
 refine jp rfl ?_
 refine Am (jT (Ao (Ah ?_)))
 iterate 2 refine jp rfl ?_
 refine Am (jT (Bs ?_))
 refine Gd rfl rfl ?_
 exact⟨rfl,.inr ⟨b,a,e,rfl,rfl,Nat.zero_le _,d,by rw[c,Nat.mul_one],by simp⟩⟩
theorem YH(n:Nat)(M:Mem)(b:n<=1000000000):SpecL prog 201 #[.slice none 0 0,.int .i64 n] M [] λu _ a=>Own u a 5 1 0 []:=by
 grind[wCp,YI]
variable{bs:List (List By)}{k:Nat}
theorem Gk(h:k<bs.length):(bs.take (k+1)).flatten=(bs.take k).flatten++bs[k]:=by
 rw[List.take_succ_eq_append_getElem h,List.flatten_append];simp
theorem MQ(k:Nat):(bs.take k).flatten.length<=bs.flatten.length:=by
 conv=>rhs;rw[<-List.take_append_drop k bs,List.flatten_append,length_append]
 omega
theorem TQ(bs:List (List By))(a:Option Addr)(c:Nat)(ps:List (List By×Value))(M:Mem)(T:bs.length<=c)(hs:SM M a (ps.map (·.2)))(hp:ps.map (·.1)=bs)(D:∀p∈ps,BS M p.2 p.1)(S:bs.length<=1000)(Q:bs.flatten.length<=1000000):
  SpecL prog 151 #[.slice a bs.length c] M [] λu U O=>Own u O 5 1 bs.flatten.length (Ab bs.flatten):=by
 refine sB func151 ntmps151 ?_;intro W
 refine gh ?_
 refine Cz (α:=Nat) (λk=>[(0,.slice a bs.length c),(3,.int .i64 ((bs.take k).flatten.length:Int)),(9,.slice a bs.length c),(10,.int .i64 bs.length),(11,.int .i64 k)]) (λ_=>M) (λ_=>[]) (λk=>k<=bs.length) (λk=>bs.length-k) 0 (Nat.zero_le _) ?_
 rintro k hk
 try dsimp only at hk⊢
 have r:=MQ (bs:=bs) k
 refine gj (λB=>?_) λB=>?_
 ·refine gh ?_
  have b:k<bs.length:=by omega
  obtain⟨H,G,C,m⟩:=hs.open (by intro e;have:=congrArg length e;rw[length_map,length_nil]at this;have z:=congrArg length hp;rw[length_map]at z;omega)
  subst C
  obtain⟨F,E,i,n,j⟩:=Cn m hp D b
  have d:=congrArg length (Gk b)
  rw[length_append]at d
  have o:=MQ (bs:=bs) (k+1)
  refine gh ?_
  refine lq (AE rfl rfl rfl rfl (i.cj _)) ?_
  refine gt ?_
  refine Bw (k+1) (by show k+1<=bs.length;omega) (hk:=(Keep.cons (t:=0) rfl (Keep.ceq (t:=3) rfl (by rw[d];rfl) (Keep.cons (t:=9) rfl (Keep.cons (t:=10) rfl (Keep.cons (t:=11) rfl Keep.nil))))))
 refine gh ?_
 obtain rfl:k=bs.length:=by omega
 rw[take_length]
 refine gC (YH bs.flatten.length M (by omega)) ?_;rintro _ N K l g
 refine gh ?_
 refine Cz (α:=Nat×Lc×Value) (λx=>[(6,x.2.2),(25,.slice a bs.length c),(26,.int .i64 bs.length),(27,.int .i64 x.1)]) (λ_=>N) (λx=>x.2.1) (λx=>x.1<=bs.length/\Own x.2.2 x.2.1 5 1 (bs.take x.1).flatten.length (Ab (bs.take x.1).flatten)) (λx=>bs.length-x.1) (0,K,_) ⟨Nat.zero_le _,by simpa [Ab]using g⟩ ?_
 rintro⟨k,R,s⟩ ⟨hk,f⟩
 try dsimp only at hk f⊢
 have r:=MQ (bs:=bs) k
 refine gj (λy=>?_) λy=>?_
 ·refine gh ?_
  have b:k<bs.length:=by omega
  obtain⟨H,G,C,m⟩:=hs.open (by intro e;have:=congrArg length e;rw[length_map,length_nil]at this;have z:=congrArg length hp;rw[length_map]at z;omega)
  subst C
  obtain⟨F,E,i,n,j⟩:=Cn m hp D b
  have d:=congrArg length (Gk b)
  rw[length_append]at d
  have o:=MQ (bs:=bs) (k+1)
  refine gh ?_
  refine lq (AE rfl rfl rfl rfl ((i.mono l).cj _)) ?_
  refine gh ?_
  refine lh (Dx (R:=R) (news:=Ab bs[k]) rfl rfl rfl rfl f (by rw[Af,Nat.mul_one]) (j.mono l) (by rfl) (DC _) (by omega) (by omega)) ?_;rintro P _ _ ⟨rfl,L,rfl,h⟩
  obtain⟨J,I,rfl⟩:=h.form
  refine gh ?_
  refine Bw (k+1,L,.slice J _ I) ⟨by show k+1<=bs.length;omega,?_⟩
  grind[Own,Ab,Gk]
 refine Am (jT (Ao (FM rfl (Kr (wLi (wLi (jBx (jT (Ao (Ah ?_))))))))))
 iterate 2 refine jp rfl ?_
 refine Am (jT (Bs ?_))
 refine Gd rfl rfl ?_
 grind
theorem DL(bs:List (List By))(v:Value)(M:Mem)(h:LS M v bs)(i:bs.length<=1000)(e:bs.flatten.length<=1000000):SpecL prog 151 #[v] M [] λu _ b=>Own u b 5 1 bs.flatten.length (Ab bs.flatten):=by
 obtain⟨a,c,d,rfl,j,f,g,k⟩:=h
 grind[TQ]
def DX(b:List By):List By:=b++replicate (124-b.length) 0
def Hc(b:List By):List By:=A6 (FZ (DX b))++DX b
variable{b:List By}
theorem SU(h:b.length<=124):(DX b).length=124:=by grind[DX]
theorem F2(h:b.length<=124):(Hc b).length=128:=by unfold Hc;rw[length_append,SU h];rfl
theorem Yi(h:b.length<=124):((replicate (124:Int).toNat [Value.int .u8 0]).flatten).take 0++Ab b++((replicate (124:Int).toNat [Value.int .u8 0]).flatten).drop (0+(Ab b).length)=Ab (DX b):=by
 have e:(replicate (124:Int).toNat [Value.int .u8 0]).flatten=replicate 124 (Value.int .u8 0):=by simp
 rw[e,Af,List.take_zero,nil_append,Nat.zero_add,List.drop_replicate]
 simp_all [DX,Ab]
variable{M:Mem}
theorem LS.two{b:Nat}{u v:Value}{x y:List By}(h:M b=some (cE [u,v] 30))(d:BS M u x)(c:BS M v y):LS M (.slice (some ⟨b,0,none⟩) 2 2) [x,y]:=
 ⟨_,2,[(x,u),(y,v)],rfl,Nat.le_refl _,SM.of_block (l:=[u,v]) h,rfl,λp a=>by
  rcases List.mem_cons.1 a with rfl|a
  ·exact d
  rw[List.mem_singleton.1 a];exact c⟩
theorem P2(b:List By)(a:Option Addr)(c:Nat)(M:Mem)(K:b.length<=c)(hs:SM M a (Ab b))(h:b.length<=124):
  SpecL prog 167 #[.slice a b.length c] M [] λu I J=>(∃s,u=.tuple #[s,.int .i64 0]/\BS I s (Hc b))/\J=[]:=by
 refine sB func167 ntmps167 ?_;intro W
 refine gt ?_
 refine lh (EJ rfl rfl rfl rfl (by omega) (by rfl)) ?_;rintro _ _ _ ⟨m,rfl,rfl,rfl⟩
 refine gh ?_
 refine lh (wCi (cs:=Ab b) rfl rfl rfl rfl (by rw[Af];show _=min b.length 124;omega) (hs.sj _) (DC _) (by rw[Af];show 0+b.length<=124;omega)) ?_;rintro _ _ _ ⟨rfl,rfl,rfl⟩
 rw[Yi h]
 refine gh ?_
 refine Cx m (by simp) ?_
 intro g C r
 have d:=SU h
 have j:BS g (.slice (some ⟨m,0,none⟩) (124:Int).toNat (124:Int).toNat) (DX b):=⟨_,_,by rw[d];rfl,by rw[d];exact Nat.le_refl _,SM.of_block r⟩
 have i:SM g (some ⟨m,0,none⟩) (Ab (DX b)):=SM.of_block r
 refine gq (by have:=MI _ (124:Int).toNat (DX b) g i (by omega);rw[d]at this;exact this) ?_
 refine gc (AJ _ g) ?_;rintro _ Q l o
 obtain⟨N,L,rfl,_,_⟩:=id o
 simp only[nil_append]
 refine gh ?_
 refine lh (Aa (cs:=[_,_]) rfl rfl rfl (by rfl) (by rfl) (by rfl)) ?_;rintro _ _ _ ⟨n,rfl,rfl,rfl⟩
 refine Cx n (by simp) ?_
 intro H f E
 have k:=LS.two E (o.mono f) (j.mono (l.trans f))
 refine gC (DL _ _ H k (by simp) (by simp[d,A6])) ?_;rintro _ P _ B e
 refine gh ?_
 refine Cj e (by simp) ?_
 intro O G F z D y t;subst D
 refine gr ?_
 refine⟨⟨_,rfl,G,F,?_,?_,?_⟩,rfl⟩
 ·simp [Hc]
 ·grind [Hc]
 grind[Hc]
def FX(x:It):List By:=[bU x.key.kind]++A6 x.key.id++A6 x.key.off++Cy x.ref++[bU x.val.length]++x.val
variable{u1:Value}{x1:List By}
theorem LS.six{b:Nat}{f e d c a:Value}{m k j i g:List By}(h:M b=some (cE [u1,f,e,d,c,a] 30))(y:BS M u1 x1)(u:BS M f m)(t:BS M e k)(s:BS M d j)(r:BS M c i)(o:BS M a g):LS M (.slice (some ⟨b,0,none⟩) 6 6) [x1,m,k,j,i,g]:=
 ⟨_,6,[(x1,u1),(m,f),(k,e),(j,d),(i,c),(g,a)],rfl,Nat.le_refl _,SM.of_block (l:=[u1,f,e,d,c,a]) h,rfl,λp n=>by
  simp only[List.mem_cons,List.not_mem_nil,or_false]at n
  rcases n with rfl|rfl|rfl|rfl|rfl|rfl<;>assumption⟩
variable{n:Int}
theorem GD{b:Nat}(h:0<=n/\n<256)(e:M b=some (cE [.int .u8 n] 5)):BS M (.slice (some ⟨b,0,none⟩) 1 1) [bU n]:=
 ⟨_,1,rfl,Nat.le_refl _,SM.of_block (l:=Ab [bU n]) (by
  have:((bU n).toNat:Int)=n:=by rw[<-G7,IntKind.wrap_u8];omega
  simp only[Ab,List.map,this];exact e)⟩
theorem Tn(x:It)(J:Option Addr)(I:Nat)(M:Mem)(P:x.val.length<=I)(O:SM M J (Ab x.val))(ag:BQ x=false)(hk:0<=x.key.kind/\x.key.kind<256):
  SpecL prog 223 #[.agg (Fk x J I).toArray] M [] λu M' L'=>(∃s,u=.tuple #[s,.int .i64 0]/\BS M' s (FX x))/\L'=[]:=by
 have ai:BY x=0:=by grind[BY]
 have aj:¬(x.ref≠0/\(x.ref<8\/256<=x.ref)\/12<x.val.length):=by grind[BQ]
 refine sB func223 ntmps223 ?_;intro W
 refine ga λb1=>?_
 refine gQ (CR x _ M ⟨J,I,rfl,P,O⟩) ?_
 refine gt ?_
 refine gc (J0 x.ref M (by omega)) ?_;rintro _ M1 X ⟨s2,rfl,Q⟩
 refine gh ?_
 refine Cg ([(b1,cE (Fk x J I) IT)]) (by kernel_rfl) (λ_ h=>h) ?_
 refine gk [0,1,2,4,5,6,8,9,10,12,13,14,15] ?_
 refine GJ (i:=16) rfl (by kernel_rfl) (by kernel_rfl) rfl rfl (Bc (CV rfl rfl rfl) (by rw[G7])) ?_
 refine gk [18,19] ?_
 refine Ch (α:=Mem×Value×Value×Value×Value) (λy=>MLe M1 y.1/\BS y.1 y.2.1 [bU x.key.kind]/\BS y.1 y.2.2.1 (A6 x.key.id)/\BS y.1 y.2.2.2.1 (A6 x.key.off)/\BS y.1 y.2.2.2.2 [bU x.val.length]) (λy=>[(21,y.2.1),(25,y.2.2.1),(29,y.2.2.2.1),(30,s2),(35,y.2.2.2.2),(37,.slice J x.val.length I)]) (λy=>y.1) (λ_=>[(b1,cE (Fk x J I) IT)]) 4 #[true,true,true,true,true,true,true,true,true,true,true,true,true,true,true,true,true,true,true,true,false,false,false,false] ?_ (λk=>?_)
 ·rintro ⟨Mr,v3,N,t,ab⟩ ⟨E,L,K,G,F⟩
  try dsimp only at E L K G F⊢
  obtain⟨a3,k3,rfl,_,_⟩:=id L
  obtain⟨a7,k7,rfl,_,_⟩:=id K
  obtain⟨ao,ae,rfl,_,_⟩:=id G
  obtain⟨am,ad,rfl,_,_⟩:=id F
  obtain⟨al,ac,rfl,_,_⟩:=id Q
  refine aO 20 ?_
  refine sh rfl (Aa (cs:=[_,_,_,_,_,_]) rfl rfl rfl (by rfl) (by rfl) (by rfl)) ?_;rintro _ _ _ ⟨Z,rfl,rfl,rfl⟩
  refine aG (E) ?_
  refine AH Z (by simp) (by simp) ?_
  intro aa z Y
  have V:=LS.six Y (L.mono z) (K.mono z) (G.mono z) ((Q.mono E).mono z) (F.mono z) ⟨J,I,rfl,P,O.mono (X.trans (E.trans z))⟩
  refine aO 21 ?_
  refine sh rfl (hC (DL _ _ aa V (by simp) (by simp[A6,Cy];omega))) ?_;rintro _ aq _ ⟨S,ap,rfl,R⟩
  refine aG ((E.trans z).trans S) ?_
  refine gk [22,23] ?_
  refine D3 (by kernel_rfl) ?_
  refine gh ?_
  refine Cj R (by simp) ?_
  intro M5 a5 c5 ak e5 ah af;subst e5
  refine AD (L':=[]) (by simp) ?_
  refine gr ?_
  refine⟨⟨_,rfl,a5,c5,?_,?_,?_⟩,rfl⟩
  ·simp [FX]
  ·grind [FX]
  grind[FX]
 refine AR [3,7,17] (by kernel_rfl) rfl ⟨?_,?_,?_,trivial⟩
 ·refine sh rfl (Aa (cs:=[_]) rfl rfl rfl (by rfl) (by rfl) (by rfl)) ?_;rintro _ _ _ ⟨n,rfl,rfl,rfl⟩
  refine aG (MLe.refl _) ?_
  refine AH n (by simp) (by simp) ?_
  intro H c D
  have j:=GD hk D
  refine AR [7,17] (by kernel_rfl) rfl ⟨?_,?_,trivial⟩
  ·refine sh rfl (hC (AJ x.key.id _)) ?_;rintro N U _ ⟨d,T,rfl,r,rfl⟩
   refine aG ((c).trans d) ?_
   simp only[nil_append]
   refine AR [11,17] (by kernel_rfl) rfl ⟨?_,?_,trivial⟩
   ·refine sh rfl (hC (AJ x.key.off _)) ?_;rintro t C _ ⟨a,B,rfl,e,rfl⟩
    refine aG (((c.trans d)).trans a) ?_
    simp only[nil_append]
    refine aO 17 ?_
    refine sh rfl (Aa (cs:=[_]) rfl rfl rfl (by rfl) (by rfl) (by rfl)) ?_;rintro _ _ _ ⟨g,rfl,rfl,rfl⟩
    refine aG ((c.trans (d.trans a))) ?_
    refine AH g (by simp) (by simp) ?_
    intro o b m
    have f:BS o (.slice (some ⟨g,0,none⟩) 1 1) [bU x.val.length]:=⟨_,1,rfl,Nat.le_refl _,SM.of_block (l:=Ab [bU x.val.length]) m⟩
    exact aR k (_,_,_,_,_) ⟨(c.trans (d.trans (a.trans b))),j.mono ((d.trans (a.trans b))),r.mono ((a.trans b)),e.mono (b),f.mono (MLe.refl _)⟩
   refine sh rfl (Aa (cs:=[_]) rfl rfl rfl (by rfl) (by rfl) (by rfl)) ?_;rintro _ _ _ ⟨g,rfl,rfl,rfl⟩
   refine aG ((c.trans d)) ?_
   refine AH g (by simp) (by simp) ?_
   intro o b m
   have f:BS o (.slice (some ⟨g,0,none⟩) 1 1) [bU x.val.length]:=⟨_,1,rfl,Nat.le_refl _,SM.of_block (l:=Ab [bU x.val.length]) m⟩
   refine aO 11 ?_
   refine sh rfl (hC (AJ x.key.off _)) ?_;rintro t C _ ⟨a,B,rfl,e,rfl⟩
   refine aG (((c.trans (d.trans b))).trans a) ?_
   simp only[nil_append]
   exact aR k (_,_,_,_,_) ⟨(c.trans (d.trans (b.trans a))),j.mono ((d.trans (b.trans a))),r.mono ((b.trans a)),e.mono (MLe.refl _),f.mono (a)⟩
  refine sh rfl (Aa (cs:=[_]) rfl rfl rfl (by rfl) (by rfl) (by rfl)) ?_;rintro _ _ _ ⟨g,rfl,rfl,rfl⟩
  refine aG (c) ?_
  refine AH g (by simp) (by simp) ?_
  intro o b m
  have f:BS o (.slice (some ⟨g,0,none⟩) 1 1) [bU x.val.length]:=⟨_,1,rfl,Nat.le_refl _,SM.of_block (l:=Ab [bU x.val.length]) m⟩
  refine aO 7 ?_
  refine sh rfl (hC (AJ x.key.id _)) ?_;rintro N U _ ⟨d,T,rfl,r,rfl⟩
  refine aG (((c.trans b)).trans d) ?_
  simp only[nil_append]
  refine aO 11 ?_
  refine sh rfl (hC (AJ x.key.off _)) ?_;rintro t C _ ⟨a,B,rfl,e,rfl⟩
  refine aG (((c.trans (b.trans d))).trans a) ?_
  simp only[nil_append]
  exact aR k (_,_,_,_,_) ⟨(c.trans (b.trans (d.trans a))),j.mono ((b.trans (d.trans a))),r.mono (a),e.mono (MLe.refl _),f.mono ((d.trans a))⟩
 ·refine sh rfl (hC (AJ x.key.id _)) ?_;rintro N U _ ⟨d,T,rfl,r,rfl⟩
  refine aG (d) ?_
  simp only[nil_append]
  refine AR [3,11,17] (by kernel_rfl) rfl ⟨?_,?_,?_,trivial⟩
  ·refine sh rfl (Aa (cs:=[_]) rfl rfl rfl (by rfl) (by rfl) (by rfl)) ?_;rintro _ _ _ ⟨n,rfl,rfl,rfl⟩
   refine aG (d) ?_
   refine AH n (by simp) (by simp) ?_
   intro H c D
   have j:=GD hk D
   refine AR [11,17] (by kernel_rfl) rfl ⟨?_,?_,trivial⟩
   ·refine sh rfl (hC (AJ x.key.off _)) ?_;rintro t C _ ⟨a,B,rfl,e,rfl⟩
    refine aG (((d.trans c)).trans a) ?_
    simp only[nil_append]
    refine aO 17 ?_
    refine sh rfl (Aa (cs:=[_]) rfl rfl rfl (by rfl) (by rfl) (by rfl)) ?_;rintro _ _ _ ⟨g,rfl,rfl,rfl⟩
    refine aG ((d.trans (c.trans a))) ?_
    refine AH g (by simp) (by simp) ?_
    intro o b m
    have f:BS o (.slice (some ⟨g,0,none⟩) 1 1) [bU x.val.length]:=⟨_,1,rfl,Nat.le_refl _,SM.of_block (l:=Ab [bU x.val.length]) m⟩
    exact aR k (_,_,_,_,_) ⟨(d.trans (c.trans (a.trans b))),j.mono ((a.trans b)),r.mono ((c.trans (a.trans b))),e.mono (b),f.mono (MLe.refl _)⟩
   refine sh rfl (Aa (cs:=[_]) rfl rfl rfl (by rfl) (by rfl) (by rfl)) ?_;rintro _ _ _ ⟨g,rfl,rfl,rfl⟩
   refine aG ((d.trans c)) ?_
   refine AH g (by simp) (by simp) ?_
   intro o b m
   have f:BS o (.slice (some ⟨g,0,none⟩) 1 1) [bU x.val.length]:=⟨_,1,rfl,Nat.le_refl _,SM.of_block (l:=Ab [bU x.val.length]) m⟩
   refine aO 11 ?_
   refine sh rfl (hC (AJ x.key.off _)) ?_;rintro t C _ ⟨a,B,rfl,e,rfl⟩
   refine aG (((d.trans (c.trans b))).trans a) ?_
   simp only[nil_append]
   exact aR k (_,_,_,_,_) ⟨(d.trans (c.trans (b.trans a))),j.mono ((b.trans a)),r.mono ((c.trans (b.trans a))),e.mono (MLe.refl _),f.mono (a)⟩
  ·refine sh rfl (hC (AJ x.key.off _)) ?_;rintro t C _ ⟨a,B,rfl,e,rfl⟩
   refine aG ((d).trans a) ?_
   simp only[nil_append]
   refine AR [3,17] (by kernel_rfl) rfl ⟨?_,?_,trivial⟩
   ·refine sh rfl (Aa (cs:=[_]) rfl rfl rfl (by rfl) (by rfl) (by rfl)) ?_;rintro _ _ _ ⟨n,rfl,rfl,rfl⟩
    refine aG ((d.trans a)) ?_
    refine AH n (by simp) (by simp) ?_
    intro H c D
    have j:=GD hk D
    refine aO 17 ?_
    refine sh rfl (Aa (cs:=[_]) rfl rfl rfl (by rfl) (by rfl) (by rfl)) ?_;rintro _ _ _ ⟨g,rfl,rfl,rfl⟩
    refine aG ((d.trans (a.trans c))) ?_
    refine AH g (by simp) (by simp) ?_
    intro o b m
    have f:BS o (.slice (some ⟨g,0,none⟩) 1 1) [bU x.val.length]:=⟨_,1,rfl,Nat.le_refl _,SM.of_block (l:=Ab [bU x.val.length]) m⟩
    exact aR k (_,_,_,_,_) ⟨(d.trans (a.trans (c.trans b))),j.mono (b),r.mono ((a.trans (c.trans b))),e.mono ((c.trans b)),f.mono (MLe.refl _)⟩
   refine sh rfl (Aa (cs:=[_]) rfl rfl rfl (by rfl) (by rfl) (by rfl)) ?_;rintro _ _ _ ⟨g,rfl,rfl,rfl⟩
   refine aG ((d.trans a)) ?_
   refine AH g (by simp) (by simp) ?_
   intro o b m
   have f:BS o (.slice (some ⟨g,0,none⟩) 1 1) [bU x.val.length]:=⟨_,1,rfl,Nat.le_refl _,SM.of_block (l:=Ab [bU x.val.length]) m⟩
   refine aO 3 ?_
   refine sh rfl (Aa (cs:=[_]) rfl rfl rfl (by rfl) (by rfl) (by rfl)) ?_;rintro _ _ _ ⟨n,rfl,rfl,rfl⟩
   refine aG ((d.trans (a.trans b))) ?_
   refine AH n (by simp) (by simp) ?_
   intro H c D
   have j:=GD hk D
   exact aR k (_,_,_,_,_) ⟨(d.trans (a.trans (b.trans c))),j.mono (MLe.refl _),r.mono ((a.trans (b.trans c))),e.mono ((b.trans c)),f.mono (c)⟩
  refine sh rfl (Aa (cs:=[_]) rfl rfl rfl (by rfl) (by rfl) (by rfl)) ?_;rintro _ _ _ ⟨g,rfl,rfl,rfl⟩
  refine aG (d) ?_
  refine AH g (by simp) (by simp) ?_
  intro o b m
  have f:BS o (.slice (some ⟨g,0,none⟩) 1 1) [bU x.val.length]:=⟨_,1,rfl,Nat.le_refl _,SM.of_block (l:=Ab [bU x.val.length]) m⟩
  refine AR [3,11] (by kernel_rfl) rfl ⟨?_,?_,trivial⟩
  ·refine sh rfl (Aa (cs:=[_]) rfl rfl rfl (by rfl) (by rfl) (by rfl)) ?_;rintro _ _ _ ⟨n,rfl,rfl,rfl⟩
   refine aG ((d.trans b)) ?_
   refine AH n (by simp) (by simp) ?_
   intro H c D
   have j:=GD hk D
   refine aO 11 ?_
   refine sh rfl (hC (AJ x.key.off _)) ?_;rintro t C _ ⟨a,B,rfl,e,rfl⟩
   refine aG (((d.trans (b.trans c))).trans a) ?_
   simp only[nil_append]
   exact aR k (_,_,_,_,_) ⟨(d.trans (b.trans (c.trans a))),j.mono (a),r.mono ((b.trans (c.trans a))),e.mono (MLe.refl _),f.mono ((c.trans a))⟩
  refine sh rfl (hC (AJ x.key.off _)) ?_;rintro t C _ ⟨a,B,rfl,e,rfl⟩
  refine aG (((d.trans b)).trans a) ?_
  simp only[nil_append]
  refine aO 3 ?_
  refine sh rfl (Aa (cs:=[_]) rfl rfl rfl (by rfl) (by rfl) (by rfl)) ?_;rintro _ _ _ ⟨n,rfl,rfl,rfl⟩
  refine aG ((d.trans (b.trans a))) ?_
  refine AH n (by simp) (by simp) ?_
  intro H c D
  have j:=GD hk D
  exact aR k (_,_,_,_,_) ⟨(d.trans (b.trans (a.trans c))),j.mono (MLe.refl _),r.mono ((b.trans (a.trans c))),e.mono (c),f.mono ((a.trans c))⟩
 refine sh rfl (Aa (cs:=[_]) rfl rfl rfl (by rfl) (by rfl) (by rfl)) ?_;rintro _ _ _ ⟨g,rfl,rfl,rfl⟩
 refine aG (MLe.refl _) ?_
 refine AH g (by simp) (by simp) ?_
 intro o b m
 have f:BS o (.slice (some ⟨g,0,none⟩) 1 1) [bU x.val.length]:=⟨_,1,rfl,Nat.le_refl _,SM.of_block (l:=Ab [bU x.val.length]) m⟩
 refine AR [3,7] (by kernel_rfl) rfl ⟨?_,?_,trivial⟩
 ·refine sh rfl (Aa (cs:=[_]) rfl rfl rfl (by rfl) (by rfl) (by rfl)) ?_;rintro _ _ _ ⟨n,rfl,rfl,rfl⟩
  refine aG (b) ?_
  refine AH n (by simp) (by simp) ?_
  intro H c D
  have j:=GD hk D
  refine aO 7 ?_
  refine sh rfl (hC (AJ x.key.id _)) ?_;rintro N U _ ⟨d,T,rfl,r,rfl⟩
  refine aG (((b.trans c)).trans d) ?_
  simp only[nil_append]
  refine aO 11 ?_
  refine sh rfl (hC (AJ x.key.off _)) ?_;rintro t C _ ⟨a,B,rfl,e,rfl⟩
  refine aG (((b.trans (c.trans d))).trans a) ?_
  simp only[nil_append]
  exact aR k (_,_,_,_,_) ⟨(b.trans (c.trans (d.trans a))),j.mono ((d.trans a)),r.mono (a),e.mono (MLe.refl _),f.mono ((c.trans (d.trans a)))⟩
 refine sh rfl (hC (AJ x.key.id _)) ?_;rintro N U _ ⟨d,T,rfl,r,rfl⟩
 refine aG ((b).trans d) ?_
 simp only[nil_append]
 refine AR [3,11] (by kernel_rfl) rfl ⟨?_,?_,trivial⟩
 ·refine sh rfl (Aa (cs:=[_]) rfl rfl rfl (by rfl) (by rfl) (by rfl)) ?_;rintro _ _ _ ⟨n,rfl,rfl,rfl⟩
  refine aG ((b.trans d)) ?_
  refine AH n (by simp) (by simp) ?_
  intro H c D
  have j:=GD hk D
  refine aO 11 ?_
  refine sh rfl (hC (AJ x.key.off _)) ?_;rintro t C _ ⟨a,B,rfl,e,rfl⟩
  refine aG (((b.trans (d.trans c))).trans a) ?_
  simp only[nil_append]
  exact aR k (_,_,_,_,_) ⟨(b.trans (d.trans (c.trans a))),j.mono (a),r.mono ((c.trans a)),e.mono (MLe.refl _),f.mono ((d.trans (c.trans a)))⟩
 refine sh rfl (hC (AJ x.key.off _)) ?_;rintro t C _ ⟨a,B,rfl,e,rfl⟩
 refine aG (((b.trans d)).trans a) ?_
 simp only[nil_append]
 refine aO 3 ?_
 refine sh rfl (Aa (cs:=[_]) rfl rfl rfl (by rfl) (by rfl) (by rfl)) ?_;rintro _ _ _ ⟨n,rfl,rfl,rfl⟩
 refine aG ((b.trans (d.trans a))) ?_
 refine AH n (by simp) (by simp) ?_
 intro H c D
 have j:=GD hk D
 exact aR k (_,_,_,_,_) ⟨(b.trans (d.trans (a.trans c))),j.mono (MLe.refl _),r.mono ((a.trans c)),e.mono (c),f.mono ((d.trans (a.trans c)))⟩
def C4(lv:Int)(xs:List It):List By:=[78,bU lv,bU xs.length]++xs.flatMap FX
def Je(lv:Int)(xs:List It):List By:=Hc (C4 lv xs)
theorem W0{x:It}(h:BQ x=false):(FX x).length<=24:=by
 grind[BQ,FX,A6,Cy]
theorem Gf:∀{xs:List It},(∀x∈xs,BQ x=false)->(xs.flatMap FX).length<=24*xs.length
 |[],_=>by simp
 |x::xs,h=>by
  have c:=W0 (h x (by simp))
  have b:=Gf (λy a=>h y (List.mem_cons_of_mem _ a))
  grind
variable{lv:Int}{xs:List It}
theorem wAw(h:¬CW lv xs≠0):Cw lv xs=true:=by
 grind[Cw,CW]
theorem Qu(h:k<xs.length):(xs.take (k+1)).flatMap FX=(xs.take k).flatMap FX++FX xs[k]:=by
 rw[List.take_succ_eq_append_getElem h,List.flatMap_append];simp
theorem LK(lv:Int)(xs:List It)(a:Option Addr)(c:Nat)(ps:List (It×Value))(M:Mem)(hc:xs.length<=c)(hs:SM M a (ps.flatMap Ac))(hp:ps.map (·.1)=xs)(V:∀p∈ps,BS M p.2 p.1.val)(K:∀x∈xs,0<=x.key.kind/\x.key.kind<256):
  SpecL prog 204 #[.agg #[.int .i64 lv,.slice a xs.length c]] M [] λu M' L'=>(if Cw lv xs then ∃s,u=.tuple #[s,.int .i64 0]/\BS M' s (Je lv xs)else u=.tuple #[.slice none 0 0,.int .i64 8])/\L'=[]:=by
 have J:NS M (.slice a xs.length c) xs:=⟨a,c,ps,rfl,hc,hs,hp,V⟩
 refine sB func204 ntmps204 ?_;intro W
 refine ga λY=>?_
 refine gQ (FI lv xs _ M J) ?_
 refine gj (λt=>?_) λt=>?_
 ·refine gh ?_
  refine AD (L':=[]) (by simp) ?_
  refine gr ?_
  grind[Cw,CW]
 refine gh ?_
 have o:=wAw t
 have l:=NdOk.of o
 have ab:=l.lev
 have U:=l.len
 have h:=λx B=>(BX l.ok x B).1
 have ac:=Gf h
 refine lq (Bc (CV rfl rfl rfl) (by rw[G7])) ?_
 refine gh ?_
 refine lq (Bc (CV rfl rfl rfl) (by rw[G7])) ?_
 refine lh (Aa (cs:=[_,_,_]) rfl rfl rfl (by rfl) (by rfl) (by rfl)) ?_;rintro _ _ _ ⟨y,rfl,rfl,rfl⟩
 refine gh ?_
 refine Cz (α:=Nat×Mem×Lc×Value) (λx=>[(1,pB Y),(5,x.2.2.2),(24,.slice a xs.length c),(25,.int .i64 xs.length),(26,.int .i64 x.1)]) (λx=>x.2.1) (λx=>x.2.2.1++[(Y,cE [.int .i64 lv,.slice a xs.length c] 135)]) (λx=>x.1<=xs.length/\MLe M x.2.1/\Own x.2.2.2 x.2.2.1 5 1 (3+((xs.take x.1).flatMap FX).length) (Ab ([78,bU lv,bU xs.length]:List By)++Ab ((xs.take x.1).flatMap FX))/\((xs.take x.1).flatMap FX).length<=24*x.1) (λx=>xs.length-x.1) (0,M,_,.slice (some ⟨y,0,none⟩) 3 3) ⟨Nat.zero_le _,MLe.refl _,⟨rfl,.inr ⟨y,3,_,rfl,rfl,Nat.le_refl _,by decide,rfl,rfl⟩⟩,Nat.zero_le _⟩ ?_
 rintro⟨k,Mk,R,s⟩ ⟨hk,g,b,r⟩
 try dsimp only at hk g b r⊢
 refine gj (λQ=>?_) λQ=>?_
 ·refine gh ?_
  have m:k<xs.length:=by omega
  have F:=hs.mono g
  have O:=λp hp=>(V p hp).mono g
  obtain⟨sb,so,e0,B⟩:=F.open (by intro e;have:=congrArg length e;rw[Aj Ac 5 Ad,length_nil]at this;have h2:=congrArg length hp;rw[length_map]at h2;omega)
  subst e0
  obtain⟨T,S,L,D,C⟩:=Au B hp O m
  have n:=h xs[k] (getElem_mem m)
  have Z:=W0 n
  have z:=K xs[k] (getElem_mem m)
  refine gh ?_
  refine lq (Bb (cs:=Fk xs[k] T S) rfl rfl rfl rfl rfl (λi v hv=>(L i v hv).cj _)) ?_
  refine ga λb7=>?_
  refine gc (Tn xs[k] T S Mk D C n z) ?_;rintro _ Mw P ⟨sw,rfl,wa,wc,rfl,aa,E⟩
  refine gh ?_
  refine lh (Dx (R:=R) (news:=Ab (FX xs[k])) rfl rfl rfl rfl b (by rw[Af,Nat.mul_one]) E (by rfl) (DC _) (by omega) (by omega)) ?_;rintro s' _ _ ⟨rfl,R',rfl,j⟩
  obtain⟨a2,c2,rfl⟩:=j.form
  refine gh ?_
  refine Bw (k+1,Mw,R',.slice a2 _ c2) ⟨by show k+1<=xs.length;omega,g.trans P,?_,?_⟩
  ·grind [Own,FX,Ab,Qu]
  grind[FX,Qu]
 refine gh ?_
 obtain rfl:k=xs.length:=by omega
 rw[take_length]at b r
 have d:(C4 lv xs).length=3+(xs.flatMap FX).length:=by grind[C4]
 have f:Ab (C4 lv xs)=Ab ([78,bU lv,bU xs.length]:List By)++Ab (xs.flatMap FX):=by grind[C4,Ab]
 have I:(C4 lv xs).length<=124:=by omega
 refine EM b (by simp) ?_
 intro M8 a8 c8 ae e8 N H;cases e8
 refine gc (by have X:=P2 (C4 lv xs) a8 c8 M8 (by rw[d];exact N) (by rw[f];exact H) I;rw[d]at X;exact X) ?_;rintro _ M9 ad ⟨s9,rfl,G⟩
 refine gh ?_
 refine AD (L':=[]) (by simp) ?_
 refine gr ?_
 refine⟨?_,rfl⟩
 rw[if_pos o]
 exact⟨_,rfl,G⟩
set_option maxRecDepth 8000
set_option maxHeartbeats 40000000
abbrev WT:TypeId:=88
def WOwn(M:Mem)(wv:Value)(Rw:Lc)(ws:List Wt):Prop:=∃ps:List (Wt×Value),ps.map (·.1)=ws/\(∀p∈ps,BS M p.2 p.1.2)/\
 (Own wv Rw WT 2 ws.length (ps.flatMap AT)\/(Rw=[]/\(ps.flatMap AT).length=ws.length*2/\∃ba,wv=.slice (some ba) ws.length ws.length/\(ps.flatMap AT=[]\/ba.spot=none)/\∀i u,(ps.flatMap AT)[i]? =some u->CM M ba.block (ba.off+i) u))
def BOwn(M:Mem)(bb:Nat)(Lb:Lc)(s:Sto):Prop:=∃bv wv na nc lv Rw Rn,Lb=(bb,cE [bv,wv,.slice na s.now.length nc,lv] Ee)::(Rw++Rn)/\LS M bv s.blocks/\BS M lv s.last/\Own (.slice na s.now.length nc) Rn 5 1 s.now.length (Ab s.now)/\WOwn M wv Rw s.waits
variable{M:Mem}{Rw:Lc}{ws:List Wt}{wv:Value}
theorem WOwn.mono{M':Mem}(h:WOwn M wv Rw ws)(f:MLe M M'):WOwn M' wv Rw ws:=by
 obtain⟨g,n,m,l⟩:=h
 refine⟨g,n,λp k=>(m p k).mono f,l.imp id ?_⟩
 rintro⟨a,b,o,c,d,e⟩
 exact⟨a,b,o,c,d,λi u j=>(e i u j).mono f⟩
variable{Lb:Lc}{bb:Nat}{s:Sto}
theorem BOwn.mono{M':Mem}(h:BOwn M bb Lb s)(a:MLe M M'):BOwn M' bb Lb s:=by
 obtain⟨j,wv,c,b,lv,Rw,k,i,g,f,e,d⟩:=h
 exact⟨j,wv,c,b,lv,Rw,k,i,g.mono a,f.mono a,e,d.mono a⟩
def shareE(s:Sto)(k:Nat):Int:=if s.now.getD k 0=0 then 6 else if s.now.getD k 0=255 then 70 else 0
def AQ(s:Sto)(k:Nat):Sto:={ s with now:=s.now.set k (s.now.getD k 0+1) }
variable{b:By}
theorem Vy(h:b≠255):((b+1).toNat:Int)=(b.toNat:Int)+1/\(b.toNat:Int)+1<256:=by
 have c:=b.toNat_lt
 have a:b.toNat≠255:=λe=>h (UInt8.toNat.inj e)
 rw[UInt8.toNat_add]
 grind
variable{k:Nat}
theorem HP(h:shareE s k=0):s.now.getD k 0≠0/\s.now.getD k 0≠255:=by
 grind[shareE]
theorem nz_u8(h:b≠0):¬((b.toNat:Int)=0):=λe=>h (UInt8.toNat.inj (by simpa using e))
theorem wHu(h:b≠255):¬((b.toNat:Int)=255):=λe=>h (UInt8.toNat.inj (by have:(255:By).toNat=255:=rfl;omega))
theorem UG(s:Sto)(k f:Nat)(hk:k<s.now.length)(D:shareE s k=0)(n j lv:Value)(g:Option Addr)(d:Nat)(i t:Lc)(M:Mem)(a:Own (.slice g s.now.length d) t 5 1 s.now.length (Ab s.now)):
  SpecL prog 184 #[pB f,.int .i64 k] M ((f,cE [n,j,.slice g s.now.length d,lv] Ee)::(i++t)) λu H L'=>u=.int .i64 0/\H=M/\∃b,L'=(f,cE [n,j,.slice g s.now.length d,lv] Ee)::(i++b)/\Own (.slice g s.now.length d) b 5 1 s.now.length (Ab (AQ s k).now):=by
 have e:(Ab s.now)[k]? =some (.int .u8 ((s.now.getD k 0).toNat:Int)):=Cc hk
 obtain⟨E,c⟩:=HP D
 have z:=nz_u8 E
 have m:=wHu c
 obtain⟨C,B⟩:=Vy c
 obtain⟨y,r,o,G,F,_⟩:=a.open (by omega)
 cases G;cases F
 refine sB func184 ntmps184 ?_;intro W
 refine gh ?_
 refine lq (AE rfl rfl rfl rfl (by rw[Nat.mul_one,Nat.zero_add];exact a.cj (by simp) e)) ?_
 refine gt ?_
 refine lq (AE rfl rfl rfl rfl (by rw[Nat.mul_one,Nat.zero_add];exact a.cj (by simp) e)) ?_
 refine lq (wMo rfl rfl rfl rfl rfl (by rw[IntKind.wrap_u8];omega)) ?_
 refine gh ?_
 refine Dz rfl (CZ rfl rfl rfl rfl rfl rfl a rfl (by omega)) ?_;rintro _ _ _ ⟨rfl,b,rfl,l⟩
 refine gh ?_
 refine AK (L':=(f,cE [n,j,.slice (some ⟨y,0,none⟩) s.now.length d,lv] Ee)::(i++b)) (λw h=>h.perm ?_) ?_
 ·simpa using (List.perm_append_comm (l₁:=b) (l₂:=(f,_)::i))
 refine Gd rfl rfl ?_
 simp_all [Ab,AQ]
theorem Gv(s:Sto)(k:Nat):(AQ s k).now.length=s.now.length:=by grind[AQ]
theorem Nv(s:Sto)(k a:Nat)(hk:k<s.now.length)(l:shareE s k=0)(M:Mem)(i:Lc)(h:BOwn M a i s):SpecL prog 184 #[pB a,.int .i64 k] M i λu g j=>u=.int .i64 0/\BOwn g a j (AQ s k):=by
 obtain⟨f,wv,d,c,lv,Rw,C,rfl,r,o,n,m⟩:=h
 refine(UG s k a hk l f wv lv d c Rw C M n).mono λu g j ⟨B,z,b,y,t⟩=>?_
 subst z
 have e:=Gv s k
 exact⟨B,f,wv,d,c,lv,Rw,b,by rw[e];exact y,r,o,by rw[e];exact t,m⟩
def Fm(s:Sto)(k:Nat):Prop:=s.now.getD k 0=0/\s.last.getD k 0=0
instance(s:Sto)(k:Nat):Decidable (Fm s k):=by unfold Fm;exact inferInstance
def frAt(s:Sto):Nat->Nat->Nat
 |0,k=>k
 |f+1,k=>if Fm s k then k else frAt s f (k+1)
def mkAt(s:Sto):Nat:=frAt s 248 8
def Ag(s:Sto)(xs:List It):Sto:=xs.foldl (λt x=>if x.ref=0 then t else AQ t x.ref.toNat) s
def wMi(s:Sto)(xs:List It):Prop:=∀k (h:k<xs.length),xs[k].ref≠0->shareE (Ag s (xs.take k)) xs[k].ref.toNat=0
def Jc(s:Sto)(k:Nat)(b:List By):Sto:={ s with waits:=s.waits++[((k:Int),b)],now:=s.now.set k 1 }
def mkS(s:Sto)(lv:Int)(xs:List It):Sto:=Jc (Ag s xs) (mkAt (Ag s xs)) (Je lv xs)
variable{xs:List It}
theorem EB(h:k<xs.length):Ag s (xs.take (k+1))=if xs[k].ref=0 then Ag s (xs.take k)else AQ (Ag s (xs.take k)) xs[k].ref.toNat:=by
 rw[List.take_succ_eq_append_getElem h];unfold Ag;rw[List.foldl_append];rfl
theorem CB(s:Sto)(xs:List It):(Ag s xs).now.length=s.now.length/\(Ag s xs).waits=s.waits/\(Ag s xs).last=s.last/\(Ag s xs).blocks=s.blocks:=by
 unfold Ag
 induction xs generalizing s with
 |nil=>grind
 |cons x xs a=>
  grind[AQ,Gv]
theorem Wb(a b:By):Uh .u8 (a.toNat:Int) (b.toNat:Int)=((a ||| b).toNat:Int):=by
 have f:=a.toNat_lt
 have c:=b.toNat_lt
 have d:=(a ||| b).toNat_lt
 unfold Uh
 rw[IntKind.wrap_u8]
 have e:(BitVec.ofInt IntKind.u8.bits (a.toNat:Int) ||| BitVec.ofInt IntKind.u8.bits (b.toNat:Int)).toNat=(a ||| b).toNat:=by
  rw[BitVec.toNat_or,UInt8.toNat_or,BitVec.ofInt_natCast,BitVec.ofInt_natCast,BitVec.toNat_ofNat,BitVec.toNat_ofNat]
  rw[Nat.mod_eq_of_lt (by simpa [IntKind.bits]using f),Nat.mod_eq_of_lt (by simpa [IntKind.bits]using c)]
 omega
theorem Kf(a b:By):(a ||| b)=0↔a=0/\b=0:=by
 grind
variable{A:Lc}
theorem wLd{B C:Lc}:(A++(B++C)).Perm (C++(B++A)):=by
 refine List.perm_append_comm.trans ?_
 rw[<-List.append_assoc C B A]
 exact(List.perm_append_comm (l₁:=B) (l₂:=C)).append_right A
theorem WOwn.form(h:WOwn M wv Rw ws):∃d b,wv=.slice d ws.length b:=by
 obtain⟨g,j,i,f|⟨_,_,k,rfl,_⟩⟩:=h
 ·obtain ⟨a,c,e⟩:=f.form;exact⟨a,c,e⟩
 grind
theorem Xf(hk:k<256)(h:¬Fm s k):frAt s (256-k) k=frAt s (256-(k+1)) (k+1):=by
 rw[show 256-k=(256-(k+1))+1 by omega,frAt,if_neg h]
theorem Xg(hk:k<256)(h:Fm s k):frAt s (256-k) k=k:=by
 rw[show 256-k=(256-(k+1))+1 by omega,frAt,if_pos h]
theorem Wd(s:Sto)(lv:Int)(xs:List It)(a:Option Addr)(c:Nat)(ps:List (It×Value))(M:Mem)(hc:xs.length<=c)(hs:SM M a (ps.flatMap Ac))(hp:ps.map (·.1)=xs)(hb:∀p∈ps,BS M p.2 p.1.val)(ao:∀x∈xs,0<=x.key.kind/\x.key.kind<256)(o:Nat)(Lb:Lc)(a0:BOwn M o Lb s)(F:Cw lv xs=true)(ai:s.now.length=256)(al:s.last.length=256)(ab:wMi s xs)(ax:mkAt (Ag s xs)<256)(a8:s.waits.length<4096):
  SpecL prog 155 #[pB o,.agg #[.int .i64 lv,.slice a xs.length c]] M Lb λu M' L'=>u=.tuple #[.int .i64 (mkAt (Ag s xs)),.int .i64 0]/\BOwn M' o L' (mkS s lv xs):=by
 have aE:NS M (.slice a xs.length c) xs:=⟨a,c,ps,rfl,hc,hs,hp,hb⟩
 have r:=NdOk.of F
 have a6:=r.len
 have aI:(Je lv xs).length=128:=by
  refine F2 ?_
  have:=Gf (λx T=>(BX r.ok x T).1)
  grind[C4]
 refine sB func155 ntmps155 ?_;intro W
 refine ga λb3=>?_
 refine gc (LK lv xs a c ps M hc hs hp hb ao) ?_;rintro _ M1 y G
 rw[if_pos F]at G
 obtain⟨s6,rfl,D⟩:=G
 obtain⟨l,g,rfl,a5,a4⟩:=id D
 simp only[nil_append]
 refine gt ?_
 refine Cz (α:=Nat×Mem×Lc) (λx=>[(0,pB o),(3,pB b3),(6,.slice l (Je lv xs).length g),(19,.slice a xs.length c),(20,.int .i64 xs.length),(21,.int .i64 x.1)]) (λx=>x.2.1) (λx=>(b3,cE [.int .i64 lv,.slice a xs.length c] 135)::x.2.2) (λx=>x.1<=xs.length/\MLe M1 x.2.1/\BOwn x.2.1 o x.2.2 (Ag s (xs.take x.1))) (λx=>xs.length-x.1) (0,M1,Lb) ⟨Nat.zero_le _,MLe.refl _,a0.mono y⟩ ?_
 rintro⟨k,L,Lk⟩ ⟨hk,b,B⟩
 try dsimp only at hk b B⊢
 refine gj (λa2=>?_) λa2=>?_
 ·refine gh ?_
  have f:k<xs.length:=by omega
  have aa:=hs.mono (y.trans b)
  have aw:=λp hp=>(hb p hp).mono (y.trans b)
  obtain⟨sb,so,I,T⟩:=aa.open (by intro e;have:=congrArg length e;rw[Aj Ac 5 Ad,length_nil]at this;have h2:=congrArg length hp;rw[length_map]at h2;omega)
  subst I
  obtain⟨va,vc,av,aA,a9⟩:=Au T hp aw f
  have a7:=r.ref xs[k] (getElem_mem f)
  have H:=(CB s (xs.take k)).1
  refine gh ?_
  refine lq (Bb (cs:=Fk xs[k] va vc) rfl rfl rfl rfl rfl (λi v Z=>(av i v Z).cj _)) ?_
  refine gA λb8=>?_
  refine gj (λn=>?_) λn=>?_
  ·refine gh ?_
   refine Bw (k+1,L,Lk) ⟨by show k+1<=xs.length;omega,b,by show BOwn _ _ _ (Ag s (xs.take (k+1)));rw[EB f,if_pos n];exact B⟩
  refine gh ?_
  have am:((xs[k].ref.toNat:Nat):Int)=xs[k].ref:=Int.toNat_of_nonneg (by omega)
  refine lh (Bu rfl rfl rfl rfl rfl (by kernel_rfl) (by have:=Nv (Ag s (xs.take k)) xs[k].ref.toNat o (by omega) (ab k f n) L Lk B;rwa[am]at this)) ?_;rintro _ Mn _ ⟨ay,R',rfl,⟨rfl,az⟩⟩
  refine gt ?_
  refine Bw (k+1,Mn,R') ⟨by show k+1<=xs.length;omega,b.trans ay,by show BOwn _ _ _ (Ag s (xs.take (k+1)));rw[EB f,if_neg n];exact az⟩ (hs:=λw h=>(h.perm List.perm_append_comm).fewer (by simp))
 refine gh ?_
 obtain rfl:k=xs.length:=by omega
 rw[take_length]at B
 obtain⟨t,ht⟩:∃t,t=Ag s xs:=⟨_,rfl⟩
 obtain⟨af,ae,ad,ac⟩:=CB s xs
 rw[<-ht]at B ax af ae ad ac
 obtain⟨bv,wv,na,S,lw,Rw,Rn,rfl,g2,g3,g4,g5⟩:=B
 obtain⟨wa,wc,rfl⟩:=g5.form
 have aC:t.now.length=256:=by omega
 have aD:t.last.length=256:=by grind
 have aB:t.waits.length<4096:=by grind
 obtain⟨Q,a3,C,I,e1,_⟩:=g4.open (by omega)
 cases I;cases e1
 obtain⟨la,lc,rfl,aF,ak⟩:=id g3
 obtain⟨lb,lo,I,aj⟩:=ak.open (by intro e;have:=congrArg length e;rw[Af,length_nil]at this;omega)
 subst I
 refine Cz (α:=Nat) (λj=>[(0,pB o),(4,.int .i64 (j:Int)),(6,.slice l (Je lv xs).length g)]) (λ_=>L) (λ_=>(b3,cE [.int .i64 lv,.slice a xs.length c] 135)::(o,cE [bv,.slice wa t.waits.length wc,.slice (some ⟨Q,0,none⟩) t.now.length S,.slice (some ⟨lb,lo,none⟩) t.last.length lc] Ee)::(Rw++[(Q,.cells C 5 (0,0))])) (λj=>j<=256/\frAt t (256-j) j=mkAt t) (λj=>256-j) 8 ⟨by omega,rfl⟩ ?_
 rintro j ⟨hj,hI⟩
 try dsimp only at hj hI⊢
 have E:Uh .u8 ((t.now.getD j 0).toNat:Int) ((t.last.getD j 0).toNat:Int)=((t.now.getD j 0 ||| t.last.getD j 0).toNat:Int):=Wb _ _
 refine gh ?_
 refine JG [0,1,2,3,4,5,6,7,8,9,10,11,12,13,14,15,16,17,18,19,20,21] ?_
 refine gj (λa1=>?_) λa1=>?_
 ·refine gh ?_
  have ap:(Ab t.now)[j]? =some (.int .u8 ((t.now.getD j 0).toNat:Int)):=Cc (by omega)
  have aq:(Ab t.last)[j]? =some (.int .u8 ((t.last.getD j 0).toNat:Int)):=Cc (by omega)
  refine dq rfl (AE rfl rfl rfl rfl (by rw[Nat.mul_one,Nat.zero_add];exact g4.cj (by simp) ap)) ?_
  refine gh ?_
  refine dq rfl (AE rfl rfl rfl rfl ((aj _ _ (by rw[Nat.mul_one];exact aq)).cj _)) ?_
  refine dq rfl (F5 rfl rfl rfl rfl rfl) ?_
  refine gj (λz=>?_) λz=>?_
  ·refine gh ?_
   have ah:¬Fm t j:=λhf=>z (by rw[E,(Kf _ _).2 hf];rfl)
   refine Bw (j+1) ⟨by omega,by rw[<-Xf (by omega) ah];exact hI⟩
  refine gt ?_
  refine lh (Aa (cs:=[_,_]) rfl rfl rfl (by rfl) (by rfl) (by rfl)) ?_;rintro _ _ _ ⟨aJ,rfl,rfl,rfl⟩
  obtain⟨N,Y,X,V⟩:=id g5
  have aH:Fm t j:=(Kf _ _).1 (UInt8.toNat.inj (by have:=Classical.not_not.1 z;rw[E]at this;simpa using this))
  have au:mkAt t=j:=by grind[Xg]
  refine lh (Tz (R:=Rw) (m:=1) (news:=[.int .i64 (j:Int),.slice l (Je lv xs).length g]) rfl rfl rfl rfl V rfl (λi v Z=>CJ.loc (by simpa using Z)) rfl (by rfl) (by simp[Value.oneCell']) (by omega) (by omega) (by omega)) ?_;rintro _ _ _ ⟨rfl,J,rfl,d⟩
  obtain⟨P,O,rfl⟩:=d.form
  refine gh ?_
  refine Dz rfl (CZ (u:=.int .u8 1) rfl rfl rfl rfl rfl rfl g4 rfl (by omega)) ?_;rintro _ _ _ ⟨rfl,K,rfl,ag⟩
  refine gh ?_
  refine AK (M':=L) (L':=(o,cE [bv,.slice P (t.waits.length+1) O,.slice (some ⟨Q,0,none⟩) t.now.length S,.slice (some ⟨lb,lo,none⟩) t.last.length lc] Ee)::(J++K)) (λw h=>?_) ?_
  ·have h2:=h.perm wLd
   exact h2.fewer (.cons _ (.cons _ (.refl _)))
  refine wFo rfl rfl rfl ?_
  have hT:mkS s lv xs=Jc t j (Je lv xs):=by grind[mkS]
  refine⟨by rw[<-ht,au],?_⟩
  rw[hT]
  have H:(Jc t j (Je lv xs)).now.length=t.now.length:=by grind[Jc]
  have U:(Jc t j (Je lv xs)).waits.length=t.waits.length+1:=by grind[Jc]
  refine⟨bv,_,_,S,_,J,K,by rw[H],g2,g3,?_,N++[(((j:Int),Je lv xs),.slice l (Je lv xs).length g)],?_,?_,.inl ?_⟩
  ·simp_all [Ab,Jc,Je]
  ·rw [List.map_append,Y];rfl
  ·intro p hp;rcases List.mem_append.1 hp with hp|hp
   ·exact X p hp
   rw[List.mem_singleton.1 hp];exact D.mono b
  rw[U,List.flatMap_append];exact d
 exfalso;obtain rfl:j=256:=by omega
 have:mkAt t=256:=hI.symm
 omega
end Go.Proofs.YtdahhoicackcaaaGreat
