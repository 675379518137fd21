/- Walks: a bench that is written: blocks shared, nodes made. -/
import Derived.Test.YtjheijhahehnmaaGreatDoorZHn
import Derived.Test.YtjheijhahehnmaaGreatDoorZSp
namespace Go.Proofs.YtjheijhahehnmaaGreatDoor
open Go.Proofs.Tryz
open List (length_append length length_map length_nil take_length replicate nil_append getElem_mem)
set_option linter.unusedSimpArgs false
set_option linter.unusedVariables false
set_option linter.unusedSectionVars false
set_option maxHeartbeats 40000000
set_option maxRecDepth 8000
open Go.RowKit
def bU(x:Int):By:=UInt8.ofNat (x%256).toNat
theorem FA(x:Int):IntKind.u8.wrap x=((bU x).toNat:Int):=by
 rw[IntKind.wrap_u8];unfold bU;have:(x%256).toNat<256:=by omega
 rw[UInt8.toNat_ofNat_of_lt' (by simpa using this)];omega
def CB(n:Int):List By:=[bU n,bU (D6 .u32 n 8),bU (D6 .u32 n 16),bU (D6 .u32 n 24)]
def Kj(n:Int):List By:=[bU n,bU (D6 .i64 n 8)]
theorem Ba(n:Int)(M:Mem):
  SpecL prog 237 #[.int .u32 n] M [] λu d e=>BS d u (CB n)/\e=[]:=by
 refine sB func237 ntmps237 ?_;intro W;refine gh ?_;refine lq (Bh (Bn rfl rfl rfl) (by rw[FA])) ?_;refine gh ?_;refine lq (DR rfl rfl rfl rfl (by omega) rfl) ?_;refine lq (Bh (Bn rfl rfl rfl) (by rw[FA])) ?_;refine gh ?_;refine lq (DR rfl rfl rfl rfl (by omega) rfl) ?_;refine lq (Bh (Bn rfl rfl rfl) (by rw[FA])) ?_;refine gh ?_;refine lq (DR rfl rfl rfl rfl (by omega) rfl) ?_;refine lq (Bh (Bn rfl rfl rfl) (by rw[FA])) ?_;refine lh (Ab (cs:=[_,_,_,_]) rfl rfl rfl (by rfl) (by rfl) (by rfl)) ?_;rintro _ _ _ ⟨a,rfl,rfl,rfl⟩;refine gh ?_;refine AF a (by simp) ?_;intro f b c;refine gr ?_;exact⟨⟨some ⟨a,0,none⟩,4,rfl,Nat.le_refl _,SM.of_block (l:=Aa (CB n)) c⟩,rfl⟩
theorem Vn(n:Int)(M:Mem)(h:0<=n/\n<65536):
  SpecL prog 236 #[.int .i64 n] M [] λu f g=>(∃s,u=.tuple #[s,.int .i64 0]/\BS f s (Kj n))/\g=[]:=by
 have b:D6 .i64 n 16=0:=by unfold D6;rw[show (2:Int) ^ (min 16 IntKind.i64.bits)=65536 by decide,Int.fdiv_eq_ediv_of_nonneg _ (by decide)];omega
 refine sB func236 ntmps236 ?_;intro W;refine gh ?_;refine lq (DR rfl rfl rfl rfl (by omega) rfl) ?_;refine jf rfl (decide_eq_false (by first|omega|exact λe=>e b)) ?_;refine gh ?_;refine lq (Bh (Bn rfl rfl rfl) (by rw[FA])) ?_;refine gh ?_;refine lq (DR rfl rfl rfl rfl (by omega) rfl) ?_;refine lq (Bh (Bn rfl rfl rfl) (by rw[FA])) ?_;refine lh (Ab (cs:=[_,_]) rfl rfl rfl (by rfl) (by rfl) (by rfl)) ?_;rintro _ _ _ ⟨a,rfl,rfl,rfl⟩;refine gh ?_;refine AF a (by simp) ?_;intro i c d;refine gr ?_;exact⟨⟨_,rfl,some ⟨a,0,none⟩,2,rfl,Nat.le_refl _,SM.of_block (l:=Aa (Kj n)) d⟩,rfl⟩
theorem wPj(M:Mem):
  SpecL prog 268 #[.slice none 0 0,.int .i64 0] M [] λu b a=>Own u a 5 1 0 []:=by
 refine sB func268 ntmps268 ?_;intro W;refine gt ?_;refine lq (T1 rfl rfl rfl) ?_;refine gu ?_;grind[Own.nil]
theorem wGv(n:Nat)(M:Mem)(h:0<n)(f:n<=1000000000):
  SpecL prog 268 #[.slice none 0 0,.int .i64 n] M [] λu j i=>Own u i 5 1 0 []:=by
 refine sB func268 ntmps268 ?_;intro W;refine gt ?_;refine lq (T1 rfl rfl rfl) ?_;refine gt ?_;refine lq (T1 rfl rfl rfl) ?_;refine lq (Bh (CL rfl rfl rfl (.no _) (.of (v:=0) rfl (by omega) rfl) (.no _) (by omega) (by simp)) (v':=.slice none 0 0) (by rw[AU])) ?_;refine gh ?_;refine lh (wPe (n:=n) rfl rfl rfl (by simp[show (n:Int)-(0-0)=n by omega];rfl) h f (by omega)) ?_;rintro _ _ _ ⟨rfl,b,a,e,rfl,rfl,g,d,c⟩;refine gh ?_;refine lq (Bh (CL rfl rfl rfl (.no _) (.of (v:=0) rfl (by omega) rfl) (.no _) (by omega) (by simp)) (v':=.slice (some ⟨b,0,none⟩) 0 a) (by rw[AU];rfl)) ?_;refine jp rfl ?_;refine Ai (jT (Ah (Af ?_)));iterate 2 refine jp rfl ?_
 refine Ai (jT (Bq ?_));refine FX rfl rfl ?_;exact⟨rfl,.inr ⟨b,a,e,rfl,rfl,Nat.zero_le _,d,by rw[c,Nat.mul_one],by simp⟩⟩
theorem wGu(n:Nat)(M:Mem)(b:n<=1000000000):SpecL prog 268 #[.slice none 0 0,.int .i64 n] M [] λu _ a=>Own u a 5 1 0 []:=by
 grind[wPj,wGv]
variable{bs:List (List By)}{k:Nat}
theorem GV(h:k<bs.length):(bs.take (k+1)).flatten=(bs.take k).flatten++bs[k]:=by
 rw[List.take_succ_eq_append_getElem h,List.flatten_append];simp
theorem PD(k:Nat):(bs.take k).flatten.length<=bs.flatten.length:=by
 conv=>rhs;rw[<-List.take_append_drop k bs,List.flatten_append,length_append]
 omega
theorem Xw(bs:List (List By))(a:Option Addr)(c:Nat)(ps:List (List By×Value))(M:Mem)(U:bs.length<=c)(hs:SM M a (ps.map (·.2)))(m:ps.map (·.1)=bs)(E:∀p∈ps,BS M p.2 p.1)(T:bs.length<=1000)(S:bs.flatten.length<=1000000):
  SpecL prog 175 #[.slice a bs.length c] M [] λu V P=>Own u P 5 1 bs.flatten.length (Aa bs.flatten):=by
 refine sB func175 ntmps175 ?_;intro W;refine gh ?_;refine CC (α:=Nat) (λk=>[(0,.slice a bs.length c),(3,.int .i64 ((bs.take k).flatten.length:Int)),(9,.slice a bs.length c),(10,.int .i64 bs.length),(11,.int .i64 k)]) (λ_=>M) (λ_=>[]) (λk=>k<=bs.length) (λk=>bs.length-k) 0 (Nat.zero_le _) ?_;rintro k hk;try dsimp only at hk⊢
 have y:=PD (bs:=bs) k;refine gj (λC=>?_) λC=>?_
 ·refine gh ?_;have b:k<bs.length:=by omega
  obtain⟨I,H,D,n⟩:=hs.open (by intro e;have:=congrArg length e;rw[length_map,length_nil]at this;have B:=congrArg length m;rw[length_map]at B;omega);subst D;obtain⟨G,F,i,o,j⟩:=CX n m E b;have d:=congrArg length (GV b);rw[length_append]at d;have w:=PD (bs:=bs) (k+1);refine gh ?_;refine lq (Au rfl rfl rfl rfl (i.cj _)) ?_;refine gt ?_;refine BD (k+1) (by show k+1<=bs.length;omega) (hk:=(Keep.cons (t:=0) rfl (Keep.ceq (t:=3) rfl (by rw[d];rfl) (Keep.cons (t:=9) rfl (Keep.cons (t:=10) rfl (Keep.cons (t:=11) rfl Keep.nil))))))
 refine gh ?_;obtain rfl:k=bs.length:=by omega
 rw[take_length];refine gC (wGu bs.flatten.length M (by omega)) ?_;rintro _ O L l g;refine gh ?_;refine CC (α:=Nat×Lc×Value) (λx=>[(6,x.2.2),(25,.slice a bs.length c),(26,.int .i64 bs.length),(27,.int .i64 x.1)]) (λ_=>O) (λx=>x.2.1) (λx=>x.1<=bs.length/\Own x.2.2 x.2.1 5 1 (bs.take x.1).flatten.length (Aa (bs.take x.1).flatten)) (λx=>bs.length-x.1) (0,L,_) ⟨Nat.zero_le _,by simpa [Aa]using g⟩ ?_;rintro⟨k,R,s⟩ ⟨hk,f⟩;try dsimp only at hk f⊢
 have y:=PD (bs:=bs) k;refine gj (λz=>?_) λz=>?_
 ·refine gh ?_;have b:k<bs.length:=by omega
  obtain⟨I,H,D,n⟩:=hs.open (by intro e;have:=congrArg length e;rw[length_map,length_nil]at this;have B:=congrArg length m;rw[length_map]at B;omega);subst D;obtain⟨G,F,i,o,j⟩:=CX n m E b;have d:=congrArg length (GV b);rw[length_append]at d;have w:=PD (bs:=bs) (k+1);refine gh ?_;refine lq (Au rfl rfl rfl rfl ((i.mono l).cj _)) ?_;refine gh ?_;refine lh (Eh (R:=R) (news:=Aa bs[k]) rfl rfl rfl rfl f (by rw[Ad,Nat.mul_one]) (j.mono l) (by rfl) (BM _) (by omega) (by omega)) ?_;rintro Q _ _ ⟨rfl,N,rfl,h⟩;obtain⟨K,J,rfl⟩:=h.form;refine gh ?_;refine BD (k+1,N,.slice K _ J) ⟨by show k+1<=bs.length;omega,?_⟩;grind[Own,Aa,GV]
 refine Ai (jT (Ah (DM rfl (Gi (wBo (wBo (wXd (jT (Ah (Af ?_))))))))));iterate 2 refine jp rfl ?_
 refine Ai (jT (Bq ?_));refine FX rfl rfl ?_;grind
theorem D2(bs:List (List By))(v:Value)(M:Mem)(h:LS M v bs)(i:bs.length<=1000)(e:bs.flatten.length<=1000000):SpecL prog 175 #[v] M [] λu _ b=>Own u b 5 1 bs.flatten.length (Aa bs.flatten):=by
 obtain⟨a,c,d,rfl,j,f,g,k⟩:=h;grind[Xw]
def GK(b:List By):List By:=b++replicate (124-b.length) 0
def Kr(b:List By):List By:=CB (Kq (GK b))++GK b
variable{b:List By}
theorem Wd(h:b.length<=124):(GK b).length=124:=by grind[GK]
theorem JW(h:b.length<=124):(Kr b).length=128:=by unfold Kr;rw[length_append,Wd h];rfl
theorem wEu(h:b.length<=124):((replicate (124:Int).toNat [Value.int .u8 0]).flatten).take 0++Aa b++((replicate (124:Int).toNat [Value.int .u8 0]).flatten).drop (0+(Aa b).length)=Aa (GK b):=by
 have e:(replicate (124:Int).toNat [Value.int .u8 0]).flatten=replicate 124 (Value.int .u8 0):=by simp
 rw[e,Ad,List.take_zero,nil_append,Nat.zero_add,List.drop_replicate];simp_all [GK,Aa]
variable{M:Mem}
theorem LS.two{b:Nat}{u v:Value}{x y:List By}(h:M b=some (cE [u,v] 26))(d:BS M u x)(c:BS M v y):LS M (.slice (some ⟨b,0,none⟩) 2 2) [x,y]:=
 ⟨_,2,[(x,u),(y,v)],rfl,Nat.le_refl _,SM.of_block (l:=[u,v]) h,rfl,λp a=>by
  rcases List.mem_cons.1 a with rfl|a
  ·exact d
  rw[List.mem_singleton.1 a];exact c⟩
theorem wDy(b:List By)(a:Option Addr)(c:Nat)(M:Mem)(L:b.length<=c)(hs:SM M a (Aa b))(h:b.length<=124):
  SpecL prog 160 #[.slice a b.length c] M [] λu J K=>(∃s,u=.tuple #[s,.int .i64 0]/\BS J s (Kr b))/\K=[]:=by
 refine sB func160 ntmps160 ?_;intro W;refine gt ?_;refine lh (D1 rfl rfl rfl rfl (by omega) (by rfl)) ?_;rintro _ _ _ ⟨m,rfl,rfl,rfl⟩;refine gh ?_;refine lh (WQ (cs:=Aa b) rfl rfl rfl rfl (by rw[Ad];show _=min b.length 124;omega) (hs.sj _) (BM _) (by rw[Ad];show 0+b.length<=124;omega)) ?_;rintro _ _ _ ⟨rfl,rfl,rfl⟩;rw[wEu h];refine gh ?_;refine Az m (by simp) ?_;intro g D w;have d:=Wd h;have j:BS g (.slice (some ⟨m,0,none⟩) (124:Int).toNat (124:Int).toNat) (GK b):=⟨_,_,by rw[d];rfl,by rw[d];exact Nat.le_refl _,SM.of_block w⟩;have i:SM g (some ⟨m,0,none⟩) (Aa (GK b)):=SM.of_block w;refine gq (by have:=T5 _ (124:Int).toNat (GK b) g i (by omega);rw[d]at this;exact this) ?_;refine gc (Ba _ g) ?_;rintro _ R l o;obtain⟨O,N,rfl,_,_⟩:=id o;simp only[nil_append];refine gh ?_;refine lh (Ab (cs:=[_,_]) rfl rfl rfl (by rfl) (by rfl) (by rfl)) ?_;rintro _ _ _ ⟨n,rfl,rfl,rfl⟩;refine Az n (by simp) ?_;intro I f F;have k:=LS.two F (o.mono f) (j.mono (l.trans f));refine gC (D2 _ _ I k (by simp) (by simp[d,CB])) ?_;rintro _ Q _ C e;refine gh ?_;refine BK e (by simp) ?_;intro P H G B E z y;subst E;refine gr ?_;refine⟨⟨_,rfl,H,G,?_,?_,?_⟩,rfl⟩
 ·simp [Kr]
 ·grind [Kr]
 grind[Kr]
def GA(x:It):List By:=[bU x.key.kind]++CB x.key.id++CB x.key.off++Kj x.ref++[bU x.val.length]++x.val
variable{u1:Value}{x1:List By}
theorem LS.six{b:Nat}{f e d c a:Value}{m k j i g:List By}(h:M b=some (cE [u1,f,e,d,c,a] 26))(z:BS M u1 x1)(y:BS M f m)(w:BS M e k)(u:BS M d j)(s:BS M c i)(o:BS M a g):LS M (.slice (some ⟨b,0,none⟩) 6 6) [x1,m,k,j,i,g]:=
 ⟨_,6,[(x1,u1),(m,f),(k,e),(j,d),(i,c),(g,a)],rfl,Nat.le_refl _,SM.of_block (l:=[u1,f,e,d,c,a]) h,rfl,λp n=>by
  simp only[List.mem_cons,List.not_mem_nil,or_false]at n
  rcases n with rfl|rfl|rfl|rfl|rfl|rfl<;>assumption⟩
variable{n:Int}
theorem FG{b:Nat}(h:0<=n/\n<256)(e:M b=some (cE [.int .u8 n] 5)):BS M (.slice (some ⟨b,0,none⟩) 1 1) [bU n]:=
 ⟨_,1,rfl,Nat.le_refl _,SM.of_block (l:=Aa [bU n]) (by
  have:((bU n).toNat:Int)=n:=by rw[<-FA,IntKind.wrap_u8];omega
  simp only[Aa,List.map,this];exact e)⟩
theorem WE(x:It)(K:Option Addr)(J:Nat)(M:Mem)(Q:x.val.length<=J)(P:SM M K (Aa x.val))(ah:BB x=false)(hk:0<=x.key.kind/\x.key.kind<256):
  SpecL prog 159 #[.agg (E1 x K J).toArray] M [] λu M' L'=>(∃s,u=.tuple #[s,.int .i64 0]/\BS M' s (GA x))/\L'=[]:=by
 have aj:Cd x=0:=by grind[Cd]
 have ak:¬(x.ref≠0/\(x.ref<8\/256<=x.ref)\/12<x.val.length):=by grind[BB]
 refine sB func159 ntmps159 ?_;intro W;refine ga λb1=>?_;refine gQ (CT x _ M ⟨K,J,rfl,Q,P⟩) ?_;refine gt ?_;refine gc (Vn x.ref M (by omega)) ?_;rintro _ M1 Y ⟨s2,rfl,R⟩;refine gh ?_;refine AV ([(b1,cE (E1 x K J) IT)]) (by kernel_rfl) (λ_ h=>h) ?_;refine gk [0,1,2,4,5,6,8,9,10,12,13,14,15] ?_;refine Et (i:=16) rfl (by kernel_rfl) (by kernel_rfl) rfl rfl (Bh (Bn rfl rfl rfl) (by rw[FA])) ?_;refine gk [18,19] ?_;refine Eg (α:=Mem×Value×Value×Value×Value) (λy=>MLe M1 y.1/\BS y.1 y.2.1 [bU x.key.kind]/\BS y.1 y.2.2.1 (CB x.key.id)/\BS y.1 y.2.2.2.1 (CB x.key.off)/\BS y.1 y.2.2.2.2 [bU x.val.length]) (λy=>[(21,y.2.1),(25,y.2.2.1),(29,y.2.2.2.1),(30,s2),(35,y.2.2.2.2),(37,.slice K x.val.length J)]) (λy=>y.1) (λ_=>[(b1,cE (E1 x K J) IT)]) 4 #[true,true,true,true,true,true,true,true,true,true,true,true,true,true,true,true,true,true,true,true,false,false,false,false] ?_ (λk=>?_)
 ·rintro ⟨Mr,v3,O,z,ac⟩ ⟨F,N,L,H,G⟩;try dsimp only at F N L H G⊢
  obtain⟨a3,k3,rfl,_,_⟩:=id N;obtain⟨a7,k7,rfl,_,_⟩:=id L;obtain⟨ap,af,rfl,_,_⟩:=id H;obtain⟨ao,ae,rfl,_,_⟩:=id G;obtain⟨am,ad,rfl,_,_⟩:=id R;refine aO 20 ?_;refine sh rfl (Ab (cs:=[_,_,_,_,_,_]) rfl rfl rfl (by rfl) (by rfl) (by rfl)) ?_;rintro _ _ _ ⟨aa,rfl,rfl,rfl⟩;refine aG (F) ?_;refine AW aa (by simp) (by simp) ?_;intro ab B Z;have X:=LS.six Z (N.mono B) (L.mono B) (H.mono B) ((R.mono F).mono B) (G.mono B) ⟨K,J,rfl,Q,P.mono (Y.trans (F.trans B))⟩;refine aO 21 ?_;refine sh rfl (hC (D2 _ _ ab X (by simp) (by simp[CB,Kj];omega))) ?_;rintro _ au _ ⟨T,aq,rfl,S⟩;refine aG ((F.trans B).trans T) ?_;refine gk [22,23] ?_;refine FP (by kernel_rfl) ?_;refine gh ?_;refine BK S (by simp) ?_;intro M5 a5 c5 al e5 ai ag;subst e5;refine AB (L':=[]) (by simp) ?_;refine gr ?_;refine⟨⟨_,rfl,a5,c5,?_,?_,?_⟩,rfl⟩
  ·simp [GA]
  ·grind [GA]
  grind[GA]
 refine Bf [3,7,17] (by kernel_rfl) rfl ⟨?_,?_,?_,trivial⟩
 ·refine sh rfl (Ab (cs:=[_]) rfl rfl rfl (by rfl) (by rfl) (by rfl)) ?_;rintro _ _ _ ⟨n,rfl,rfl,rfl⟩;refine aG (MLe.refl _) ?_;refine AW n (by simp) (by simp) ?_;intro I c E;have j:=FG hk E;refine Bf [7,17] (by kernel_rfl) rfl ⟨?_,?_,trivial⟩
  ·refine sh rfl (hC (Ba x.key.id _)) ?_;rintro O V _ ⟨d,U,rfl,w,rfl⟩;refine aG ((c).trans d) ?_;simp only[nil_append];refine Bf [11,17] (by kernel_rfl) rfl ⟨?_,?_,trivial⟩
   ·refine sh rfl (hC (Ba x.key.off _)) ?_;rintro z D _ ⟨a,C,rfl,e,rfl⟩;refine aG (((c.trans d)).trans a) ?_;simp only[nil_append];refine aO 17 ?_;refine sh rfl (Ab (cs:=[_]) rfl rfl rfl (by rfl) (by rfl) (by rfl)) ?_;rintro _ _ _ ⟨g,rfl,rfl,rfl⟩;refine aG ((c.trans (d.trans a))) ?_;refine AW g (by simp) (by simp) ?_;intro o b m;have f:BS o (.slice (some ⟨g,0,none⟩) 1 1) [bU x.val.length]:=⟨_,1,rfl,Nat.le_refl _,SM.of_block (l:=Aa [bU x.val.length]) m⟩;exact aR k (_,_,_,_,_) ⟨(c.trans (d.trans (a.trans b))),j.mono ((d.trans (a.trans b))),w.mono ((a.trans b)),e.mono (b),f.mono (MLe.refl _)⟩
   refine sh rfl (Ab (cs:=[_]) rfl rfl rfl (by rfl) (by rfl) (by rfl)) ?_;rintro _ _ _ ⟨g,rfl,rfl,rfl⟩;refine aG ((c.trans d)) ?_;refine AW g (by simp) (by simp) ?_;intro o b m;have f:BS o (.slice (some ⟨g,0,none⟩) 1 1) [bU x.val.length]:=⟨_,1,rfl,Nat.le_refl _,SM.of_block (l:=Aa [bU x.val.length]) m⟩;refine aO 11 ?_;refine sh rfl (hC (Ba x.key.off _)) ?_;rintro z D _ ⟨a,C,rfl,e,rfl⟩;refine aG (((c.trans (d.trans b))).trans a) ?_;simp only[nil_append];exact aR k (_,_,_,_,_) ⟨(c.trans (d.trans (b.trans a))),j.mono ((d.trans (b.trans a))),w.mono ((b.trans a)),e.mono (MLe.refl _),f.mono (a)⟩
  refine sh rfl (Ab (cs:=[_]) rfl rfl rfl (by rfl) (by rfl) (by rfl)) ?_;rintro _ _ _ ⟨g,rfl,rfl,rfl⟩;refine aG (c) ?_;refine AW g (by simp) (by simp) ?_;intro o b m;have f:BS o (.slice (some ⟨g,0,none⟩) 1 1) [bU x.val.length]:=⟨_,1,rfl,Nat.le_refl _,SM.of_block (l:=Aa [bU x.val.length]) m⟩;refine aO 7 ?_;refine sh rfl (hC (Ba x.key.id _)) ?_;rintro O V _ ⟨d,U,rfl,w,rfl⟩;refine aG (((c.trans b)).trans d) ?_;simp only[nil_append];refine aO 11 ?_;refine sh rfl (hC (Ba x.key.off _)) ?_;rintro z D _ ⟨a,C,rfl,e,rfl⟩;refine aG (((c.trans (b.trans d))).trans a) ?_;simp only[nil_append];exact aR k (_,_,_,_,_) ⟨(c.trans (b.trans (d.trans a))),j.mono ((b.trans (d.trans a))),w.mono (a),e.mono (MLe.refl _),f.mono ((d.trans a))⟩
 ·refine sh rfl (hC (Ba x.key.id _)) ?_;rintro O V _ ⟨d,U,rfl,w,rfl⟩;refine aG (d) ?_;simp only[nil_append];refine Bf [3,11,17] (by kernel_rfl) rfl ⟨?_,?_,?_,trivial⟩
  ·refine sh rfl (Ab (cs:=[_]) rfl rfl rfl (by rfl) (by rfl) (by rfl)) ?_;rintro _ _ _ ⟨n,rfl,rfl,rfl⟩;refine aG (d) ?_;refine AW n (by simp) (by simp) ?_;intro I c E;have j:=FG hk E;refine Bf [11,17] (by kernel_rfl) rfl ⟨?_,?_,trivial⟩
   ·refine sh rfl (hC (Ba x.key.off _)) ?_;rintro z D _ ⟨a,C,rfl,e,rfl⟩;refine aG (((d.trans c)).trans a) ?_;simp only[nil_append];refine aO 17 ?_;refine sh rfl (Ab (cs:=[_]) rfl rfl rfl (by rfl) (by rfl) (by rfl)) ?_;rintro _ _ _ ⟨g,rfl,rfl,rfl⟩;refine aG ((d.trans (c.trans a))) ?_;refine AW g (by simp) (by simp) ?_;intro o b m;have f:BS o (.slice (some ⟨g,0,none⟩) 1 1) [bU x.val.length]:=⟨_,1,rfl,Nat.le_refl _,SM.of_block (l:=Aa [bU x.val.length]) m⟩;exact aR k (_,_,_,_,_) ⟨(d.trans (c.trans (a.trans b))),j.mono ((a.trans b)),w.mono ((c.trans (a.trans b))),e.mono (b),f.mono (MLe.refl _)⟩
   refine sh rfl (Ab (cs:=[_]) rfl rfl rfl (by rfl) (by rfl) (by rfl)) ?_;rintro _ _ _ ⟨g,rfl,rfl,rfl⟩;refine aG ((d.trans c)) ?_;refine AW g (by simp) (by simp) ?_;intro o b m;have f:BS o (.slice (some ⟨g,0,none⟩) 1 1) [bU x.val.length]:=⟨_,1,rfl,Nat.le_refl _,SM.of_block (l:=Aa [bU x.val.length]) m⟩;refine aO 11 ?_;refine sh rfl (hC (Ba x.key.off _)) ?_;rintro z D _ ⟨a,C,rfl,e,rfl⟩;refine aG (((d.trans (c.trans b))).trans a) ?_;simp only[nil_append];exact aR k (_,_,_,_,_) ⟨(d.trans (c.trans (b.trans a))),j.mono ((b.trans a)),w.mono ((c.trans (b.trans a))),e.mono (MLe.refl _),f.mono (a)⟩
  ·refine sh rfl (hC (Ba x.key.off _)) ?_;rintro z D _ ⟨a,C,rfl,e,rfl⟩;refine aG ((d).trans a) ?_;simp only[nil_append];refine Bf [3,17] (by kernel_rfl) rfl ⟨?_,?_,trivial⟩
   ·refine sh rfl (Ab (cs:=[_]) rfl rfl rfl (by rfl) (by rfl) (by rfl)) ?_;rintro _ _ _ ⟨n,rfl,rfl,rfl⟩;refine aG ((d.trans a)) ?_;refine AW n (by simp) (by simp) ?_;intro I c E;have j:=FG hk E;refine aO 17 ?_;refine sh rfl (Ab (cs:=[_]) rfl rfl rfl (by rfl) (by rfl) (by rfl)) ?_;rintro _ _ _ ⟨g,rfl,rfl,rfl⟩;refine aG ((d.trans (a.trans c))) ?_;refine AW g (by simp) (by simp) ?_;intro o b m;have f:BS o (.slice (some ⟨g,0,none⟩) 1 1) [bU x.val.length]:=⟨_,1,rfl,Nat.le_refl _,SM.of_block (l:=Aa [bU x.val.length]) m⟩;exact aR k (_,_,_,_,_) ⟨(d.trans (a.trans (c.trans b))),j.mono (b),w.mono ((a.trans (c.trans b))),e.mono ((c.trans b)),f.mono (MLe.refl _)⟩
   refine sh rfl (Ab (cs:=[_]) rfl rfl rfl (by rfl) (by rfl) (by rfl)) ?_;rintro _ _ _ ⟨g,rfl,rfl,rfl⟩;refine aG ((d.trans a)) ?_;refine AW g (by simp) (by simp) ?_;intro o b m;have f:BS o (.slice (some ⟨g,0,none⟩) 1 1) [bU x.val.length]:=⟨_,1,rfl,Nat.le_refl _,SM.of_block (l:=Aa [bU x.val.length]) m⟩;refine aO 3 ?_;refine sh rfl (Ab (cs:=[_]) rfl rfl rfl (by rfl) (by rfl) (by rfl)) ?_;rintro _ _ _ ⟨n,rfl,rfl,rfl⟩;refine aG ((d.trans (a.trans b))) ?_;refine AW n (by simp) (by simp) ?_;intro I c E;have j:=FG hk E;exact aR k (_,_,_,_,_) ⟨(d.trans (a.trans (b.trans c))),j.mono (MLe.refl _),w.mono ((a.trans (b.trans c))),e.mono ((b.trans c)),f.mono (c)⟩
  refine sh rfl (Ab (cs:=[_]) rfl rfl rfl (by rfl) (by rfl) (by rfl)) ?_;rintro _ _ _ ⟨g,rfl,rfl,rfl⟩;refine aG (d) ?_;refine AW g (by simp) (by simp) ?_;intro o b m;have f:BS o (.slice (some ⟨g,0,none⟩) 1 1) [bU x.val.length]:=⟨_,1,rfl,Nat.le_refl _,SM.of_block (l:=Aa [bU x.val.length]) m⟩;refine Bf [3,11] (by kernel_rfl) rfl ⟨?_,?_,trivial⟩
  ·refine sh rfl (Ab (cs:=[_]) rfl rfl rfl (by rfl) (by rfl) (by rfl)) ?_;rintro _ _ _ ⟨n,rfl,rfl,rfl⟩;refine aG ((d.trans b)) ?_;refine AW n (by simp) (by simp) ?_;intro I c E;have j:=FG hk E;refine aO 11 ?_;refine sh rfl (hC (Ba x.key.off _)) ?_;rintro z D _ ⟨a,C,rfl,e,rfl⟩;refine aG (((d.trans (b.trans c))).trans a) ?_;simp only[nil_append];exact aR k (_,_,_,_,_) ⟨(d.trans (b.trans (c.trans a))),j.mono (a),w.mono ((b.trans (c.trans a))),e.mono (MLe.refl _),f.mono ((c.trans a))⟩
  refine sh rfl (hC (Ba x.key.off _)) ?_;rintro z D _ ⟨a,C,rfl,e,rfl⟩;refine aG (((d.trans b)).trans a) ?_;simp only[nil_append];refine aO 3 ?_;refine sh rfl (Ab (cs:=[_]) rfl rfl rfl (by rfl) (by rfl) (by rfl)) ?_;rintro _ _ _ ⟨n,rfl,rfl,rfl⟩;refine aG ((d.trans (b.trans a))) ?_;refine AW n (by simp) (by simp) ?_;intro I c E;have j:=FG hk E;exact aR k (_,_,_,_,_) ⟨(d.trans (b.trans (a.trans c))),j.mono (MLe.refl _),w.mono ((b.trans (a.trans c))),e.mono (c),f.mono ((a.trans c))⟩
 refine sh rfl (Ab (cs:=[_]) rfl rfl rfl (by rfl) (by rfl) (by rfl)) ?_;rintro _ _ _ ⟨g,rfl,rfl,rfl⟩;refine aG (MLe.refl _) ?_;refine AW g (by simp) (by simp) ?_;intro o b m;have f:BS o (.slice (some ⟨g,0,none⟩) 1 1) [bU x.val.length]:=⟨_,1,rfl,Nat.le_refl _,SM.of_block (l:=Aa [bU x.val.length]) m⟩;refine Bf [3,7] (by kernel_rfl) rfl ⟨?_,?_,trivial⟩
 ·refine sh rfl (Ab (cs:=[_]) rfl rfl rfl (by rfl) (by rfl) (by rfl)) ?_;rintro _ _ _ ⟨n,rfl,rfl,rfl⟩;refine aG (b) ?_;refine AW n (by simp) (by simp) ?_;intro I c E;have j:=FG hk E;refine aO 7 ?_;refine sh rfl (hC (Ba x.key.id _)) ?_;rintro O V _ ⟨d,U,rfl,w,rfl⟩;refine aG (((b.trans c)).trans d) ?_;simp only[nil_append];refine aO 11 ?_;refine sh rfl (hC (Ba x.key.off _)) ?_;rintro z D _ ⟨a,C,rfl,e,rfl⟩;refine aG (((b.trans (c.trans d))).trans a) ?_;simp only[nil_append];exact aR k (_,_,_,_,_) ⟨(b.trans (c.trans (d.trans a))),j.mono ((d.trans a)),w.mono (a),e.mono (MLe.refl _),f.mono ((c.trans (d.trans a)))⟩
 refine sh rfl (hC (Ba x.key.id _)) ?_;rintro O V _ ⟨d,U,rfl,w,rfl⟩;refine aG ((b).trans d) ?_;simp only[nil_append];refine Bf [3,11] (by kernel_rfl) rfl ⟨?_,?_,trivial⟩
 ·refine sh rfl (Ab (cs:=[_]) rfl rfl rfl (by rfl) (by rfl) (by rfl)) ?_;rintro _ _ _ ⟨n,rfl,rfl,rfl⟩;refine aG ((b.trans d)) ?_;refine AW n (by simp) (by simp) ?_;intro I c E;have j:=FG hk E;refine aO 11 ?_;refine sh rfl (hC (Ba x.key.off _)) ?_;rintro z D _ ⟨a,C,rfl,e,rfl⟩;refine aG (((b.trans (d.trans c))).trans a) ?_;simp only[nil_append];exact aR k (_,_,_,_,_) ⟨(b.trans (d.trans (c.trans a))),j.mono (a),w.mono ((c.trans a)),e.mono (MLe.refl _),f.mono ((d.trans (c.trans a)))⟩
 refine sh rfl (hC (Ba x.key.off _)) ?_;rintro z D _ ⟨a,C,rfl,e,rfl⟩;refine aG (((b.trans d)).trans a) ?_;simp only[nil_append];refine aO 3 ?_;refine sh rfl (Ab (cs:=[_]) rfl rfl rfl (by rfl) (by rfl) (by rfl)) ?_;rintro _ _ _ ⟨n,rfl,rfl,rfl⟩;refine aG ((b.trans (d.trans a))) ?_;refine AW n (by simp) (by simp) ?_;intro I c E;have j:=FG hk E;exact aR k (_,_,_,_,_) ⟨(b.trans (d.trans (a.trans c))),j.mono (MLe.refl _),w.mono ((a.trans c)),e.mono (c),f.mono ((d.trans (a.trans c)))⟩
def Dd(lv:Int)(xs:List It):List By:=[78,bU lv,bU xs.length]++xs.flatMap GA
def Ks(lv:Int)(xs:List It):List By:=Kr (Dd lv xs)
theorem wBp{x:It}(h:BB x=false):(GA x).length<=24:=by
 grind[BB,GA,CB,Kj]
theorem GQ:∀{xs:List It},(∀x∈xs,BB x=false)->(xs.flatMap GA).length<=24*xs.length
 |[],_=>by simp
 |x::xs,h=>by
  have c:=wBp (h x (by simp));have b:=GQ (λy a=>h y (List.mem_cons_of_mem _ a));grind
variable{lv:Int}{xs:List It}
theorem wMi(h:¬C0 lv xs≠0):CD lv xs=true:=by
 grind[CD,C0]
theorem Ts(h:k<xs.length):(xs.take (k+1)).flatMap GA=(xs.take k).flatMap GA++GA xs[k]:=by
 rw[List.take_succ_eq_append_getElem h,List.flatMap_append];simp
theorem NW(lv:Int)(xs:List It)(a:Option Addr)(c:Nat)(ps:List (It×Value))(M:Mem)(hc:xs.length<=c)(hs:SM M a (ps.flatMap Ae))(o:ps.map (·.1)=xs)(Y:∀p∈ps,BS M p.2 p.1.val)(N:∀x∈xs,0<=x.key.kind/\x.key.kind<256):
  SpecL prog 90 #[.agg #[.int .i64 lv,.slice a xs.length c]] M [] λu M' L'=>(if CD lv xs then ∃s,u=.tuple #[s,.int .i64 0]/\BS M' s (Ks lv xs)else u=.tuple #[.slice none 0 0,.int .i64 8])/\L'=[]:=by
 have L:NS M (.slice a xs.length c) xs:=⟨a,c,ps,rfl,hc,hs,o,Y⟩;refine sB func90 ntmps90 ?_;intro W;refine ga λb1=>?_;refine gQ (Gd lv xs _ M L) ?_;refine gj (λz=>?_) λz=>?_
 ·refine gh ?_;refine AB (L':=[]) (by simp) ?_;refine gr ?_;grind[CD,C0]
 refine gh ?_;have w:=wMi z;have l:=NdOk.of w;have ac:=l.lev;have X:=l.len;have h:=λx D=>(B5 l.ok x D).1;have ad:=GQ h;refine lq (Bh (Bn rfl rfl rfl) (by rw[FA])) ?_;refine gh ?_;refine lq (Bh (Bn rfl rfl rfl) (by rw[FA])) ?_;refine lh (Ab (cs:=[_,_,_]) rfl rfl rfl (by rfl) (by rfl) (by rfl)) ?_;rintro _ _ _ ⟨B,rfl,rfl,rfl⟩;refine gh ?_;refine CC (α:=Nat×Mem×Lc×Value) (λx=>[(1,pB b1),(5,x.2.2.2),(24,.slice a xs.length c),(25,.int .i64 xs.length),(26,.int .i64 x.1)]) (λx=>x.2.1) (λx=>x.2.2.1++[(b1,cE [.int .i64 lv,.slice a xs.length c] 81)]) (λx=>x.1<=xs.length/\MLe M x.2.1/\Own x.2.2.2 x.2.2.1 5 1 (3+((xs.take x.1).flatMap GA).length) (Aa ([78,bU lv,bU xs.length]:List By)++Aa ((xs.take x.1).flatMap GA))/\((xs.take x.1).flatMap GA).length<=24*x.1) (λx=>xs.length-x.1) (0,M,_,.slice (some ⟨B,0,none⟩) 3 3) ⟨Nat.zero_le _,MLe.refl _,⟨rfl,.inr ⟨B,3,_,rfl,rfl,Nat.le_refl _,by decide,rfl,rfl⟩⟩,Nat.zero_le _⟩ ?_;rintro⟨k,Mk,R,s⟩ ⟨hk,g,b,y⟩;try dsimp only at hk g b y⊢
 refine gj (λT=>?_) λT=>?_
 ·refine gh ?_;have m:k<xs.length:=by omega
  have H:=hs.mono g;have Q:=λp o=>(Y p o).mono g;obtain⟨sb,so,e0,D⟩:=H.open (by intro e;have:=congrArg length e;rw[Aj Ae 5 Ag,length_nil]at this;have h2:=congrArg length o;rw[length_map]at h2;omega);subst e0;obtain⟨V,U,O,F,E⟩:=Aw D o Q m;have n:=h xs[k] (getElem_mem m);have aa:=wBp n;have C:=N xs[k] (getElem_mem m);refine gh ?_;refine lq (A1 (cs:=E1 xs[k] V U) rfl rfl rfl rfl rfl (λi v hv=>(O i v hv).cj _)) ?_;refine ga λb7=>?_;refine gc (WE xs[k] V U Mk F E n C) ?_;rintro _ Mw S ⟨sw,rfl,wa,wc,rfl,ab,G⟩;refine gh ?_;refine lh (Eh (R:=R) (news:=Aa (GA xs[k])) rfl rfl rfl rfl b (by rw[Ad,Nat.mul_one]) G (by rfl) (BM _) (by omega) (by omega)) ?_;rintro s' _ _ ⟨rfl,R',rfl,j⟩;obtain⟨a2,c2,rfl⟩:=j.form;refine gh ?_;refine BD (k+1,Mw,R',.slice a2 _ c2) ⟨by show k+1<=xs.length;omega,g.trans S,?_,?_⟩
  ·grind [Own,GA,Aa,Ts]
  grind[GA,Ts]
 refine gh ?_;obtain rfl:k=xs.length:=by omega
 rw[take_length]at b y;have d:(Dd lv xs).length=3+(xs.flatMap GA).length:=by grind[Dd]
 have f:Aa (Dd lv xs)=Aa ([78,bU lv,bU xs.length]:List By)++Aa (xs.flatMap GA):=by grind[Dd,Aa]
 have K:(Dd lv xs).length<=124:=by omega
 refine Hn b (by simp) ?_;intro M8 a8 c8 af e8 P J;cases e8;refine gc (by have Z:=wDy (Dd lv xs) a8 c8 M8 (by rw[d];exact P) (by rw[f];exact J) K;rw[d]at Z;exact Z) ?_;rintro _ M9 ae ⟨s9,rfl,I⟩;refine gh ?_;refine AB (L':=[]) (by simp) ?_;refine gr ?_;refine⟨?_,rfl⟩;rw[if_pos w];exact⟨_,rfl,I⟩
abbrev WT:TypeId:=154
def WOwn(M:Mem)(wv:Value)(Rw:Lc)(ws:List Wt):Prop:=∃ps:List (Wt×Value),ps.map (·.1)=ws/\(∀p∈ps,BS M p.2 p.1.2)/\
 (Own wv Rw WT 2 ws.length (ps.flatMap AZ)\/(Rw=[]/\(ps.flatMap AZ).length=ws.length*2/\∃ba,wv=.slice (some ba) ws.length ws.length/\(ps.flatMap AZ=[]\/ba.spot=none)/\∀i u,(ps.flatMap AZ)[i]? =some u->CM M ba.block (ba.off+i) u))
def BOwn(M:Mem)(bb:Nat)(Lb:Lc)(s:Sto):Prop:=∃bv wv na nc lv Rw Rn,Lb=(bb,cE [bv,wv,.slice na s.now.length nc,lv] Ew)::(Rw++Rn)/\LS M bv s.blocks/\BS M lv s.last/\Own (.slice na s.now.length nc) Rn 5 1 s.now.length (Aa s.now)/\WOwn M wv Rw s.waits
variable{M:Mem}{Rw:Lc}{ws:List Wt}{wv:Value}
theorem WOwn.mono{M':Mem}(h:WOwn M wv Rw ws)(f:MLe M M'):WOwn M' wv Rw ws:=by
 obtain⟨g,n,m,l⟩:=h;refine⟨g,n,λp k=>(m p k).mono f,l.imp id ?_⟩;rintro⟨a,b,o,c,d,e⟩;exact⟨a,b,o,c,d,λi u j=>(e i u j).mono f⟩
variable{Lb:Lc}{bb:Nat}{s:Sto}
theorem BOwn.mono{M':Mem}(h:BOwn M bb Lb s)(a:MLe M M'):BOwn M' bb Lb s:=by
 obtain⟨j,wv,c,b,lv,Rw,k,i,g,f,e,d⟩:=h;exact⟨j,wv,c,b,lv,Rw,k,i,g.mono a,f.mono a,e,d.mono a⟩
def Bl(s:Sto)(k:Nat):Int:=if s.now.getD k 0=0 then 6 else if s.now.getD k 0=255 then 70 else 0
def Bb(s:Sto)(k:Nat):Sto:={ s with now:=s.now.set k (s.now.getD k 0+1) }
variable{b:By}
theorem Y5(h:b≠255):((b+1).toNat:Int)=(b.toNat:Int)+1/\(b.toNat:Int)+1<256:=by
 have c:=b.toNat_lt;have a:b.toNat≠255:=λe=>h (UInt8.toNat.inj e);rw[UInt8.toNat_add];grind
variable{k:Nat}
theorem JU(h:Bl s k=0):s.now.getD k 0≠0/\s.now.getD k 0≠255:=by
 grind[Bl]
theorem nz_u8(h:b≠0):¬((b.toNat:Int)=0):=λe=>h (UInt8.toNat.inj (by simpa using e))
theorem wUj(h:b≠255):¬((b.toNat:Int)=255):=λe=>h (UInt8.toNat.inj (by have:(255:By).toNat=255:=rfl;omega))
theorem Yf(s:Sto)(k f:Nat)(hk:k<s.now.length)(F:Bl s k=0)(n j lv:Value)(g:Option Addr)(d:Nat)(i z:Lc)(M:Mem)(a:Own (.slice g s.now.length d) z 5 1 s.now.length (Aa s.now)):
  SpecL prog 91 #[pB f,.int .i64 k] M ((f,cE [n,j,.slice g s.now.length d,lv] Ew)::(i++z)) λu J L'=>u=.int .i64 0/\J=M/\∃b,L'=(f,cE [n,j,.slice g s.now.length d,lv] Ew)::(i++b)/\Own (.slice g s.now.length d) b 5 1 s.now.length (Aa (Bb s k).now):=by
 have e:(Aa s.now)[k]? =some (.int .u8 ((s.now.getD k 0).toNat:Int)):=Ca hk;obtain⟨G,c⟩:=JU F;have C:=nz_u8 G;have m:=wUj c;obtain⟨E,D⟩:=Y5 c;obtain⟨B,y,o,I,H,_⟩:=a.open (by omega);cases I;cases H;refine sB func91 ntmps91 ?_;intro W;refine gh ?_;refine lq (Au rfl rfl rfl rfl (by rw[Nat.mul_one,Nat.zero_add];exact a.cj (by simp) e)) ?_;refine gt ?_;refine lq (Au rfl rfl rfl rfl (by rw[Nat.mul_one,Nat.zero_add];exact a.cj (by simp) e)) ?_;refine lq (wTr rfl rfl rfl rfl rfl (by rw[IntKind.wrap_u8];omega)) ?_;refine gh ?_;refine DE rfl (D0 rfl rfl rfl rfl rfl rfl a rfl (by omega)) ?_;rintro _ _ _ ⟨rfl,b,rfl,l⟩;refine gh ?_;refine AM (L':=(f,cE [n,j,.slice (some ⟨B,0,none⟩) s.now.length d,lv] Ew)::(i++b)) (λw h=>h.perm ?_) ?_
 ·simpa using (List.perm_append_comm (l₁:=b) (l₂:=(f,_)::i))
 refine FX rfl rfl ?_;simp_all [Aa,Bb]
theorem Ha(s:Sto)(k:Nat):(Bb s k).now.length=s.now.length:=by grind[Bb]
theorem P2(s:Sto)(k a:Nat)(hk:k<s.now.length)(l:Bl s k=0)(M:Mem)(i:Lc)(h:BOwn M a i s):SpecL prog 91 #[pB a,.int .i64 k] M i λu g j=>u=.int .i64 0/\BOwn g a j (Bb s k):=by
 obtain⟨f,wv,d,c,lv,Rw,D,rfl,w,o,n,m⟩:=h;refine(Yf s k a hk l f wv lv d c Rw D M n).mono λu g j ⟨C,B,b,z,y⟩=>?_;subst B;have e:=Ha s k;exact⟨C,f,wv,d,c,lv,Rw,b,by rw[e];exact z,w,o,by rw[e];exact y,m⟩
def Jk(s:Sto)(k:Nat):Prop:=s.now.getD k 0=0/\s.last.getD k 0=0
instance(s:Sto)(k:Nat):Decidable (Jk s k):=by unfold Jk;exact inferInstance
def Jm(s:Sto):Nat->Nat->Nat
 |0,k=>k
 |f+1,k=>if Jk s k then k else Jm s f (k+1)
def BH(s:Sto):Nat:=Jm s 248 8
def Am(s:Sto)(xs:List It):Sto:=xs.foldl (λt x=>if x.ref=0 then t else Bb t x.ref.toNat) s
def wYh(s:Sto)(xs:List It):Prop:=∀k (h:k<xs.length),xs[k].ref≠0->Bl (Am s (xs.take k)) xs[k].ref.toNat=0
def MM(s:Sto)(k:Nat)(b:List By):Sto:={ s with waits:=s.waits++[((k:Int),b)],now:=s.now.set k 1 }
def EM(s:Sto)(lv:Int)(xs:List It):Sto:=MM (Am s xs) (BH (Am s xs)) (Ks lv xs)
variable{xs:List It}
theorem ES(h:k<xs.length):Am s (xs.take (k+1))=if xs[k].ref=0 then Am s (xs.take k)else Bb (Am s (xs.take k)) xs[k].ref.toNat:=by
 rw[List.take_succ_eq_append_getElem h];unfold Am;rw[List.foldl_append];rfl
theorem CH(s:Sto)(xs:List It):(Am s xs).now.length=s.now.length/\(Am s xs).waits=s.waits/\(Am s xs).last=s.last/\(Am s xs).blocks=s.blocks:=by
 unfold Am;induction xs generalizing s with
 |nil=>grind
 |cons x xs a=>
  grind[Bb,Ha]
theorem ZU(a b:By):ND .u8 (a.toNat:Int) (b.toNat:Int)=((a ||| b).toNat:Int):=by
 have f:=a.toNat_lt;have c:=b.toNat_lt;have d:=(a ||| b).toNat_lt;unfold ND;rw[IntKind.wrap_u8];have e:(BitVec.ofInt IntKind.u8.bits (a.toNat:Int) ||| BitVec.ofInt IntKind.u8.bits (b.toNat:Int)).toNat=(a ||| b).toNat:=by
  rw[BitVec.toNat_or,UInt8.toNat_or,BitVec.ofInt_natCast,BitVec.ofInt_natCast,BitVec.toNat_ofNat,BitVec.toNat_ofNat];rw[Nat.mod_eq_of_lt (by simpa [IntKind.bits]using f),Nat.mod_eq_of_lt (by simpa [IntKind.bits]using c)]
 omega
theorem LH(a b:By):(a ||| b)=0↔a=0/\b=0:=by
 grind
variable{A:Lc}
theorem wWw{B C:Lc}:(A++(B++C)).Perm (C++(B++A)):=by
 refine List.perm_append_comm.trans ?_;rw[<-List.append_assoc C B A];exact(List.perm_append_comm (l₁:=B) (l₂:=C)).append_right A
theorem WOwn.form(h:WOwn M wv Rw ws):∃d b,wv=.slice d ws.length b:=by
 obtain⟨g,j,i,f|⟨_,_,k,rfl,_⟩⟩:=h
 ·obtain ⟨a,c,e⟩:=f.form;exact⟨a,c,e⟩
 grind
theorem wBv(hk:k<256)(h:¬Jk s k):Jm s (256-k) k=Jm s (256-(k+1)) (k+1):=by
 rw[show 256-k=(256-(k+1))+1 by omega,Jm,if_neg h]
theorem wBx(hk:k<256)(h:Jk s k):Jm s (256-k) k=k:=by
 rw[show 256-k=(256-(k+1))+1 by omega,Jm,if_pos h]
theorem ZW(s:Sto)(lv:Int)(xs:List It)(a:Option Addr)(c:Nat)(ps:List (It×Value))(M:Mem)(hc:xs.length<=c)(hs:SM M a (ps.flatMap Ae))(d:ps.map (·.1)=xs)(hb:∀p∈ps,BS M p.2 p.1.val)(ap:∀x∈xs,0<=x.key.kind/\x.key.kind<256)(y:Nat)(Lb:Lc)(a1:BOwn M y Lb s)(H:CD lv xs=true)(aj:s.now.length=256)(am:s.last.length=256)(ac:wYh s xs)(ay:BH (Am s xs)<256)(a9:s.waits.length<4096):
  SpecL prog 48 #[pB y,.agg #[.int .i64 lv,.slice a xs.length c]] M Lb λu M' L'=>u=.tuple #[.int .i64 (BH (Am s xs)),.int .i64 0]/\BOwn M' y L' (EM s lv xs):=by
 have aF:NS M (.slice a xs.length c) xs:=⟨a,c,ps,rfl,hc,hs,d,hb⟩;have z:=NdOk.of H;have a7:=z.len;have aJ:(Ks lv xs).length=128:=by
  refine JW ?_;have:=GQ (λx V=>(B5 z.ok x V).1);grind[Dd]
 refine sB func48 ntmps48 ?_;intro W;refine ga λb3=>?_;refine gc (NW lv xs a c ps M hc hs d hb ap) ?_;rintro _ M1 B I;rw[if_pos H]at I;obtain⟨s6,rfl,F⟩:=I;obtain⟨n,l,rfl,a6,a5⟩:=id F;simp only[nil_append];refine gt ?_;refine CC (α:=Nat×Mem×Lc) (λx=>[(0,pB y),(3,pB b3),(6,.slice n (Ks lv xs).length l),(19,.slice a xs.length c),(20,.int .i64 xs.length),(21,.int .i64 x.1)]) (λx=>x.2.1) (λx=>(b3,cE [.int .i64 lv,.slice a xs.length c] 81)::x.2.2) (λx=>x.1<=xs.length/\MLe M1 x.2.1/\BOwn x.2.1 y x.2.2 (Am s (xs.take x.1))) (λx=>xs.length-x.1) (0,M1,Lb) ⟨Nat.zero_le _,MLe.refl _,a1.mono B⟩ ?_;rintro⟨k,O,Lk⟩ ⟨hk,b,D⟩;try dsimp only at hk b D⊢
 refine gj (λa3=>?_) λa3=>?_
 ·refine gh ?_;have g:k<xs.length:=by omega
  have ab:=hs.mono (B.trans b);have ax:=λp d=>(hb p d).mono (B.trans b);obtain⟨sb,so,K,V⟩:=ab.open (by intro e;have:=congrArg length e;rw[Aj Ae 5 Ag,length_nil]at this;have h2:=congrArg length d;rw[length_map]at h2;omega);subst K;obtain⟨va,vc,aw,aB,aA⟩:=Aw V d ax g;have a8:=z.ref xs[k] (getElem_mem g);have J:=(CH s (xs.take k)).1;refine gh ?_;refine lq (A1 (cs:=E1 xs[k] va vc) rfl rfl rfl rfl rfl (λi v hv=>(aw i v hv).cj _)) ?_;refine gA λb8=>?_;refine gj (λo=>?_) λo=>?_
  ·refine gh ?_;refine BD (k+1,O,Lk) ⟨by show k+1<=xs.length;omega,b,by show BOwn _ _ _ (Am s (xs.take (k+1)));rw[ES g,if_pos o];exact D⟩
  refine gh ?_;have ao:((xs[k].ref.toNat:Nat):Int)=xs[k].ref:=Int.toNat_of_nonneg (by omega);refine lh (BV rfl rfl rfl rfl rfl (by kernel_rfl) (by have:=P2 (Am s (xs.take k)) xs[k].ref.toNat y (by omega) (ac k g o) O Lk D;rwa[ao]at this)) ?_;rintro _ Mn _ ⟨az,R',rfl,⟨rfl,a0⟩⟩;refine gt ?_;refine BD (k+1,Mn,R') ⟨by show k+1<=xs.length;omega,b.trans az,by show BOwn _ _ _ (Am s (xs.take (k+1)));rw[ES g,if_neg o];exact a0⟩ (hs:=λw h=>(h.perm List.perm_append_comm).fewer (by simp))
 refine gh ?_;obtain rfl:k=xs.length:=by omega
 rw[take_length]at D;obtain⟨t,ht⟩:∃t,t=Am s xs:=⟨_,rfl⟩;obtain⟨ag,af,ae,ad⟩:=CH s xs;rw[<-ht]at D ay ag af ae ad;obtain⟨bv,wv,na,U,lw,Rw,Rn,rfl,g2,g3,g4,g5⟩:=D;obtain⟨wa,wc,rfl⟩:=g5.form;have aD:t.now.length=256:=by omega
 have aE:t.last.length=256:=by grind
 have aC:t.waits.length<4096:=by grind
 obtain⟨T,a4,E,K,e1,_⟩:=g4.open (by omega);cases K;cases e1;obtain⟨la,lc,rfl,aH,al⟩:=id g3;obtain⟨lb,lo,K,ak⟩:=al.open (by intro e;have:=congrArg length e;rw[Ad,length_nil]at this;omega);subst K;refine CC (α:=Nat) (λj=>[(0,pB y),(4,.int .i64 (j:Int)),(6,.slice n (Ks lv xs).length l)]) (λ_=>O) (λ_=>(b3,cE [.int .i64 lv,.slice a xs.length c] 81)::(y,cE [bv,.slice wa t.waits.length wc,.slice (some ⟨T,0,none⟩) t.now.length U,.slice (some ⟨lb,lo,none⟩) t.last.length lc] Ew)::(Rw++[(T,.cells E 5 (0,0))])) (λj=>j<=256/\Jm t (256-j) j=BH t) (λj=>256-j) 8 ⟨by omega,rfl⟩ ?_;rintro j ⟨hj,hI⟩;try dsimp only at hj hI⊢
 have G:ND .u8 ((t.now.getD j 0).toNat:Int) ((t.last.getD j 0).toNat:Int)=((t.now.getD j 0 ||| t.last.getD j 0).toNat:Int):=ZU _ _;refine gh ?_;refine QQ [0,1,2,3,4,5,6,7,8,9,10,11,12,13,14,15,16,17,18,19,20,21] ?_;refine gj (λa2=>?_) λa2=>?_
 ·refine gh ?_;have aq:(Aa t.now)[j]? =some (.int .u8 ((t.now.getD j 0).toNat:Int)):=Ca (by omega);have au:(Aa t.last)[j]? =some (.int .u8 ((t.last.getD j 0).toNat:Int)):=Ca (by omega);refine dq rfl (Au rfl rfl rfl rfl (by rw[Nat.mul_one,Nat.zero_add];exact g4.cj (by simp) aq)) ?_;refine gh ?_;refine dq rfl (Au rfl rfl rfl rfl ((ak _ _ (by rw[Nat.mul_one];exact au)).cj _)) ?_;refine dq rfl (EW rfl rfl rfl rfl rfl) ?_;refine gj (λC=>?_) λC=>?_
  ·refine gh ?_;have ai:¬Jk t j:=λhf=>C (by rw[G,(LH _ _).2 hf];rfl);refine BD (j+1) ⟨by omega,by rw[<-wBv (by omega) ai];exact hI⟩
  refine gt ?_;refine lh (Ab (cs:=[_,_]) rfl rfl rfl (by rfl) (by rfl) (by rfl)) ?_;rintro _ _ _ ⟨aK,rfl,rfl,rfl⟩;obtain⟨P,aa,Z,Y⟩:=id g5;have aI:Jk t j:=(LH _ _).1 (UInt8.toNat.inj (by have:=Classical.not_not.1 C;rw[G]at this;simpa using this));have av:BH t=j:=by grind[wBx]
  refine lh (WV (R:=Rw) (m:=1) (news:=[.int .i64 (j:Int),.slice n (Ks lv xs).length l]) rfl rfl rfl rfl Y rfl (λi v hv=>CJ.loc (by simpa using hv)) rfl (by rfl) (by simp[Value.oneCell']) (by omega) (by omega) (by omega)) ?_;rintro _ _ _ ⟨rfl,L,rfl,f⟩;obtain⟨S,Q,rfl⟩:=f.form;refine gh ?_;refine DE rfl (D0 (u:=.int .u8 1) rfl rfl rfl rfl rfl rfl g4 rfl (by omega)) ?_;rintro _ _ _ ⟨rfl,N,rfl,ah⟩;refine gh ?_;refine AM (M':=O) (L':=(y,cE [bv,.slice S (t.waits.length+1) Q,.slice (some ⟨T,0,none⟩) t.now.length U,.slice (some ⟨lb,lo,none⟩) t.last.length lc] Ew)::(L++N)) (λw h=>?_) ?_
  ·have h2:=h.perm wWw;exact h2.fewer (.cons _ (.cons _ (.refl _)))
  refine wSg rfl rfl rfl ?_;have hT:EM s lv xs=MM t j (Ks lv xs):=by grind[EM]
  refine⟨by rw[<-ht,av],?_⟩;rw[hT];have J:(MM t j (Ks lv xs)).now.length=t.now.length:=by grind[MM]
  have X:(MM t j (Ks lv xs)).waits.length=t.waits.length+1:=by grind[MM]
  refine⟨bv,_,_,U,_,L,N,by rw[J],g2,g3,?_,P++[(((j:Int),Ks lv xs),.slice n (Ks lv xs).length l)],?_,?_,.inl ?_⟩
  ·simp_all [Aa,MM,Ks]
  ·rw [List.map_append,aa];rfl
  ·intro p d;rcases List.mem_append.1 d with d|d
   ·exact Z p d
   rw[List.mem_singleton.1 d];exact F.mono b
  rw[X,List.flatMap_append];exact f
 exfalso;obtain rfl:j=256:=by omega
 have:BH t=256:=hI.symm;omega
end Go.Proofs.YtjheijhahehnmaaGreatDoor
