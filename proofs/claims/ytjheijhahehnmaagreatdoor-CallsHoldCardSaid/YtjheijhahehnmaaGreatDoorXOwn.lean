/- Lemmas. -/
import Derived.Test.YtjheijhahehnmaaGreatDoorXSp
namespace Go.Proofs.YtjheijhahehnmaaGreatDoor
open Go.Proofs.Tryz
open List (length_append length length_map length_nil take_length replicate nil_append getElem_mem)
set_option linter.unusedSimpArgs false
set_option linter.unusedVariables false
set_option linter.unusedSectionVars false
set_option maxHeartbeats 40000000
set_option maxRecDepth 8000
open Go.RowKit
def bU(x:Int):By:=UInt8.ofNat (x%256).toNat
theorem Fc(x:Int):IntKind.u8.wrap x=((bU x).toNat:Int):=by
 rw[IntKind.wrap_u8];unfold bU;have:(x%256).toNat<256:=by omega
 rw[UInt8.toNat_ofNat_of_lt' (by simpa using this)];omega
def Cw(n:Int):List By:=[bU n,bU (DV .u32 n 8),bU (DV .u32 n 16),bU (DV .u32 n 24)]
def JU(n:Int):List By:=[bU n,bU (DV .i64 n 8)]
theorem A6(n:Int)(M:Mem):
  Sg 237 #[iU n] M [] λu d e=>BS d u (Cw n)/\e=[]:=by
 refine sB func237 ntmps237 ?_;intro W;refine gh ?_;refine lq (Bo (Bm rfl rfl rfl) (by rw[Fc])) ?_;refine gh ?_;refine lq (DE rfl rfl rfl rfl (by omega) rfl) ?_;refine lq (Bo (Bm rfl rfl rfl) (by rw[Fc])) ?_;refine gh ?_;refine lq (DE rfl rfl rfl rfl (by omega) rfl) ?_;refine lq (Bo (Bm rfl rfl rfl) (by rw[Fc])) ?_;refine gh ?_;refine lq (DE rfl rfl rfl rfl (by omega) rfl) ?_;refine lq (Bo (Bm rfl rfl rfl) (by rw[Fc])) ?_;refine lh (Ab (cs:=[_,_,_,_]) rfl rfl rfl (by rfl) (by rfl) (by rfl)) ?_;rintro _ _ _ ⟨a,rfl,rfl,rfl⟩;refine gh ?_;refine AD a (by simp) ?_;intro f b c;refine gr ?_;exact⟨⟨sA a 0,4,rfl,lR,SM.of_block (l:=Aa (Cw n)) c⟩,rfl⟩
theorem Uu(n:Int)(M:Mem)(h:0<=n/\n<65536):
  Sg 236 #[iL n] M [] λu f g=>(∃s,u=.tuple #[s,iL 0]/\BS f s (JU n))/\g=[]:=by
 have b:DV .i64 n 16=0:=by unfold DV;rw[show (2:Int) ^ (min 16 IntKind.i64.bits)=65536 by decide,Int.fdiv_eq_ediv_of_nonneg _ (by decide)];omega
 refine sB func236 ntmps236 ?_;intro W;refine gh ?_;refine lq (DE rfl rfl rfl rfl (by omega) rfl) ?_;refine jf rfl (dF (by first|omega|exact λe=>e b)) ?_;refine gh ?_;refine lq (Bo (Bm rfl rfl rfl) (by rw[Fc])) ?_;refine gh ?_;refine lq (DE rfl rfl rfl rfl (by omega) rfl) ?_;refine lq (Bo (Bm rfl rfl rfl) (by rw[Fc])) ?_;refine lh (Ab (cs:=[_,_]) rfl rfl rfl (by rfl) (by rfl) (by rfl)) ?_;rintro _ _ _ ⟨a,rfl,rfl,rfl⟩;refine gh ?_;refine AD a (by simp) ?_;intro i c d;refine gr ?_;exact⟨⟨_,rfl,sA a 0,2,rfl,lR,SM.of_block (l:=Aa (JU n)) d⟩,rfl⟩
theorem wLp(M:Mem):
  Sg 268 #[sN,iL 0] M [] λu b a=>Own u a 5 1 0 []:=by
 refine sB func268 ntmps268 ?_;intro W;refine gt ?_;refine lq (Tm rfl rfl rfl) ?_;refine gu ?_;grind[Own.nil]
theorem wEh(n:Nat)(M:Mem)(h:0<n)(f:n<=1000000000):
  Sg 268 #[sN,iL n] M [] λu j i=>Own u i 5 1 0 []:=by
 refine sB func268 ntmps268 ?_;intro W;refine gt ?_;refine lq (Tm rfl rfl rfl) ?_;refine gt ?_;refine lq (Tm rfl rfl rfl) ?_;refine lq (Bo (CK rfl rfl rfl (.no _) (.of (v:=0) rfl (by omega) rfl) (.no _) (by omega) (by simp)) (v':=sN) (by rw[AV])) ?_;refine gh ?_;refine lh (wLj (n:=n) rfl rfl rfl (by simp[show (n:Int)-(0-0)=n by omega];rfl) h f (by omega)) ?_;rintro _ _ _ ⟨rfl,b,a,e,rfl,rfl,g,d,c⟩;refine gh ?_;refine lq (Bo (CK rfl rfl rfl (.no _) (.of (v:=0) rfl (by omega) rfl) (.no _) (by omega) (by simp)) (v':=.slice (sA b 0) 0 a) (by rw[AV];rfl)) ?_;refine jp rfl ?_;refine Am (jT (Ao (Aj ?_)));iterate 2 refine jp rfl ?_
 refine Am (jT (BG ?_));refine GK rfl rfl ?_;exact⟨rfl,.inr ⟨b,a,e,rfl,rfl,zL,d,by rw[c,mO],by simp⟩⟩
theorem wEg(n:Nat)(M:Mem)(b:n<=1000000000):Sg 268 #[sN,iL n] M [] λu _ a=>Own u a 5 1 0 []:=by
 grind[wLp,wEh]
variable{bs:List (List By)}{k:Nat}
theorem GB(h:k<bs.length):(bs.take (k+1)).flatten=(bs.take k).flatten++bs[k]:=by
 rw[List.take_succ_eq_append_getElem h,List.flatten_append];simp
theorem Pi(k:Nat):(bs.take k).flatten.length<=bs.flatten.length:=by
 conv=>rhs;rw[<-List.take_append_drop k bs,List.flatten_append,length_append]
 omega
theorem Wq(bs:List (List By))(a:Option Addr)(c:Nat)(ps:List (List By×Value))(M:Mem)(U:bs.length<=c)(hs:SM M a (ps.map (·.2)))(m:ps.map (·.1)=bs)(E:∀p∈ps,BS M p.2 p.1)(T:bs.length<=1000)(S:bs.flatten.length<=1000000):
  Sg 175 #[.slice a bs.length c] M [] λu V P=>Own u P 5 1 bs.flatten.length (Aa bs.flatten):=by
 refine sB func175 ntmps175 ?_;intro W;refine gh ?_;refine Cy (α:=Nat) (λk=>[(0,.slice a bs.length c),(3,iL ((bs.take k).flatten.length:Int)),(9,.slice a bs.length c),(10,iL bs.length),(11,iL k)]) (λ_=>M) (λ_=>[]) (λk=>k<=bs.length) (λk=>bs.length-k) 0 (zL) ?_;rintro k hk;try dsimp only at hk⊢
 have y:=Pi (bs:=bs) k;refine gj (λC=>?_) λC=>?_
 ·refine gh ?_;have b:k<bs.length:=by omega
  obtain⟨I,H,D,n⟩:=hs.open (by intro e;have:=cA length e;rw[length_map,length_nil]at this;have B:=cA length m;rw[length_map]at B;omega);subst D;obtain⟨G,F,i,o,j⟩:=Df n m E b;have d:=cA length (GB b);rw[length_append]at d;have w:=Pi (bs:=bs) (k+1);refine gh ?_;refine lq (Aw rfl rfl rfl rfl (i.cj _)) ?_;refine gt ?_;refine BB (k+1) (by show k+1<=bs.length;omega) (hk:=(kC (t:=0) rfl (Keep.ceq (t:=3) rfl (by rw[d];rfl) (kC (t:=9) rfl (kC (t:=10) rfl (kC (t:=11) rfl Keep.nil))))))
 refine gh ?_;obtain rfl:k=bs.length:=by omega
 rw[take_length];refine gC (wEg bs.flatten.length M (by omega)) ?_;rintro _ O L l g;refine gh ?_;refine Cy (α:=Nat×Lc×Value) (λx=>[(6,x.2.2),(25,.slice a bs.length c),(26,iL bs.length),(27,iL x.1)]) (λ_=>O) (λx=>x.2.1) (λx=>x.1<=bs.length/\Own x.2.2 x.2.1 5 1 (bs.take x.1).flatten.length (Aa (bs.take x.1).flatten)) (λx=>bs.length-x.1) (0,L,_) ⟨zL,by simpa [Aa]using g⟩ ?_;rintro⟨k,R,s⟩ ⟨hk,f⟩;try dsimp only at hk f⊢
 have y:=Pi (bs:=bs) k;refine gj (λz=>?_) λz=>?_
 ·refine gh ?_;have b:k<bs.length:=by omega
  obtain⟨I,H,D,n⟩:=hs.open (by intro e;have:=cA length e;rw[length_map,length_nil]at this;have B:=cA length m;rw[length_map]at B;omega);subst D;obtain⟨G,F,i,o,j⟩:=Df n m E b;have d:=cA length (GB b);rw[length_append]at d;have w:=Pi (bs:=bs) (k+1);refine gh ?_;refine lq (Aw rfl rfl rfl rfl ((i.mono l).cj _)) ?_;refine gh ?_;refine lh (D2 (R:=R) (news:=Aa bs[k]) rfl rfl rfl rfl f (by rw[Ac,mO]) (j.mono l) (by rfl) (BI _) (by omega) (by omega)) ?_;rintro Q _ _ ⟨rfl,N,rfl,h⟩;obtain⟨K,J,rfl⟩:=h.form;refine gh ?_;refine BB (k+1,N,.slice K _ J) ⟨by show k+1<=bs.length;omega,?_⟩;grind[Own,Aa,GB]
 refine Am (jT (Ao (Gv rfl (Ly (wUi (wUi (jBx (jT (Ao (Aj ?_))))))))));iterate 2 refine jp rfl ?_
 refine Am (jT (BG ?_));refine GK rfl rfl ?_;grind
theorem DR(bs:List (List By))(v:Value)(M:Mem)(h:LS M v bs)(i:bs.length<=1000)(e:bs.flatten.length<=1000000):Sg 175 #[v] M [] λu _ b=>Own u b 5 1 bs.flatten.length (Aa bs.flatten):=by
 obtain⟨a,c,d,rfl,j,f,g,k⟩:=h;grind[Wq]
def Gq(b:List By):List By:=b++replicate (124-b.length) 0
def J2(b:List By):List By:=Cw (J1 (Gq b))++Gq b
variable{b:List By}
theorem Vc(h:b.length<=124):(Gq b).length=124:=by grind[Gq]
theorem Jp(h:b.length<=124):(J2 b).length=128:=by unfold J2;rw[length_append,Vc h];rfl
theorem wCg(h:b.length<=124):((replicate (124:Int).toNat [iB 0]).flatten).take 0++Aa b++((replicate (124:Int).toNat [iB 0]).flatten).drop (0+(Aa b).length)=Aa (Gq b):=by
 have e:(replicate (124:Int).toNat [iB 0]).flatten=replicate 124 (iB 0):=by simp
 rw[e,Ac,List.take_zero,nil_append,Nat.zero_add,List.drop_replicate];simp_all [Gq,Aa]
variable{M:Mem}
theorem LS.two{b:Nat}{u v:Value}{x y:List By}(h:M b=some (cE [u,v] 26))(d:BS M u x)(c:BS M v y):LS M (.slice (sA b 0) 2 2) [x,y]:=
 ⟨_,2,[(x,u),(y,v)],rfl,lR,SM.of_block (l:=[u,v]) h,rfl,λp a=>by
  rcases List.mem_cons.1 a with rfl|a
  ·exact d
  rw[mS a];exact c⟩
theorem wBk(b:List By)(a:Option Addr)(c:Nat)(M:Mem)(L:b.length<=c)(hs:SM M a (Aa b))(h:b.length<=124):
  Sg 160 #[.slice a b.length c] M [] λu J K=>(∃s,u=.tuple #[s,iL 0]/\BS J s (J2 b))/\K=[]:=by
 refine sB func160 ntmps160 ?_;intro W;refine gt ?_;refine lh (DP rfl rfl rfl rfl (by omega) (by rfl)) ?_;rintro _ _ _ ⟨m,rfl,rfl,rfl⟩;refine gh ?_;refine lh (VO (cs:=Aa b) rfl rfl rfl rfl (by rw[Ac];show _=min b.length 124;omega) (hs.sj _) (BI _) (by rw[Ac];show 0+b.length<=124;omega)) ?_;rintro _ _ _ ⟨rfl,rfl,rfl⟩;rw[wCg h];refine gh ?_;refine AA m (by simp) ?_;intro g D w;have d:=Vc h;have j:BS g (.slice (sA m 0) (124:Int).toNat (124:Int).toNat) (Gq b):=⟨_,_,by rw[d];rfl,by rw[d];exact lR,SM.of_block w⟩;have i:SM g (sA m 0) (Aa (Gq b)):=SM.of_block w;refine gq (by have:=Tq _ (124:Int).toNat (Gq b) g i (by omega);rw[d]at this;exact this) ?_;refine gc (A6 _ g) ?_;rintro _ R l o;obtain⟨O,N,rfl,_,_⟩:=id o;simp only[nil_append];refine gh ?_;refine lh (Ab (cs:=[_,_]) rfl rfl rfl (by rfl) (by rfl) (by rfl)) ?_;rintro _ _ _ ⟨n,rfl,rfl,rfl⟩;refine AA n (by simp) ?_;intro I f F;have k:=LS.two F (o.mono f) (j.mono (l.trans f));refine gC (DR _ _ I k (by simp) (by simp[d,Cw])) ?_;rintro _ Q _ C e;refine gh ?_;refine BF e (by simp) ?_;intro P H G B E z y;subst E;refine gr ?_;refine⟨⟨_,rfl,H,G,?_,?_,?_⟩,rfl⟩
 ·simp [J2]
 ·grind [J2]
 grind[J2]
def Gi(x:It):List By:=[bU x.key.kind]++Cw x.key.id++Cw x.key.off++JU x.ref++[bU x.val.length]++x.val
variable{u1:Value}{x1:List By}
theorem LS.six{b:Nat}{f e d c a:Value}{m k j i g:List By}(h:M b=some (cE [u1,f,e,d,c,a] 26))(z:BS M u1 x1)(y:BS M f m)(w:BS M e k)(u:BS M d j)(s:BS M c i)(o:BS M a g):LS M (.slice (sA b 0) 6 6) [x1,m,k,j,i,g]:=
 ⟨_,6,[(x1,u1),(m,f),(k,e),(j,d),(i,c),(g,a)],rfl,lR,SM.of_block (l:=[u1,f,e,d,c,a]) h,rfl,λp n=>by
  simp only[List.mem_cons,List.not_mem_nil,or_false]at n
  rcases n with rfl|rfl|rfl|rfl|rfl|rfl<;>assumption⟩
variable{n:Int}
theorem Fm{b:Nat}(h:0<=n/\n<256)(e:M b=some (cE [iB n] 5)):BS M (.slice (sA b 0) 1 1) [bU n]:=
 ⟨_,1,rfl,lR,SM.of_block (l:=Aa [bU n]) (by
  have:((bU n).toNat:Int)=n:=by rw[<-Fc,IntKind.wrap_u8];omega
  simp only[Aa,List.map,this];exact e)⟩
theorem VD(x:It)(K:Option Addr)(J:Nat)(M:Mem)(Q:x.val.length<=J)(P:SM M K (Aa x.val))(ah:Bv x=false)(hk:0<=x.key.kind/\x.key.kind<256):
  Sg 159 #[.agg (EL x K J).toArray] M [] λu M' L'=>(∃s,u=.tuple #[s,iL 0]/\BS M' s (Gi x))/\L'=[]:=by
 have aj:Ca x=0:=by grind[Ca]
 have ak:¬(x.ref≠0/\(x.ref<8\/256<=x.ref)\/12<x.val.length):=by grind[Bv]
 refine sB func159 ntmps159 ?_;intro W;refine ga λb1=>?_;refine gQ (CO x _ M ⟨K,J,rfl,Q,P⟩) ?_;refine gt ?_;refine gc (Uu x.ref M (by omega)) ?_;rintro _ M1 Y ⟨s2,rfl,R⟩;refine gh ?_;refine AX ([(b1,cE (EL x K J) IT)]) (by kernel_rfl) (λ_ h=>h) ?_;refine gk [0,1,2,4,5,6,8,9,10,12,13,14,15] ?_;refine Er (i:=16) rfl (by kernel_rfl) (by kernel_rfl) rfl rfl (Bo (Bm rfl rfl rfl) (by rw[Fc])) ?_;refine gk [18,19] ?_;refine D1 (α:=Mem×Value×Value×Value×Value) (λy=>MLe M1 y.1/\BS y.1 y.2.1 [bU x.key.kind]/\BS y.1 y.2.2.1 (Cw x.key.id)/\BS y.1 y.2.2.2.1 (Cw x.key.off)/\BS y.1 y.2.2.2.2 [bU x.val.length]) (λy=>[(21,y.2.1),(25,y.2.2.1),(29,y.2.2.2.1),(30,s2),(35,y.2.2.2.2),(37,.slice K x.val.length J)]) (λy=>y.1) (λ_=>[(b1,cE (EL x K J) IT)]) 4 #[true,true,true,true,true,true,true,true,true,true,true,true,true,true,true,true,true,true,true,true,false,false,false,false] ?_ (λk=>?_)
 ·rintro ⟨Mr,v3,O,z,ac⟩ ⟨F,N,L,H,G⟩;try dsimp only at F N L H G⊢
  obtain⟨a3,k3,rfl,_,_⟩:=id N;obtain⟨a7,k7,rfl,_,_⟩:=id L;obtain⟨ap,af,rfl,_,_⟩:=id H;obtain⟨ao,ae,rfl,_,_⟩:=id G;obtain⟨am,ad,rfl,_,_⟩:=id R;refine aO 20 ?_;refine sh rfl (Ab (cs:=[_,_,_,_,_,_]) rfl rfl rfl (by rfl) (by rfl) (by rfl)) ?_;rintro _ _ _ ⟨aa,rfl,rfl,rfl⟩;refine aG (F) ?_;refine AU aa (by simp) (by simp) ?_;intro ab B Z;have X:=LS.six Z (N.mono B) (L.mono B) (H.mono B) ((R.mono F).mono B) (G.mono B) ⟨K,J,rfl,Q,P.mono (Y.trans (F.trans B))⟩;refine aO 21 ?_;refine sh rfl (hC (DR _ _ ab X (by simp) (by simp[Cw,JU];omega))) ?_;rintro _ au _ ⟨T,aq,rfl,S⟩;refine aG ((F.trans B).trans T) ?_;refine gk [22,23] ?_;refine Fx (by kernel_rfl) ?_;refine gh ?_;refine BF S (by simp) ?_;intro M5 a5 c5 al e5 ai ag;subst e5;refine AE (L':=[]) (by simp) ?_;refine gr ?_;refine⟨⟨_,rfl,a5,c5,?_,?_,?_⟩,rfl⟩
  ·simp [Gi]
  ·grind [Gi]
  grind[Gi]
 refine Be [3,7,17] (by kernel_rfl) rfl ⟨?_,?_,?_,trivial⟩
 ·refine sh rfl (Ab (cs:=[_]) rfl rfl rfl (by rfl) (by rfl) (by rfl)) ?_;rintro _ _ _ ⟨n,rfl,rfl,rfl⟩;refine aG (mR) ?_;refine AU n (by simp) (by simp) ?_;intro I c E;have j:=Fm hk E;refine Be [7,17] (by kernel_rfl) rfl ⟨?_,?_,trivial⟩
  ·refine sh rfl (hC (A6 x.key.id _)) ?_;rintro O V _ ⟨d,U,rfl,w,rfl⟩;refine aG ((c).trans d) ?_;simp only[nil_append];refine Be [11,17] (by kernel_rfl) rfl ⟨?_,?_,trivial⟩
   ·refine sh rfl (hC (A6 x.key.off _)) ?_;rintro z D _ ⟨a,C,rfl,e,rfl⟩;refine aG (((c.trans d)).trans a) ?_;simp only[nil_append];refine aO 17 ?_;refine sh rfl (Ab (cs:=[_]) rfl rfl rfl (by rfl) (by rfl) (by rfl)) ?_;rintro _ _ _ ⟨g,rfl,rfl,rfl⟩;refine aG ((c.trans (d.trans a))) ?_;refine AU g (by simp) (by simp) ?_;intro o b m;have f:BS o (.slice (sA g 0) 1 1) [bU x.val.length]:=⟨_,1,rfl,lR,SM.of_block (l:=Aa [bU x.val.length]) m⟩;exact aR k (_,_,_,_,_) ⟨(c.trans (d.trans (a.trans b))),j.mono ((d.trans (a.trans b))),w.mono ((a.trans b)),e.mono (b),f.mono (mR)⟩
   refine sh rfl (Ab (cs:=[_]) rfl rfl rfl (by rfl) (by rfl) (by rfl)) ?_;rintro _ _ _ ⟨g,rfl,rfl,rfl⟩;refine aG ((c.trans d)) ?_;refine AU g (by simp) (by simp) ?_;intro o b m;have f:BS o (.slice (sA g 0) 1 1) [bU x.val.length]:=⟨_,1,rfl,lR,SM.of_block (l:=Aa [bU x.val.length]) m⟩;refine aO 11 ?_;refine sh rfl (hC (A6 x.key.off _)) ?_;rintro z D _ ⟨a,C,rfl,e,rfl⟩;refine aG (((c.trans (d.trans b))).trans a) ?_;simp only[nil_append];exact aR k (_,_,_,_,_) ⟨(c.trans (d.trans (b.trans a))),j.mono ((d.trans (b.trans a))),w.mono ((b.trans a)),e.mono (mR),f.mono (a)⟩
  refine sh rfl (Ab (cs:=[_]) rfl rfl rfl (by rfl) (by rfl) (by rfl)) ?_;rintro _ _ _ ⟨g,rfl,rfl,rfl⟩;refine aG (c) ?_;refine AU g (by simp) (by simp) ?_;intro o b m;have f:BS o (.slice (sA g 0) 1 1) [bU x.val.length]:=⟨_,1,rfl,lR,SM.of_block (l:=Aa [bU x.val.length]) m⟩;refine aO 7 ?_;refine sh rfl (hC (A6 x.key.id _)) ?_;rintro O V _ ⟨d,U,rfl,w,rfl⟩;refine aG (((c.trans b)).trans d) ?_;simp only[nil_append];refine aO 11 ?_;refine sh rfl (hC (A6 x.key.off _)) ?_;rintro z D _ ⟨a,C,rfl,e,rfl⟩;refine aG (((c.trans (b.trans d))).trans a) ?_;simp only[nil_append];exact aR k (_,_,_,_,_) ⟨(c.trans (b.trans (d.trans a))),j.mono ((b.trans (d.trans a))),w.mono (a),e.mono (mR),f.mono ((d.trans a))⟩
 ·refine sh rfl (hC (A6 x.key.id _)) ?_;rintro O V _ ⟨d,U,rfl,w,rfl⟩;refine aG (d) ?_;simp only[nil_append];refine Be [3,11,17] (by kernel_rfl) rfl ⟨?_,?_,?_,trivial⟩
  ·refine sh rfl (Ab (cs:=[_]) rfl rfl rfl (by rfl) (by rfl) (by rfl)) ?_;rintro _ _ _ ⟨n,rfl,rfl,rfl⟩;refine aG (d) ?_;refine AU n (by simp) (by simp) ?_;intro I c E;have j:=Fm hk E;refine Be [11,17] (by kernel_rfl) rfl ⟨?_,?_,trivial⟩
   ·refine sh rfl (hC (A6 x.key.off _)) ?_;rintro z D _ ⟨a,C,rfl,e,rfl⟩;refine aG (((d.trans c)).trans a) ?_;simp only[nil_append];refine aO 17 ?_;refine sh rfl (Ab (cs:=[_]) rfl rfl rfl (by rfl) (by rfl) (by rfl)) ?_;rintro _ _ _ ⟨g,rfl,rfl,rfl⟩;refine aG ((d.trans (c.trans a))) ?_;refine AU g (by simp) (by simp) ?_;intro o b m;have f:BS o (.slice (sA g 0) 1 1) [bU x.val.length]:=⟨_,1,rfl,lR,SM.of_block (l:=Aa [bU x.val.length]) m⟩;exact aR k (_,_,_,_,_) ⟨(d.trans (c.trans (a.trans b))),j.mono ((a.trans b)),w.mono ((c.trans (a.trans b))),e.mono (b),f.mono (mR)⟩
   refine sh rfl (Ab (cs:=[_]) rfl rfl rfl (by rfl) (by rfl) (by rfl)) ?_;rintro _ _ _ ⟨g,rfl,rfl,rfl⟩;refine aG ((d.trans c)) ?_;refine AU g (by simp) (by simp) ?_;intro o b m;have f:BS o (.slice (sA g 0) 1 1) [bU x.val.length]:=⟨_,1,rfl,lR,SM.of_block (l:=Aa [bU x.val.length]) m⟩;refine aO 11 ?_;refine sh rfl (hC (A6 x.key.off _)) ?_;rintro z D _ ⟨a,C,rfl,e,rfl⟩;refine aG (((d.trans (c.trans b))).trans a) ?_;simp only[nil_append];exact aR k (_,_,_,_,_) ⟨(d.trans (c.trans (b.trans a))),j.mono ((b.trans a)),w.mono ((c.trans (b.trans a))),e.mono (mR),f.mono (a)⟩
  ·refine sh rfl (hC (A6 x.key.off _)) ?_;rintro z D _ ⟨a,C,rfl,e,rfl⟩;refine aG ((d).trans a) ?_;simp only[nil_append];refine Be [3,17] (by kernel_rfl) rfl ⟨?_,?_,trivial⟩
   ·refine sh rfl (Ab (cs:=[_]) rfl rfl rfl (by rfl) (by rfl) (by rfl)) ?_;rintro _ _ _ ⟨n,rfl,rfl,rfl⟩;refine aG ((d.trans a)) ?_;refine AU n (by simp) (by simp) ?_;intro I c E;have j:=Fm hk E;refine aO 17 ?_;refine sh rfl (Ab (cs:=[_]) rfl rfl rfl (by rfl) (by rfl) (by rfl)) ?_;rintro _ _ _ ⟨g,rfl,rfl,rfl⟩;refine aG ((d.trans (a.trans c))) ?_;refine AU g (by simp) (by simp) ?_;intro o b m;have f:BS o (.slice (sA g 0) 1 1) [bU x.val.length]:=⟨_,1,rfl,lR,SM.of_block (l:=Aa [bU x.val.length]) m⟩;exact aR k (_,_,_,_,_) ⟨(d.trans (a.trans (c.trans b))),j.mono (b),w.mono ((a.trans (c.trans b))),e.mono ((c.trans b)),f.mono (mR)⟩
   refine sh rfl (Ab (cs:=[_]) rfl rfl rfl (by rfl) (by rfl) (by rfl)) ?_;rintro _ _ _ ⟨g,rfl,rfl,rfl⟩;refine aG ((d.trans a)) ?_;refine AU g (by simp) (by simp) ?_;intro o b m;have f:BS o (.slice (sA g 0) 1 1) [bU x.val.length]:=⟨_,1,rfl,lR,SM.of_block (l:=Aa [bU x.val.length]) m⟩;refine aO 3 ?_;refine sh rfl (Ab (cs:=[_]) rfl rfl rfl (by rfl) (by rfl) (by rfl)) ?_;rintro _ _ _ ⟨n,rfl,rfl,rfl⟩;refine aG ((d.trans (a.trans b))) ?_;refine AU n (by simp) (by simp) ?_;intro I c E;have j:=Fm hk E;exact aR k (_,_,_,_,_) ⟨(d.trans (a.trans (b.trans c))),j.mono (mR),w.mono ((a.trans (b.trans c))),e.mono ((b.trans c)),f.mono (c)⟩
  refine sh rfl (Ab (cs:=[_]) rfl rfl rfl (by rfl) (by rfl) (by rfl)) ?_;rintro _ _ _ ⟨g,rfl,rfl,rfl⟩;refine aG (d) ?_;refine AU g (by simp) (by simp) ?_;intro o b m;have f:BS o (.slice (sA g 0) 1 1) [bU x.val.length]:=⟨_,1,rfl,lR,SM.of_block (l:=Aa [bU x.val.length]) m⟩;refine Be [3,11] (by kernel_rfl) rfl ⟨?_,?_,trivial⟩
  ·refine sh rfl (Ab (cs:=[_]) rfl rfl rfl (by rfl) (by rfl) (by rfl)) ?_;rintro _ _ _ ⟨n,rfl,rfl,rfl⟩;refine aG ((d.trans b)) ?_;refine AU n (by simp) (by simp) ?_;intro I c E;have j:=Fm hk E;refine aO 11 ?_;refine sh rfl (hC (A6 x.key.off _)) ?_;rintro z D _ ⟨a,C,rfl,e,rfl⟩;refine aG (((d.trans (b.trans c))).trans a) ?_;simp only[nil_append];exact aR k (_,_,_,_,_) ⟨(d.trans (b.trans (c.trans a))),j.mono (a),w.mono ((b.trans (c.trans a))),e.mono (mR),f.mono ((c.trans a))⟩
  refine sh rfl (hC (A6 x.key.off _)) ?_;rintro z D _ ⟨a,C,rfl,e,rfl⟩;refine aG (((d.trans b)).trans a) ?_;simp only[nil_append];refine aO 3 ?_;refine sh rfl (Ab (cs:=[_]) rfl rfl rfl (by rfl) (by rfl) (by rfl)) ?_;rintro _ _ _ ⟨n,rfl,rfl,rfl⟩;refine aG ((d.trans (b.trans a))) ?_;refine AU n (by simp) (by simp) ?_;intro I c E;have j:=Fm hk E;exact aR k (_,_,_,_,_) ⟨(d.trans (b.trans (a.trans c))),j.mono (mR),w.mono ((b.trans (a.trans c))),e.mono (c),f.mono ((a.trans c))⟩
 refine sh rfl (Ab (cs:=[_]) rfl rfl rfl (by rfl) (by rfl) (by rfl)) ?_;rintro _ _ _ ⟨g,rfl,rfl,rfl⟩;refine aG (mR) ?_;refine AU g (by simp) (by simp) ?_;intro o b m;have f:BS o (.slice (sA g 0) 1 1) [bU x.val.length]:=⟨_,1,rfl,lR,SM.of_block (l:=Aa [bU x.val.length]) m⟩;refine Be [3,7] (by kernel_rfl) rfl ⟨?_,?_,trivial⟩
 ·refine sh rfl (Ab (cs:=[_]) rfl rfl rfl (by rfl) (by rfl) (by rfl)) ?_;rintro _ _ _ ⟨n,rfl,rfl,rfl⟩;refine aG (b) ?_;refine AU n (by simp) (by simp) ?_;intro I c E;have j:=Fm hk E;refine aO 7 ?_;refine sh rfl (hC (A6 x.key.id _)) ?_;rintro O V _ ⟨d,U,rfl,w,rfl⟩;refine aG (((b.trans c)).trans d) ?_;simp only[nil_append];refine aO 11 ?_;refine sh rfl (hC (A6 x.key.off _)) ?_;rintro z D _ ⟨a,C,rfl,e,rfl⟩;refine aG (((b.trans (c.trans d))).trans a) ?_;simp only[nil_append];exact aR k (_,_,_,_,_) ⟨(b.trans (c.trans (d.trans a))),j.mono ((d.trans a)),w.mono (a),e.mono (mR),f.mono ((c.trans (d.trans a)))⟩
 refine sh rfl (hC (A6 x.key.id _)) ?_;rintro O V _ ⟨d,U,rfl,w,rfl⟩;refine aG ((b).trans d) ?_;simp only[nil_append];refine Be [3,11] (by kernel_rfl) rfl ⟨?_,?_,trivial⟩
 ·refine sh rfl (Ab (cs:=[_]) rfl rfl rfl (by rfl) (by rfl) (by rfl)) ?_;rintro _ _ _ ⟨n,rfl,rfl,rfl⟩;refine aG ((b.trans d)) ?_;refine AU n (by simp) (by simp) ?_;intro I c E;have j:=Fm hk E;refine aO 11 ?_;refine sh rfl (hC (A6 x.key.off _)) ?_;rintro z D _ ⟨a,C,rfl,e,rfl⟩;refine aG (((b.trans (d.trans c))).trans a) ?_;simp only[nil_append];exact aR k (_,_,_,_,_) ⟨(b.trans (d.trans (c.trans a))),j.mono (a),w.mono ((c.trans a)),e.mono (mR),f.mono ((d.trans (c.trans a)))⟩
 refine sh rfl (hC (A6 x.key.off _)) ?_;rintro z D _ ⟨a,C,rfl,e,rfl⟩;refine aG (((b.trans d)).trans a) ?_;simp only[nil_append];refine aO 3 ?_;refine sh rfl (Ab (cs:=[_]) rfl rfl rfl (by rfl) (by rfl) (by rfl)) ?_;rintro _ _ _ ⟨n,rfl,rfl,rfl⟩;refine aG ((b.trans (d.trans a))) ?_;refine AU n (by simp) (by simp) ?_;intro I c E;have j:=Fm hk E;exact aR k (_,_,_,_,_) ⟨(b.trans (d.trans (a.trans c))),j.mono (mR),w.mono ((a.trans c)),e.mono (c),f.mono ((d.trans (a.trans c)))⟩
def C3(lv:Int)(xs:List It):List By:=[78,bU lv,bU xs.length]++xs.flatMap Gi
def J3(lv:Int)(xs:List It):List By:=J2 (C3 lv xs)
theorem ZL{x:It}(h:Bv x=false):(Gi x).length<=24:=by
 grind[Bv,Gi,Cw,JU]
theorem Gw:∀{xs:List It},(∀x∈xs,Bv x=false)->(xs.flatMap Gi).length<=24*xs.length
 |[],_=>by simp
 |x::xs,h=>by
  have c:=ZL (h x (by simp));have b:=Gw (λy a=>h y (List.mem_cons_of_mem _ a));grind
variable{lv:Int}{xs:List It}
theorem wJm(h:¬CT lv xs≠0):Cx lv xs=true:=by
 grind[Cx,CT]
theorem SH(h:k<xs.length):(xs.take (k+1)).flatMap Gi=(xs.take k).flatMap Gi++Gi xs[k]:=by
 rw[List.take_succ_eq_append_getElem h,List.flatMap_append];simp
theorem Nw(lv:Int)(xs:List It)(a:Option Addr)(c:Nat)(ps:List (It×Value))(M:Mem)(hc:xs.length<=c)(hs:SM M a (ps.flatMap Ad))(o:ps.map (·.1)=xs)(Y:∀p∈ps,BS M p.2 p.1.val)(N:∀x∈xs,0<=x.key.kind/\x.key.kind<256):
  Sg 90 #[.agg #[iL lv,.slice a xs.length c]] M [] λu M' L'=>(if Cx lv xs then ∃s,u=.tuple #[s,iL 0]/\BS M' s (J3 lv xs)else u=.tuple #[sN,iL 8])/\L'=[]:=by
 have L:NS M (.slice a xs.length c) xs:=⟨a,c,ps,rfl,hc,hs,o,Y⟩;refine sB func90 ntmps90 ?_;intro W;refine ga λb1=>?_;refine gQ (FS lv xs _ M L) ?_;refine gj (λz=>?_) λz=>?_
 ·refine gh ?_;refine AE (L':=[]) (by simp) ?_;refine gr ?_;grind[Cx,CT]
 refine gh ?_;have w:=wJm z;have l:=NdOk.of w;have ac:=l.lev;have X:=l.len;have h:=λx D=>(B1 l.ok x D).1;have ad:=Gw h;refine lq (Bo (Bm rfl rfl rfl) (by rw[Fc])) ?_;refine gh ?_;refine lq (Bo (Bm rfl rfl rfl) (by rw[Fc])) ?_;refine lh (Ab (cs:=[_,_,_]) rfl rfl rfl (by rfl) (by rfl) (by rfl)) ?_;rintro _ _ _ ⟨B,rfl,rfl,rfl⟩;refine gh ?_;refine Cy (α:=Nat×Mem×Lc×Value) (λx=>[(1,pB b1),(5,x.2.2.2),(24,.slice a xs.length c),(25,iL xs.length),(26,iL x.1)]) (λx=>x.2.1) (λx=>x.2.2.1++[(b1,cE [iL lv,.slice a xs.length c] 81)]) (λx=>x.1<=xs.length/\MLe M x.2.1/\Own x.2.2.2 x.2.2.1 5 1 (3+((xs.take x.1).flatMap Gi).length) (Aa ([78,bU lv,bU xs.length]:List By)++Aa ((xs.take x.1).flatMap Gi))/\((xs.take x.1).flatMap Gi).length<=24*x.1) (λx=>xs.length-x.1) (0,M,_,.slice (sA B 0) 3 3) ⟨zL,mR,⟨rfl,.inr ⟨B,3,_,rfl,rfl,lR,by decide,rfl,rfl⟩⟩,zL⟩ ?_;rintro⟨k,Mk,R,s⟩ ⟨hk,g,b,y⟩;try dsimp only at hk g b y⊢
 refine gj (λT=>?_) λT=>?_
 ·refine gh ?_;have m:k<xs.length:=by omega
  have H:=hs.mono g;have Q:=λp o=>(Y p o).mono g;obtain⟨sb,so,e0,D⟩:=H.open (by intro e;have:=cA length e;rw[Af Ad 5 Ae,length_nil]at this;have h2:=cA length o;rw[length_map]at h2;omega);subst e0;obtain⟨V,U,O,F,E⟩:=Av D o Q m;have n:=h xs[k] (getElem_mem m);have aa:=ZL n;have C:=N xs[k] (getElem_mem m);refine gh ?_;refine lq (A0 (cs:=EL xs[k] V U) rfl rfl rfl rfl rfl (λi v hv=>(O i v hv).cj _)) ?_;refine ga λb7=>?_;refine gc (VD xs[k] V U Mk F E n C) ?_;rintro _ Mw S ⟨sw,rfl,wa,wc,rfl,ab,G⟩;refine gh ?_;refine lh (D2 (R:=R) (news:=Aa (Gi xs[k])) rfl rfl rfl rfl b (by rw[Ac,mO]) G (by rfl) (BI _) (by omega) (by omega)) ?_;rintro s' _ _ ⟨rfl,R',rfl,j⟩;obtain⟨a2,c2,rfl⟩:=j.form;refine gh ?_;refine BB (k+1,Mw,R',.slice a2 _ c2) ⟨by show k+1<=xs.length;omega,g.trans S,?_,?_⟩
  ·grind [Own,Gi,Aa,SH]
  grind[Gi,SH]
 refine gh ?_;obtain rfl:k=xs.length:=by omega
 rw[take_length]at b y;have d:(C3 lv xs).length=3+(xs.flatMap Gi).length:=by grind[C3]
 have f:Aa (C3 lv xs)=Aa ([78,bU lv,bU xs.length]:List By)++Aa (xs.flatMap Gi):=by grind[C3,Aa]
 have K:(C3 lv xs).length<=124:=by omega
 refine Kz b (by simp) ?_;intro M8 a8 c8 af e8 P J;cases e8;refine gc (by have Z:=wBk (C3 lv xs) a8 c8 M8 (by rw[d];exact P) (by rw[f];exact J) K;rw[d]at Z;exact Z) ?_;rintro _ M9 ae ⟨s9,rfl,I⟩;refine gh ?_;refine AE (L':=[]) (by simp) ?_;refine gr ?_;refine⟨?_,rfl⟩;rw[iP w];exact⟨_,rfl,I⟩
abbrev WT:TypeId:=154
def WOwn(M:Mem)(wv:Value)(Rw:Lc)(ws:List Wt):Prop:=∃ps:List (Wt×Value),ps.map (·.1)=ws/\(∀p∈ps,BS M p.2 p.1.2)/\
 (Own wv Rw WT 2 ws.length (ps.flatMap Bb)\/(Rw=[]/\(ps.flatMap Bb).length=ws.length*2/\∃ba,wv=.slice (some ba) ws.length ws.length/\(ps.flatMap Bb=[]\/ba.spot=none)/\∀i u,(ps.flatMap Bb)[i]? =some u->CM M ba.block (ba.off+i) u))
def BOwn(M:Mem)(bb:Nat)(Lb:Lc)(s:Sto):Prop:=∃bv wv na nc lv Rw Rn,Lb=(bb,cE [bv,wv,.slice na s.now.length nc,lv] Eg)::(Rw++Rn)/\LS M bv s.blocks/\BS M lv s.last/\Own (.slice na s.now.length nc) Rn 5 1 s.now.length (Aa s.now)/\WOwn M wv Rw s.waits
variable{M:Mem}{Rw:Lc}{ws:List Wt}{wv:Value}
theorem WOwn.mono{M':Mem}(h:WOwn M wv Rw ws)(f:MLe M M'):WOwn M' wv Rw ws:=by
 obtain⟨g,n,m,l⟩:=h;refine⟨g,n,λp k=>(m p k).mono f,l.imp id ?_⟩;rintro⟨a,b,o,c,d,e⟩;exact⟨a,b,o,c,d,λi u j=>(e i u j).mono f⟩
variable{Lb:Lc}{bb:Nat}{s:Sto}
theorem BOwn.mono{M':Mem}(h:BOwn M bb Lb s)(a:MLe M M'):BOwn M' bb Lb s:=by
 obtain⟨j,wv,c,b,lv,Rw,k,i,g,f,e,d⟩:=h;exact⟨j,wv,c,b,lv,Rw,k,i,g.mono a,f.mono a,e,d.mono a⟩
def Bj(s:Sto)(k:Nat):Int:=if s.now.getD k 0=0 then 6 else if s.now.getD k 0=255 then 70 else 0
def A7(s:Sto)(k:Nat):Sto:={ s with now:=s.now.set k (s.now.getD k 0+1) }
variable{b:By}
theorem X1(h:b≠255):((b+1).toNat:Int)=(b.toNat:Int)+1/\(b.toNat:Int)+1<256:=by
 have c:=b.toNat_lt;have a:b.toNat≠255:=λe=>h (UInt8.toNat.inj e);rw[UInt8.toNat_add];grind
variable{k:Nat}
theorem Jn(h:Bj s k=0):s.now.getD k 0≠0/\s.now.getD k 0≠255:=by
 grind[Bj]
theorem nz_u8(h:b≠0):¬((b.toNat:Int)=0):=λe=>h (UInt8.toNat.inj (by simpa using e))
theorem wRr(h:b≠255):¬((b.toNat:Int)=255):=λe=>h (UInt8.toNat.inj (by have:(255:By).toNat=255:=rfl;omega))
theorem Xc(s:Sto)(k f:Nat)(hk:k<s.now.length)(F:Bj s k=0)(n j lv:Value)(g:Option Addr)(d:Nat)(i z:Lc)(M:Mem)(a:Own (.slice g s.now.length d) z 5 1 s.now.length (Aa s.now)):
  Sg 91 #[pB f,iL k] M ((f,cE [n,j,.slice g s.now.length d,lv] Eg)::(i++z)) λu J L'=>u=iL 0/\J=M/\∃b,L'=(f,cE [n,j,.slice g s.now.length d,lv] Eg)::(i++b)/\Own (.slice g s.now.length d) b 5 1 s.now.length (Aa (A7 s k).now):=by
 have e:(Aa s.now)[k]? =some (iB ((s.now.getD k 0).toNat:Int)):=B5 hk;obtain⟨G,c⟩:=Jn F;have C:=nz_u8 G;have m:=wRr c;obtain⟨E,D⟩:=X1 c;obtain⟨B,y,o,I,H,_⟩:=a.open (by omega);cases I;cases H;refine sB func91 ntmps91 ?_;intro W;refine gh ?_;refine lq (Aw rfl rfl rfl rfl (by rw[mO,Nat.zero_add];exact a.cj (by simp) e)) ?_;refine gt ?_;refine lq (Aw rfl rfl rfl rfl (by rw[mO,Nat.zero_add];exact a.cj (by simp) e)) ?_;refine lq (wQx rfl rfl rfl rfl rfl (by rw[IntKind.wrap_u8];omega)) ?_;refine gh ?_;refine Dv rfl (DO rfl rfl rfl rfl rfl rfl a rfl (by omega)) ?_;rintro _ _ _ ⟨rfl,b,rfl,l⟩;refine gh ?_;refine AL (L':=(f,cE [n,j,.slice (sA B 0) s.now.length d,lv] Eg)::(i++b)) (λw h=>h.perm ?_) ?_
 ·simpa using (List.perm_append_comm (l₁:=b) (l₂:=(f,_)::i))
 refine GK rfl rfl ?_;simp_all [Aa,A7]
theorem GP(s:Sto)(k:Nat):(A7 s k).now.length=s.now.length:=by grind[A7]
theorem PF(s:Sto)(k a:Nat)(hk:k<s.now.length)(l:Bj s k=0)(M:Mem)(i:Lc)(h:BOwn M a i s):Sg 91 #[pB a,iL k] M i λu g j=>u=iL 0/\BOwn g a j (A7 s k):=by
 obtain⟨f,wv,d,c,lv,Rw,D,rfl,w,o,n,m⟩:=h;refine(Xc s k a hk l f wv lv d c Rw D M n).mono λu g j ⟨C,B,b,z,y⟩=>?_;subst B;have e:=GP s k;exact⟨C,f,wv,d,c,lv,Rw,b,by rw[e];exact z,w,o,by rw[e];exact y,m⟩
def HX(s:Sto)(k:Nat):Prop:=s.now.getD k 0=0/\s.last.getD k 0=0
instance(s:Sto)(k:Nat):Decidable (HX s k):=by unfold HX;exact inferInstance
def HZ(s:Sto):Nat->Nat->Nat
 |0,k=>k
 |f+1,k=>if HX s k then k else HZ s f (k+1)
def BD(s:Sto):Nat:=HZ s 248 8
def Ai(s:Sto)(xs:List It):Sto:=xs.foldl (λt x=>if x.ref=0 then t else A7 t x.ref.toNat) s
def wVk(s:Sto)(xs:List It):Prop:=∀k (h:k<xs.length),xs[k].ref≠0->Bj (Ai s (xs.take k)) xs[k].ref.toNat=0
def LY(s:Sto)(k:Nat)(b:List By):Sto:={ s with waits:=s.waits++[((k:Int),b)],now:=s.now.set k 1 }
def Ew(s:Sto)(lv:Int)(xs:List It):Sto:=LY (Ai s xs) (BD (Ai s xs)) (J3 lv xs)
variable{xs:List It}
theorem EE(h:k<xs.length):Ai s (xs.take (k+1))=if xs[k].ref=0 then Ai s (xs.take k)else A7 (Ai s (xs.take k)) xs[k].ref.toNat:=by
 rw[List.take_succ_eq_append_getElem h];unfold Ai;rw[List.foldl_append];rfl
theorem CA(s:Sto)(xs:List It):(Ai s xs).now.length=s.now.length/\(Ai s xs).waits=s.waits/\(Ai s xs).last=s.last/\(Ai s xs).blocks=s.blocks:=by
 unfold Ai;induction xs generalizing s with
 |nil=>grind
 |cons x xs a=>
  grind[A7,GP]
theorem YR(a b:By):Nf .u8 (a.toNat:Int) (b.toNat:Int)=((a ||| b).toNat:Int):=by
 have f:=a.toNat_lt;have c:=b.toNat_lt;have d:=(a ||| b).toNat_lt;unfold Nf;rw[IntKind.wrap_u8];have e:(BitVec.ofInt IntKind.u8.bits (a.toNat:Int) ||| BitVec.ofInt IntKind.u8.bits (b.toNat:Int)).toNat=(a ||| b).toNat:=by
  rw[BitVec.toNat_or,UInt8.toNat_or,BitVec.ofInt_natCast,BitVec.ofInt_natCast,BitVec.toNat_ofNat,BitVec.toNat_ofNat];rw[Nat.mod_eq_of_lt (by simpa [IntKind.bits]using f),Nat.mod_eq_of_lt (by simpa [IntKind.bits]using c)]
 omega
theorem Le(a b:By):(a ||| b)=0↔a=0/\b=0:=by
 grind
variable{A:Lc}
theorem wUc{B C:Lc}:(A++(B++C)).Perm (C++(B++A)):=by
 refine List.perm_append_comm.trans ?_;rw[<-List.append_assoc C B A];exact(List.perm_append_comm (l₁:=B) (l₂:=C)).append_right A
theorem WOwn.form(h:WOwn M wv Rw ws):∃d b,wv=.slice d ws.length b:=by
 obtain⟨g,j,i,f|⟨_,_,k,rfl,_⟩⟩:=h
 ·obtain ⟨a,c,e⟩:=f.form;exact⟨a,c,e⟩
 grind
theorem ZS(hk:k<256)(h:¬HX s k):HZ s (256-k) k=HZ s (256-(k+1)) (k+1):=by
 rw[show 256-k=(256-(k+1))+1 by omega,HZ,iN h]
theorem ZU(hk:k<256)(h:HX s k):HZ s (256-k) k=k:=by
 rw[show 256-k=(256-(k+1))+1 by omega,HZ,iP h]
theorem YT(s:Sto)(lv:Int)(xs:List It)(a:Option Addr)(c:Nat)(ps:List (It×Value))(M:Mem)(hc:xs.length<=c)(hs:SM M a (ps.flatMap Ad))(d:ps.map (·.1)=xs)(hb:∀p∈ps,BS M p.2 p.1.val)(ap:∀x∈xs,0<=x.key.kind/\x.key.kind<256)(y:Nat)(Lb:Lc)(a1:BOwn M y Lb s)(H:Cx lv xs=true)(aj:s.now.length=256)(am:s.last.length=256)(ac:wVk s xs)(ay:BD (Ai s xs)<256)(a9:s.waits.length<4096):
  Sg 48 #[pB y,.agg #[iL lv,.slice a xs.length c]] M Lb λu M' L'=>u=.tuple #[iL (BD (Ai s xs)),iL 0]/\BOwn M' y L' (Ew s lv xs):=by
 have aH:NS M (.slice a xs.length c) xs:=⟨a,c,ps,rfl,hc,hs,d,hb⟩;have z:=NdOk.of H;have a7:=z.len;have aK:(J3 lv xs).length=128:=by
  refine Jp ?_;have:=Gw (λx V=>(B1 z.ok x V).1);grind[C3]
 refine sB func48 ntmps48 ?_;intro W;refine ga λb3=>?_;refine gc (Nw lv xs a c ps M hc hs d hb ap) ?_;rintro _ M1 B I;rw[iP H]at I;obtain⟨s6,rfl,F⟩:=I;obtain⟨n,l,rfl,a6,a5⟩:=id F;simp only[nil_append];refine gt ?_;refine Cy (α:=Nat×Mem×Lc) (λx=>[(0,pB y),(3,pB b3),(6,.slice n (J3 lv xs).length l),(19,.slice a xs.length c),(20,iL xs.length),(21,iL x.1)]) (λx=>x.2.1) (λx=>(b3,cE [iL lv,.slice a xs.length c] 81)::x.2.2) (λx=>x.1<=xs.length/\MLe M1 x.2.1/\BOwn x.2.1 y x.2.2 (Ai s (xs.take x.1))) (λx=>xs.length-x.1) (0,M1,Lb) ⟨zL,mR,a1.mono B⟩ ?_;rintro⟨k,O,Lk⟩ ⟨hk,b,D⟩;try dsimp only at hk b D⊢
 refine gj (λa3=>?_) λa3=>?_
 ·refine gh ?_;have g:k<xs.length:=by omega
  have ab:=hs.mono (B.trans b);have ax:=λp d=>(hb p d).mono (B.trans b);obtain⟨sb,so,K,V⟩:=ab.open (by intro e;have:=cA length e;rw[Af Ad 5 Ae,length_nil]at this;have h2:=cA length d;rw[length_map]at h2;omega);subst K;obtain⟨va,vc,aw,aB,aA⟩:=Av V d ax g;have a8:=z.ref xs[k] (getElem_mem g);have J:=(CA s (xs.take k)).1;refine gh ?_;refine lq (A0 (cs:=EL xs[k] va vc) rfl rfl rfl rfl rfl (λi v hv=>(aw i v hv).cj _)) ?_;refine gA λb8=>?_;refine gj (λo=>?_) λo=>?_
  ·refine gh ?_;refine BB (k+1,O,Lk) ⟨by show k+1<=xs.length;omega,b,by show BOwn _ _ _ (Ai s (xs.take (k+1)));rw[EE g,iP o];exact D⟩
  refine gh ?_;have ao:((xs[k].ref.toNat:Nat):Int)=xs[k].ref:=Int.toNat_of_nonneg (by omega);refine lh (BU rfl rfl rfl rfl rfl (by kernel_rfl) (by have:=PF (Ai s (xs.take k)) xs[k].ref.toNat y (by omega) (ac k g o) O Lk D;rwa[ao]at this)) ?_;rintro _ Mn _ ⟨az,R',rfl,⟨rfl,a0⟩⟩;refine gt ?_;refine BB (k+1,Mn,R') ⟨by show k+1<=xs.length;omega,b.trans az,by show BOwn _ _ _ (Ai s (xs.take (k+1)));rw[EE g,iN o];exact a0⟩ (hs:=λw h=>(h.perm List.perm_append_comm).fewer (by simp))
 refine gh ?_;obtain rfl:k=xs.length:=by omega
 rw[take_length]at D;obtain⟨t,ht⟩:∃t,t=Ai s xs:=⟨_,rfl⟩;obtain⟨ag,af,ae,ad⟩:=CA s xs;rw[<-ht]at D ay ag af ae ad;obtain⟨bv,wv,na,U,lw,Rw,Rn,rfl,g2,g3,g4,g5⟩:=D;obtain⟨wa,wc,rfl⟩:=g5.form;have aE:t.now.length=256:=by omega
 have aF:t.last.length=256:=by grind
 have aC:t.waits.length<4096:=by grind
 obtain⟨T,a4,E,K,e1,_⟩:=g4.open (by omega);cases K;cases e1;obtain⟨la,lc,rfl,aI,al⟩:=id g3;obtain⟨lb,lo,K,ak⟩:=al.open (by intro e;have:=cA length e;rw[Ac,length_nil]at this;omega);subst K;refine Cy (α:=Nat) (λj=>[(0,pB y),(4,iL (j:Int)),(6,.slice n (J3 lv xs).length l)]) (λ_=>O) (λ_=>(b3,cE [iL lv,.slice a xs.length c] 81)::(y,cE [bv,.slice wa t.waits.length wc,.slice (sA T 0) t.now.length U,.slice (sA lb lo) t.last.length lc] Eg)::(Rw++[(T,.cells E 5 (0,0))])) (λj=>j<=256/\HZ t (256-j) j=BD t) (λj=>256-j) 8 ⟨by omega,rfl⟩ ?_;rintro j ⟨hj,hI⟩;try dsimp only at hj hI⊢
 have G:Nf .u8 ((t.now.getD j 0).toNat:Int) ((t.last.getD j 0).toNat:Int)=((t.now.getD j 0 ||| t.last.getD j 0).toNat:Int):=YR _ _;refine gh ?_;refine Qp [0,1,2,3,4,5,6,7,8,9,10,11,12,13,14,15,16,17,18,19,20,21] ?_;refine gj (λa2=>?_) λa2=>?_
 ·refine gh ?_;have aq:(Aa t.now)[j]? =some (iB ((t.now.getD j 0).toNat:Int)):=B5 (by omega);have au:(Aa t.last)[j]? =some (iB ((t.last.getD j 0).toNat:Int)):=B5 (by omega);refine dq rfl (Aw rfl rfl rfl rfl (by rw[mO,Nat.zero_add];exact g4.cj (by simp) aq)) ?_;refine gh ?_;refine dq rfl (Aw rfl rfl rfl rfl ((ak _ _ (by rw[mO];exact au)).cj _)) ?_;refine dq rfl (EH rfl rfl rfl rfl rfl) ?_;refine gj (λC=>?_) λC=>?_
  ·refine gh ?_;have ai:¬HX t j:=λhf=>C (by rw[G,(Le _ _).2 hf];rfl);refine BB (j+1) ⟨by omega,by rw[<-ZS (by omega) ai];exact hI⟩
  refine gt ?_;refine lh (Ab (cs:=[_,_]) rfl rfl rfl (by rfl) (by rfl) (by rfl)) ?_;rintro _ _ _ ⟨aL,rfl,rfl,rfl⟩;obtain⟨P,aa,Z,Y⟩:=id g5;have aJ:HX t j:=(Le _ _).1 (UInt8.toNat.inj (by have:=nN C;rw[G]at this;simpa using this));have av:BD t=j:=by grind[ZU]
  refine lh (VQ (R:=Rw) (m:=1) (news:=[iL (j:Int),.slice n (J3 lv xs).length l]) rfl rfl rfl rfl Y rfl (λi v hv=>CJ.loc (by simpa using hv)) rfl (by rfl) (by simp[Value.oneCell']) (by omega) (by omega) (by omega)) ?_;rintro _ _ _ ⟨rfl,L,rfl,f⟩;obtain⟨S,Q,rfl⟩:=f.form;refine gh ?_;refine Dv rfl (DO (u:=iB 1) rfl rfl rfl rfl rfl rfl g4 rfl (by omega)) ?_;rintro _ _ _ ⟨rfl,N,rfl,ah⟩;refine gh ?_;refine AL (M':=O) (L':=(y,cE [bv,.slice S (t.waits.length+1) Q,.slice (sA T 0) t.now.length U,.slice (sA lb lo) t.last.length lc] Eg)::(L++N)) (λw h=>?_) ?_
  ·have h2:=h.perm wUc;exact h2.fewer (.cons _ (.cons _ (.refl _)))
  refine wPj rfl rfl rfl ?_;have hT:Ew s lv xs=LY t j (J3 lv xs):=by grind[Ew]
  refine⟨by rw[<-ht,av],?_⟩;rw[hT];have J:(LY t j (J3 lv xs)).now.length=t.now.length:=by grind[LY]
  have X:(LY t j (J3 lv xs)).waits.length=t.waits.length+1:=by grind[LY]
  refine⟨bv,_,_,U,_,L,N,by rw[J],g2,g3,?_,P++[(((j:Int),J3 lv xs),.slice n (J3 lv xs).length l)],?_,?_,.inl ?_⟩
  ·simp_all [Aa,LY,J3]
  ·rw [List.map_append,aa];rfl
  ·intro p d;rcases mA d with d|d
   ·exact Z p d
   rw[mS d];exact F.mono b
  rw[X,List.flatMap_append];exact f
 exfalso;obtain rfl:j=256:=by omega
 have:BD t=256:=hI.symm;omega
end Go.Proofs.YtjheijhahehnmaaGreatDoor
