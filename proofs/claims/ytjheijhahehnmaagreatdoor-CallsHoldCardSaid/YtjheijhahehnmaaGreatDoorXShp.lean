/- Lemmas. -/
import Derived.Test.YtjheijhahehnmaaGreatDoorXTake
namespace Go.Proofs.YtjheijhahehnmaaGreatDoor
open Go.Proofs.Tryz
open List (length)
set_option linter.unusedSimpArgs false
set_option linter.unusedVariables false
set_option linter.unusedSectionVars false
set_option maxHeartbeats 40000000
set_option maxRecDepth 8000
open Go.RowKit
def tk(x:Int):Prop:=8<=x/\x<256
instance(x:Int):Decidable (tk x):=by unfold tk;exact inferInstance
theorem Gf(x:Int):((bU x).toNat:Int)=x%256:=by
 unfold bU;rw[UInt8.toNat_ofNat'];omega
theorem wLw(x:By):D3 [x]=(x.toNat:Int):=by
 have:∀n:Nat,n<256->D3 [UInt8.ofNat n]=((UInt8.ofNat n).toNat:Int):=by decide +kernel
 have h:=this x.toNat x.toNat_lt;rwa[UInt8.ofNat_toNat]at h
variable{a:Int}
theorem Ub(h:0<=a/\a<16777216)(y:By):Nf .u32 (LV .u32 a 8) (y.toNat:Int)=a*256+(y.toNat:Int):=by
 have e:=y.toNat_lt;have b:LV .u32 a 8=a*256:=by
  unfold LV;rw[IntKind.wrap_u32,show (2:Int) ^ (min 8 IntKind.u32.bits)=256 by decide];omega
 rw[b];unfold Nf;rw[IntKind.wrap_u32];have d:(BitVec.ofInt IntKind.u32.bits (a*256)).toNat=2 ^ 8*a.toNat:=by
  rw[BitVec.toNat_ofInt];show ((a*256)%4294967296).toNat=_;omega
 have c:(BitVec.ofInt IntKind.u32.bits (y.toNat:Int)).toNat=y.toNat:=by
  rw[BitVec.toNat_ofInt];show (((y.toNat:Int))%4294967296).toNat=_;omega
 rw[BitVec.toNat_or,d,c,<-Nat.two_pow_add_eq_or_of_lt (by omega)];omega
theorem VW(x y:By):D3 [x,y]=(x.toNat:Int)*256+(y.toNat:Int):=by
 have a:=x.toNat_lt;show D3 ([x]++[y])=_;rw[E5,wLw,Ub (by omega)]
theorem wEm(x y z w:By):D3 [x,y,z,w]=(((x.toNat:Int)*256+(y.toNat:Int))*256+(z.toNat:Int))*256+(w.toNat:Int):=by
 have d:=x.toNat_lt;have c:=y.toNat_lt;have b:=z.toNat_lt;have a:D3 [x,y,z]=((x.toNat:Int)*256+(y.toNat:Int))*256+(z.toNat:Int):=by
  show D3 ([x,y]++[z])=_;rw[E5,VW,Ub (by omega)]
 show D3 ([x,y,z]++[w])=_;rw[E5,a,Ub (by omega)]
variable{k:Int}
theorem LM(n:Int)(hk:0<k):n.fdiv k=n / k:=by rw[Int.fdiv_eq_ediv_of_nonneg _ (by omega)]
variable{n:Int}
theorem JP(h:0<=n/\n<4294967296):D3 (Cw n).reverse=n:=by
 show D3 [bU (DV .u32 n 24),bU (DV .u32 n 16),bU (DV .u32 n 8),bU n]=n;rw[wEm,Gf,Gf,Gf,Gf];have c:DV .u32 n 8=n / 256:=LM n (by decide);have b:DV .u32 n 16=n / 65536:=LM n (by decide);have a:DV .u32 n 24=n / 16777216:=LM n (by decide);rw[c,b,a];omega
theorem Uv(h:0<=n/\n<65536):D3 (JU n).reverse=n:=by
 show D3 [bU (DV .i64 n 8),bU n]=n;rw[VW,Gf,Gf];have a:DV .i64 n 8=n / 256:=LM n (by decide);rw[a];omega
variable{xs:List By}
theorem JK(c b post:List By){a n:Nat}(d:xs=c++(b++post))(f:a=c.length)(e:n=b.length):Ee xs a n=D3 b.reverse:=by
 subst d f e;unfold Ee;rw[List.drop_left,List.take_left]
theorem Uw(xs:List By):0<=J1 xs/\J1 xs<4294967296:=by
 unfold J1 Ua;rw[IntKind.wrap_u32];omega
theorem wBm(b:List By):(J2 b).drop 4=Gq b:=rfl
variable{b:List By}
theorem wCh(h:b.length<=124):CD (J2 b)=0:=by
 unfold CD;rw[iN (by rw[Jp h];decide),iN];rw[wBm,JK (xs:=J2 b) (a:=0) (n:=4) [] (Cw (J1 (Gq b))) (Gq b) rfl rfl rfl,JP (Uw _)];exact λh=>h rfl
/- a superblock's numbers in a block -/
/- the superblocks that are found -/
section
variable{P:Program}{ops:Array Oper}{N:Fs}{F:Fr}{E:Ent}{M:Mem}{L:Lc}{o:Oper}
end
section
variable{P:Program}{ops:Array Oper}{N:Fs}{F:Fr}{W:World}{X:List Nat}{M0 M:Mem}{L:Lc}{Q:Exit->Act->World->Prop}{rest:List Oper}
theorem wSe{v:Value}{R L2:Lc}{e:TypeId}{size n:Nat}{xs:List Value}(u:Own v R e size n xs)[s:Pick R L L2](y:∀x∈X,x∈L2.map (·.1))
  (h:∀M' a b,MLe M M'->v=.slice a n b->n<=b->SM M' a xs->JL P ops N Q rest F ⟨W,X,M0⟩ M' L2):JL P ops N Q rest F ⟨W,X,M0⟩ M L:=by
 intro a w B o;have c:=o.perm s.perm;have g:=c.nodup;rw[List.map_append]at g;have z:=(List.nodup_append.1 g).2.2;obtain⟨M',C,b,m,l,k,j,i⟩:=u.freeze (λp f d=>z _ (List.mem_map_of_mem f) _ (y _ d) rfl) c;exact h M' C b m l k j a w B i
end
theorem YD(s:Sto)(k:Nat)(hk:k<256)(J:H6 s.blocks s.waits)(bv:Value)(C:Option Addr)(B:Nat)(ps:List (Wt×Value))(M:Mem)(h1:LS M bv s.blocks)(V:s.waits.length<=B)(H:SM M C (ps.flatMap Bb))(Q:ps.map (·.1)=s.waits)(hb:∀q∈ps,BS M q.2 q.1.2):
  Sg 284 #[.agg #[bv,.slice C s.waits.length B],iL k] M [] λu M' L'=>(∃v,u=.tuple #[v,iL 0]/\BS M' v (seen s k))/\L'=[]:=by
 obtain⟨av,au,ab,aa⟩:=id J;have ak:=h1;obtain⟨ba,bc,ao,rfl,ax,ag,K,ah⟩:=h1;obtain⟨bb,bo,e0,af⟩:=ag.open (by intro e;have:=cA length e;rw[List.length_map,List.length_nil]at this;have h2:=cA length K;rw[List.length_map]at h2;omega);subst e0;obtain⟨va,vc,ad,Y,X⟩:=Df af K ah (k:=k) (by omega);have G:WS M (.slice C s.waits.length B) s.waits:=⟨C,B,ps,rfl,V,H,Q,hb⟩;have aw:s.blocks[k].length=128:=ab _ (List.getElem_mem _);refine sB func284 ntmps284 ?_;intro W;refine ga λb2=>?_;refine lh (Bz (cs:=[iL k]) rfl rfl rfl rfl) ?_;rintro _ _ _ ⟨b3,rfl,rfl,rfl⟩;refine JM λO N=>?_;refine gQ (H7 s.blocks s.waits _ _ M ak G J k (by omega)) ?_;refine gt ?_;refine gC (bww _ _ _ M) ?_;rintro _ M1 _ f ⟨al,rfl,m,rfl⟩;have ac:ps.length=s.waits.length:=by grind
 rw[<-ac]at m;refine gh ?_;refine BH b2 (by simp) ?_;intro ay n e2;refine BH b3 (by simp) ?_;intro am i e3;replace e2:=i _ _ e2;replace m:=i _ _ (n _ _ m);replace f:=f.trans (n.trans i);refine D0 (R:=[(N,cE [iL 0] 40),(O,cE [sN] 26)]) (xs:=bw ps 0) (enc:=(λp:(Wt×Value)×Nat=>[iL p.2,.agg (Bb p.1).toArray])) (ps:=[18,19]) rfl (by kernel_rfl) (Q4 al C B ps am m (H.mono f) (by omega))
  (λo _ R=>R=[(N,cE [iL 0] 40),(O,cE [sN] 26)]/\∀q∈o,q.1.1.1≠(k:Int))
  (λc _ M' R=>c=.ret/\∃v,R=[(N,cE [iL 0] 40),(O,cE [v] 26)]/\BS M' v (seen s k))
  (λ_=>rfl) (by decide) ⟨rfl,λ_ h=>by cases h⟩ ?_ ?_ ?_
 ·intro l W2 o y U R2 a j g;obtain⟨rfl,j⟩:=j;have E:y.1∈ps:=Q5 (g.subset (by simp));obtain⟨⟨P,yv⟩,yi⟩:=y;have F:=hb _ E;obtain⟨ya,yc,D,aq,ap⟩:=id F;change yv=Value.slice ya P.2.length yc at D;subst D;refine ga λb8=>?_;refine jK λW'=>?_;refine gh ?_;refine lq (Aw rfl rfl rfl rfl (CM.cj ⟨_,_,_,a _ _ e3,rfl⟩ _)) ?_;refine gj (λL=>?_) λL=>?_
  ·refine gC (B2 _ P.2 U (F.mono (f.trans a)) (by have:=(aa P (by rw[<-Q];exact List.mem_map_of_mem E)).2.2;omega)) ?_;rintro _ M3 Rc aj b;refine wSe b (by simp) ?_;intro M4 T S ai ec z w;cases ec;refine gh ?_;refine AE (L':=[(N,cE [iL 0] 40),(O,cE [.slice T P.2.length S] 26)]) (by simp) ?_;refine jQr ?_;refine⟨rfl,_,rfl,?_⟩;rw[MC Q g j L];exact⟨T,S,rfl,z,w⟩
  refine gh ?_;refine AE (L':=[(N,cE [iL 0] 40),(O,cE [sN] 26)]) (by simp) ?_;refine wFt ?_;grind
 ·intro d U R2 a j;obtain⟨rfl,j⟩:=j;have I:=MD Q j;rw[D4 (by omega)]at I;refine gh ?_;refine lq (Aw rfl rfl rfl rfl (CM.cj ⟨_,_,_,a _ _ e2,rfl⟩ _)) ?_;refine lq (Aw rfl rfl rfl rfl (CM.cj ⟨_,_,_,a _ _ e3,rfl⟩ _)) ?_;refine gh ?_;refine lq (Aw rfl rfl rfl rfl ((ad.mono (f.trans a)).cj _)) ?_;refine gC (B2 _ s.blocks[k] U ⟨va,vc,rfl,Y,X.mono (f.trans a)⟩ (by omega)) ?_;rintro _ M3 Rc aj b;refine Kz b (by simp) ?_;intro M4 T S ai ec z w;cases ec;refine gh ?_;refine Bn (L2:=_) Rm.perm ?_;refine gr ?_;exact⟨⟨_,rfl,by rw[I];exact⟨T,S,rfl,z,w⟩⟩,rfl⟩
 intro d c o U R2 a g j;obtain⟨rfl,v6,rfl,a6,c6,rfl,ae,Z⟩:=j;refine gh ?_;refine Bn (L2:=_) Rm.perm ?_;refine gr ?_;exact⟨⟨_,rfl,a6,c6,rfl,ae,Z⟩,rfl⟩
theorem YE(s:Sto)(k:Nat)(b a:Value)(M:Mem)(o:LS M b s.blocks)(f:WS M a s.waits)(e:H6 s.blocks s.waits)(hk:k<256):Sg 284 #[.agg #[b,a],iL k] M [] λu g h=>(∃v,u=.tuple #[v,iL 0]/\BS g v (seen s k))/\h=[]:=by
 obtain⟨j,i,l,rfl,d,c,m,n⟩:=f;grind[YD]
def wXw(p:Po):Int:=if AO p≠0 then AO p else if p.gen=4294967295 then 9 else 0
theorem poChk_is{p:Po}:AO p=0↔∃x,cens p.st p.root p.next p.dead=some x:=by
 grind[AO]
variable{s:Sto}
theorem Kh:∀{rs refs nodes:List Int}{x:List Int×List Int},Cu s rs refs nodes=some x->∀r∈rs,Em s r=true
 |[],_,_,_,_,r,a=>by cases a
 |y::rs,refs,nodes,x,h,r,a=>by
  rw[Cu]at h;split at h
  ·rename_i b;rcases List.mem_cons.1 a with rfl|a
   ·exact b
   exact Kh h r a
  cases h
structure PoOk(p:Po):Prop where
 st:Au p.st
 len:p.dead.length<=40
 dead:∀d∈p.dead,tk d
 root:tk p.root
theorem PoOk.of{p:Po}(h:AO p=0):PoOk p:=by
 obtain⟨x,a⟩:=poChk_is.1 h;unfold cens at a;split at a
 ·rename_i b;refine⟨b.1,b.2.1,?_,by have:=K4 b.2.2;exact⟨this.1,this.2.1⟩⟩;split at a
  ·cases a
  split at a
  ·cases a
  split at a
  ·cases a
  rename_i c;intro d e;have:=K4 (Kh c d (by unfold DY;simp[e]));exact⟨this.1,this.2.1⟩
 grind
theorem Vk(c:Nat)(M:Mem):
  Sg 40 #[.slice none 0 c] M [] λv _ a=>Own v a 3 1 0 []:=by
 refine sB func40 ntmps40 ?_;intro W;refine gh ?_;refine lq (Bo (Rz rfl rfl rfl rfl) (v':=.bool true) (by simp)) ?_;refine gr ?_;grind[Own.nil]
theorem Ts(b:Addr)(n c:Nat)(a:List Value)(M:Mem)(hs:SM M (some b) a)(j:a.length=n)(e:∀v∈a,v.oneCell'=true)(i:n<=1000000):
  Sg 40 #[.slice (some b) n c] M [] λv _ g=>Own v g 3 1 n a:=by
 refine sB func40 ntmps40 ?_;intro W;refine gh ?_;refine lq (Bo (Rz rfl rfl rfl rfl) (v':=.bool false) (by simp)) ?_;refine gh ?_;refine lh (Ab (z:=[iL 0]) (cs:=[]) rfl rfl rfl (by rfl) (by rfl) (by rfl)) ?_;rintro _ _ _ ⟨f,rfl,rfl,rfl⟩;refine gh ?_;refine lh (D2 (n:=0) (xs:=[]) (news:=a) rfl rfl rfl rfl (Own.empty f _ _) (by omega) hs rfl e (by omega) (by decide)) ?_;rintro h _ _ ⟨rfl,k,rfl,d⟩;refine jp rfl ?_;refine Am (jT (BG ?_));refine GK rfl rfl ?_;grind
theorem Dm(a:Option Addr)(n c:Nat)(d:List Value)(M:Mem)(hs:SM M a d)(e:d.length=n)(g:∀v∈d,v.oneCell'=true)(f:n<=1000000):Sg 40 #[.slice a n c] M [] λv _ j=>Own v j 3 1 n d:=by
 cases a with
 |none=>
  have i:d=[]:=hs.elim id (λ⟨_,_,h,_⟩=>by cases h)
  subst i
  have:n=0:=by simpa using e.symm
  subst this
  exact Vk c M
 |some b=>exact Ts b n c d M hs e g f
theorem Yi(p:Po)(pv f g h:Value)(da:Option Addr)(i:Nat)(M:Mem)(J:LS M pv p.st.blocks)(I:WS M f p.st.waits)(H:BS M g p.st.now)(G:BS M h p.st.last)(F:p.dead.length<=i)(l:SM M da (Al p.dead))(a:Au p.st)(m:p.dead.length<=1000000):
  Sg 18 #[.agg (PP pv f g h p.gen p.root p.next (.slice da p.dead.length i)).toArray] M [] λu P Q=>PT P u p/\Q=[]:=by
 have n:=a.1;have D:p.st.now.length=256:=a.2.1.1;have E:p.st.last.length=256:=a.2.2.1;refine sB func18 ntmps18 ?_;intro W;refine JM λN b2=>?_;refine Ga [7,9] [7,8,9] [0,1,3,4,102,6,105,107,8,109] M ([(N,cE (PP pv f g h p.gen p.root p.next (.slice da p.dead.length i)) wYb)]) ([]) ?_;refine gh ?_;refine dh rfl (hC (Kl p.st pv f g h M J I H G n (by omega) (by omega))) ?_;rintro _ O _ ⟨d,_,rfl,⟨j,rfl⟩⟩;refine⟨d,by simp,?_⟩;obtain⟨X,V,U,T,rfl,B,z,y,w⟩:=j.ex;obtain⟨ba,bc,L,rfl,_⟩:=id B;obtain⟨S,R,C,rfl,_⟩:=id z;obtain⟨Z,Y,rfl,_⟩:=id y;obtain⟨la,lc,rfl,_⟩:=id w;refine gh ?_;refine dh rfl (hC (Dm da _ i (Al p.dead) O (l.mono d) (Ay _) (DH _) m)) ?_;rintro _ M2 _ ⟨c,R2,rfl,e⟩;refine⟨c,by simp,?_⟩;obtain⟨ea,ec,rfl⟩:=e.form;refine G2 rfl rfl (Ak rfl rfl rfl rfl rfl rfl rfl rfl) ?_;rintro _ _ _ ⟨rfl,rfl⟩;refine⟨d.trans c,by simp,?_⟩;refine JY rfl rfl rfl (Ah rfl rfl rfl rfl rfl) ?_;refine KB rfl rfl (Ak rfl rfl rfl rfl rfl rfl rfl rfl) ?_;rintro _ _ _ ⟨rfl,rfl⟩;refine⟨d.trans c,by simp,?_⟩;refine gh ?_;refine BF e (by simp) ?_;intro M4 a4 c4 s K o k;cases K;refine gr ?_;have b:=c.trans s;exact⟨⟨_,_,_,_,_,rfl,B.mono b,z.mono b,y.mono b,w.mono b,_,_,rfl,o,k⟩,rfl⟩
theorem wTp{p:Po}(h:wXw p=0):PoOk p/\p.gen≠4294967295:=by
 grind[wXw,PoOk.of]
abbrev poZ:List Value:=[sN,sN,sN,sN,iU 0,iL 0,iU 0,sN]
def dskZ:Value:=.agg #[sN,sN]
section
variable{s t:Sto}
end
theorem seenW(bs:List (List By))(a:List Wt)(n l:List By)(k:Nat)(w:Wt):seen ⟨bs,a++[w],n,l⟩ k=if w.1=(k:Int)then w.2 else seen ⟨bs,a,n,l⟩ k:=by
 grind[seen]
variable{k:Nat}{xs:List By}
theorem wRo(h:Hg xs)(hk:k<8\/256<=k):xs.getD k 0=0:=by
 rcases hk with hk|hk
 ·have a:=List.all_eq_true.1 h.2 (xs.getD k 0) (by rw[D4 (by rw[h.1];omega)];exact List.mem_iff_getElem.2 ⟨k,by rw[List.length_take,h.1];omega,by rw[List.getElem_take]⟩);simpa using a
 simp[List.getD,List.getElem?_eq_none (show xs.length<=k by rw[h.1];exact hk)]
def po0:Po:=⟨Ew st0 0 [],0,8,1,[]⟩
theorem wRe:wXw po0=0:=by decide +kernel
structure Sl where
 a:Option Addr
 n:Nat
 c:Nat
abbrev Sl.v(s:Sl):Value:=.slice s.a s.n s.c
structure V5 where
 b:Sl
 w:Sl
 n:Sl
 l:Sl
 d:Sl
abbrev Bk(x:V5)(g r n:Int):List Value:=PP x.b.v x.w.v x.n.v x.l.v g r n x.d.v
structure PT5(M:Mem)(x:V5)(p:Po):Prop where
 b:LS M x.b.v p.st.blocks
 w:WS M x.w.v p.st.waits
 n:BS M x.n.v p.st.now
 l:BS M x.l.v p.st.last
 d:NI M x.d.v p.dead
variable{M:Mem}
theorem PT5.mono{M':Mem}{x:V5}{p:Po}(h:PT5 M x p)(a:MLe M M'):PT5 M' x p:=⟨h.b.mono a,h.w.mono a,h.n.mono a,h.l.mono a,h.d.mono a⟩
variable{s:Sl}
theorem LS.len{bs:List (List By)}(h:LS M s.v bs):s.n=bs.length:=by obtain⟨a,c,b,e,_⟩:=h;exact congrArg (λv=>match v with|Value.slice _ n _=>n|_=>0) e
variable{bs:List By}
theorem BS.len(h:BS M s.v bs):s.n=bs.length:=by obtain⟨a,c,e,_⟩:=h;exact congrArg (λv=>match v with|Value.slice _ n _=>n|_=>0) e
theorem BS.sm(h:BS M s.v bs):SM M s.a (Aa bs):=by
 obtain⟨a,c,e,_,h⟩:=h;grind
theorem LS.sl{v:Value}{bs:List (List By)}(h:LS M v bs):∃s:Sl,v=s.v:=by obtain⟨a,c,b,e,_⟩:=h;exact⟨⟨a,_,c⟩,e⟩
theorem WS.sl{v:Value}{bs:List Wt}(h:WS M v bs):∃s:Sl,v=s.v:=by obtain⟨a,c,b,e,_⟩:=h;exact⟨⟨a,_,c⟩,e⟩
theorem BS.sl{v:Value}(h:BS M v bs):∃s:Sl,v=s.v:=by obtain⟨a,c,e,_⟩:=h;exact⟨⟨a,_,c⟩,e⟩
theorem NI.sl{v:Value}{bs:List Int}(h:NI M v bs):∃s:Sl,v=s.v:=by obtain⟨a,c,e,_⟩:=h;exact⟨⟨a,_,c⟩,e⟩
theorem PT.five{v:Value}{p:Po}(h:PT M v p):∃x:V5,v=.agg (Bk x p.gen p.root p.next).toArray/\PT5 M x p:=by
 obtain⟨pv,l,m,n,o,rfl,k,j,i,g,f⟩:=h;obtain⟨a,rfl⟩:=k.sl;obtain⟨b,rfl⟩:=j.sl;obtain⟨c,rfl⟩:=i.sl;obtain⟨d,rfl⟩:=g.sl;obtain⟨e,rfl⟩:=f.sl;exact⟨⟨a,b,c,d,e⟩,rfl,k,j,i,g,f⟩
theorem PT5.pt{x:V5}{p:Po}(h:PT5 M x p):PT M (.agg (Bk x p.gen p.root p.next).toArray) p:=⟨_,_,_,_,_,rfl,h.b,h.w,h.n,h.l,h.d⟩
def Pv:V5:=⟨⟨none,0,0⟩,⟨none,0,0⟩,⟨none,0,0⟩,⟨none,0,0⟩,⟨none,0,0⟩⟩
theorem YI(s:Sto)(v sl:Value)(lv:Int)(xs:List It)(M:Mem)(j:ST M v s)(y:NS M sl xs)(z:∀x∈xs,0<=x.key.kind/\x.key.kind<256)(k:Au s)(o:Cx lv xs=true)(m:wVk s xs)(B:BD (Ai s xs)<256)(g:s.waits.length<4096):
  Sg 22 #[v,.agg #[iL lv,sl]] M [] λu C D=>(∃v,u=.tuple #[v,iL (BD (Ai s xs)),iL 0]/\ST C v (Ew s lv xs))/\D=[]:=by
 obtain⟨b,w,n,l,rfl,O,⟨F,E,d,rfl,h,e,f,i⟩,N,L⟩:=j.ex;obtain⟨a,c,G,rfl,J,H,I,K⟩:=y;grind[YH]
theorem wVh:Au st0:=by decide +kernel
theorem wGu:BD (Ai st0 [])=8:=by decide +kernel
theorem UZ(v:Value)(M:Mem)(b:ST M v st0):
  Sg 14 #[v] M [] λu i j=>(∃v,u=.tuple #[v,iL 8,iL 0]/\ST i v (Ew st0 0 []))/\j=[]:=by
 obtain⟨L,K,H,G,rfl,F,E,D,C⟩:=id b.ex;refine sB func14 ntmps14 ?_;intro W;refine JM λJ I=>?_;refine gc (YI st0 _ _ 0 [] M b NS.nil (λ_ h=>by cases h) wVh (by decide) (λk h=>by cases h) (by rw[wGu];decide) (by decide)) ?_;rintro _ N g ⟨l,rfl,a⟩;rw[wGu];obtain⟨B,z,y,w,rfl,f,e,d,c⟩:=a.ex;obtain⟨s,rfl⟩:=f.sl;obtain⟨o,rfl⟩:=e.sl;obtain⟨n,rfl⟩:=d.sl;obtain⟨m,rfl⟩:=c.sl;refine gr ?_;exact⟨⟨_,rfl,_,_,_,_,rfl,f,e,d,c⟩,rfl⟩
theorem SG(M:Mem):
  Sg 10 #[] M [] λu j k=>PT j u po0/\k=[]:=by
 refine sB func10 ntmps10 ?_;intro W;refine ga λi=>?_;refine gc (wBo M) ?_;rintro _ M0 h a;obtain⟨F,i,D,C,rfl,_⟩:=id a.ex;refine gc (UZ _ M0 a) ?_;rintro _ G g ⟨l,rfl,b⟩;obtain⟨B,z,y,w,rfl,f,e,d,c⟩:=b.ex;obtain⟨s,rfl⟩:=f.sl;obtain⟨o,rfl⟩:=e.sl;obtain⟨n,rfl⟩:=d.sl;obtain⟨m,rfl⟩:=c.sl;refine ga λE=>?_;refine gr ?_;exact⟨⟨_,_,_,_,_,rfl,f,e,d,c,none,0,rfl,lR,SM.nil⟩,rfl⟩
theorem Yj(p:Po)(v:Value)(M:Mem)(h:PT M v p)(a:Au p.st)(b:p.dead.length<=1000000):Sg 18 #[v] M [] λu c d=>PT c u p/\d=[]:=by
 obtain⟨pv,e,f,g,o,rfl,n,m,l,k,da,s,rfl,j,i⟩:=h;grind[Yi,pv,da]
def Shp(s:Sto):Nat->List It->Prop
 |0,xs=>∀x∈xs,x.ref=0\/¬s.now.getD x.ref.toNat 0=0
 |l+1,xs=>∀x∈xs,∃ys,Ag s x.ref.toNat=some ((l:Int),ys)/\ys≠[]/\Bw ys=x.key/\Shp s l ys
variable{l:Nat}{s:Sto}{xs ys:List It}
theorem Shp.sub(h:Shp s l xs)(hs:∀y∈ys,y∈xs):Shp s l ys:=by
 cases l with
 |zero=>exact λx a=>h x (hs x a)
 |succ l=>exact λx a=>h x (hs x a)
theorem Shp.app(h:Shp s l xs)(k:Shp s l ys):Shp s l (xs++ys):=by
 cases l with
 |zero=>exact λx a=>(mA a).elim (h x) (k x)
 |succ l=>exact λx a=>(mA a).elim (h x) (k x)
theorem Shp.one(h:Shp s l xs){x:It}(b:x∈xs):Shp s l [x]:=h.sub λy a=>by rw[mS a];exact b
theorem A3(s:Sto)(l:Nat)(xs ys:List It):Ax s l (xs++ys)=Ax s l xs++Ax s l ys:=List.flatMap_append
theorem Dq(s:Sto)(l:Nat)(x:It)(xs:List It):Ax s l (x::xs)=Ba s l x++Ax s l xs:=List.flatMap_cons
theorem Dg(s:Sto)(l:Nat)(x:It):Ax s l [x]=Ba s l x:=by rw[Dq];show _++[]=_;rw[List.append_nil]
theorem Ci(s:Sto)(xs:List It):Ax s 0 xs=xs:=by
 unfold Ax;induction xs with
 |nil=>rfl
 |cons x xs a=>rw[List.flatMap_cons,a];rfl
variable{lv:Int}
theorem Bf{x:It}(h:Ag s x.ref.toNat=some (lv,ys)):Ba s (l+1) x=Ax s l ys:=by
 have:kid s x=ys:=by grind[kid]
 rw[Ba,this];rfl
theorem PZ:∀{l:Nat}{x:It},Shp s l [x]->∃y r,Ba s l x=y::r/\y.key=x.key
 |0,x,_=>⟨x,[],rfl,rfl⟩
 |l+1,x,h=>by
  obtain⟨ys,d,c,b,a⟩:=h x (by simp);obtain⟨z,zs,rfl⟩:=List.exists_cons_of_ne_nil c;obtain⟨y,r,f,e⟩:=PZ (a.one (x:=z) (by simp));exact⟨y,r++Ax s l zs,by rw[Bf d,Dq,f];rfl,by rw[e];exact b⟩
theorem Lg{x:It}(h:Shp s l [x]):∃y∈Ba s l x,y.key=x.key:=by
 grind[PZ]
theorem Jl:∀{xs:List It},Shp s l xs->Srt (Ax s l xs)->Srt xs
 |[],_,_=>List.Pairwise.nil
 |x::xs,h,d=>by
  rw[Dq]at d;have e:=List.pairwise_append.1 d;refine List.pairwise_cons.2 ⟨λz c=>?_,Jl (h.sub λy f=>List.mem_cons_of_mem _ f) e.2.1⟩;obtain⟨a,i,k⟩:=Lg (h.one (x:=x) (by simp));obtain⟨b,g,j⟩:=Lg (h.one (x:=z) (by simp[c]));have:=e.2.2 a i b (List.mem_flatMap.2 ⟨z,c,g⟩);rwa[k,j]at this
theorem wLq(m:∀x,Shp s l [x]->Srt (Ba s l x)->(AR s l x).is=true/\(AR s l x).first=x.key/\∃y∈Ba s l x,(AR s l x).last=y.key):
  ∀(xs:List It)(o:Option Sp),Shp s l xs->Srt (Ax s l xs)->(∀p,o=some p->p.is=true/\∀y∈Ax s l xs,Ap p.last y.key=true)->(o=none->xs≠[])->
   (A4 (AR s l) o xs).is=true/\(A4 (AR s l) o xs).first=(match o with|none=>Bw xs|some p=>p.first)/\(xs≠[]->∃y∈Ax s l xs,(A4 (AR s l) o xs).last=y.key)
 |[],o,_,_,c,G=>by
  cases o with
  |none=>exact aD rfl (G rfl)
  |some p=>exact⟨(c p rfl).1,rfl,λh=>aD rfl h⟩
 |x::xs,o,k,j,c,_=>by
  rw[Dq]at j c;have d:=List.pairwise_append.1 j;have i:=k.one (x:=x) (by simp);obtain⟨n,g,y,b,f⟩:=m x i d.1;obtain⟨z,D,H⟩:=Lg i;have a:Aq (AR s l x) o x=true:=by
   unfold Aq;rw[n,g];cases o with
   |none=>simp
   |some p=>
    have:=(c p rfl).2 z (List.mem_append_left _ D)
    rw[H]at this
    simp[this]
  rw[A4,iP a];obtain⟨C,B,u⟩:=wLq m xs (some (Bi (AR s l x) o)) (k.sub λy b=>List.mem_cons_of_mem _ b) d.2.1 (λp e=>by
   cases e;exact⟨rfl,λw E=>by show Ap (AR s l x).last w.key=true;rw[f];exact d.2.2 y b w E⟩) (λe=>by cases e)
  refine⟨C,?_,λ_=>?_⟩
  ·rw [B];cases o with
   |none=>exact g
   |some p=>rfl
  rw[Dq];cases xs with
  |nil=>exact⟨y,List.mem_append_left _ b,f⟩
  |cons w I=>
   obtain⟨v,F,e⟩:=u (by simp)
   exact⟨v,List.mem_append_right _ F,e⟩
theorem wJc:∀(l:Nat)(x:It),Shp s l [x]->Srt (Ba s l x)->(AR s l x).is=true/\(AR s l x).first=x.key/\∃y∈Ba s l x,(AR s l x).last=y.key
 |0,x,h,_=>by
  refine⟨?_,rfl,x,by simp[Ba],rfl⟩;show (decide (x.ref=0)||decide (0<((s.now.getD x.ref.toNat 0).toNat:Int)))=true;rcases h x (by simp)with h|h
  ·simp [h]
  have:(s.now.getD x.ref.toNat 0).toNat≠0:=λe=>h (UInt8.toNat.inj e);rw[Bool.or_eq_true];exact .inr (dT (by omega))
 |l+1,x,h,b=>by
  obtain⟨ys,c,a,j,i⟩:=h x (by simp);rw[Bf c]at b⊢;have e:AR s (l+1) x=A4 (AR s l) none ys:=by simp only[AR,c];exact iP ⟨trivial,a⟩
  rw[e];obtain⟨g,f,d⟩:=wLq (λx=>wJc l x) ys none i b (λp e=>by cases e) (λ_=>a);exact⟨g,by rw[f];exact j,d a⟩
theorem KR(h:Shp s l xs)(hs:Srt (Ax s l xs)):A1 s l xs:=λa=>
 (wLq (λx=>wJc l x) xs none h hs (λp e=>by cases e) (λ_=>a)).1
variable{k:Ky}
theorem W3{one:Sp}(h:one.first=k):∀(o:Option Sp),(Bi one o).first=(match o with|none=>k|some p=>p.first)
 |none=>h
 |some p=>rfl
variable{f:It->Sp}
theorem VR:∀{xs:List It}{o:Option Sp},(A4 f o xs).is=true->xs≠[]->(∀x∈xs,(f x).is=true/\(f x).first=x.key)->(A4 f o xs).first=(match o with|none=>Bw xs|some p=>p.first)
 |x::xs,o,h,_,a=>by
  have e:=W3 (a x (by simp)).2 o;rw[A4]at h⊢;split at h
  ·rename_i c;rw[iP c];cases xs with
   |nil=>exact e
   |cons y ys=>exact(VR h (by simp) (λz b=>a z (List.mem_cons_of_mem _ b))).trans e
  cases h
theorem Kj:∀{l:Nat}{xs:List It},A1 s l xs->Shp s l xs
 |0,xs,h=>λx b=>by
  have a:=(Gy (h (List.ne_nil_of_mem b)) x b).1;change (decide (x.ref=0)||decide (0<((s.now.getD x.ref.toNat 0).toNat:Int)))=true at a;rw[Bool.or_eq_true]at a;rcases a with a|a
  ·exact .inl (oT a)
  exact .inr λe=>by rw[e]at a;exact aD (oT a) (by decide)
 |l+1,xs,h=>λx b=>by
  have a:=Gy (h (List.ne_nil_of_mem b)) x b;obtain⟨ys,j,c,g⟩:=Tp a.1;have d:A1 s l ys:=λ_=>by rw[<-g];exact a.1
  refine⟨ys,j,c,?_,Kj d⟩;have i:=VR (d c) c (Gy (d c));have f:=a.2;rw[g,i]at f;exact f
def C5(x:It)(l:List It):List It:=(l.filter λy=>Ap y.key x.key)++x::(l.filter λy=>Ap x.key y.key)
variable{A:List It}
theorem LC{x:It}{B C:List It}(b:∀y∈A,Ap y.key x.key=true)(hC:∀y∈C,Ap x.key y.key=true):C5 x (A++B++C)=A++C5 x B++C:=by
 unfold C5;have f:(A.filter λy=>Ap y.key x.key)=A:=List.filter_eq_self.2 b;have e:(A.filter λy=>Ap x.key y.key)=[]:=List.filter_eq_nil_iff.2 λy a=>by
  have:Ap x.key y.key=false:=Kw (b y a);rw[this];decide
 have d:(C.filter λy=>Ap x.key y.key)=C:=List.filter_eq_self.2 hC;have c:(C.filter λy=>Ap y.key x.key)=[]:=List.filter_eq_nil_iff.2 λy a=>by
  have:Ap y.key x.key=false:=Kw (hC y a);rw[this];decide
 grind
theorem LB{x:It}{l:List It}(h:Srt l):Srt (C5 x l):=by
 refine List.pairwise_append.2 ⟨h.filter _,List.pairwise_cons.2 ⟨λy c=>(List.mem_filter.1 c).2,h.filter _⟩,λa e b d=>?_⟩;grind[Lp]
theorem Dd{q:Ky}:∀{xs:List It},Srt xs->(∀z∈xs.take (place xs q),Ap z.key q=true)/\∀z∈xs.drop (place xs q),Ap z.key q=false
 |[],_=>⟨λz a=>(by simp at a),λz a=>(by simp at a)⟩
 |x::xs,h=>by
  have e:=List.pairwise_cons.1 h;obtain⟨g,f⟩:=Dd (q:=q) e.2;by_cases c:Ap x.key q=true
  ·have d:place (x::xs) q=place xs q+1:=by unfold place;rw[List.filter_cons_of_pos (by simpa using c),List.length_cons]
   rw[d,List.take_succ_cons,List.drop_succ_cons];refine⟨λz a=>?_,f⟩;rcases List.mem_cons.1 a with rfl|a
   ·exact c
   exact g z a
  have b:∀z∈x::xs,Ap z.key q=false:=λz a=>by
   rcases List.mem_cons.1 a with rfl|a
   ·simpa using c
   exact JG (wWi c) (Kw (e.1 z a))
  have d:place (x::xs) q=0:=Xv b;rw[d];exact⟨λz a=>(by simp at a),λz a=>b z (by simpa using a)⟩
end Go.Proofs.YtjheijhahehnmaaGreatDoor
