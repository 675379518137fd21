/- CallsNames: the examples of the chapter. -/
import Derived.Test.YtjheijhahehnmaaGreatDoorZCx
import Derived.Test.YtjheijhahehnmaaGreatDoorZOpc
import Derived.Lay
namespace Go.Proofs.YtjheijhahehnmaaGreatDoor
open Go.Proofs.Tryz
open List (foldl_cons mem_cons not_mem_nil length)
set_option linter.unusedSimpArgs false
set_option linter.unusedVariables false
set_option linter.unusedSectionVars false
set_option maxHeartbeats 40000000
set_option maxRecDepth 100000
open Go.RowKit
abbrev p2a:List By:=[47,50,47,97]
abbrev fq4:Ask:=⟨2,[],[],1,1,0,[]⟩
abbrev fq5:Ask:=⟨13,wLs,[],0,0,0,[]⟩
abbrev fq6:Ask:=⟨4,[],[],1,0,0,[]⟩
abbrev fq7:Ask:=⟨18,[],[],9,0,0,[]⟩
abbrev fq8:Ask:=⟨8,p2a,[],0,9,0,[]⟩
abbrev restV:List TI:=[(fq4,AL),(fq5,AL),(fq6,AL),(fq7,AL),(fq8,AL)]
theorem num_2:T6 [50]=some 2:=by decide +kernel
theorem VK:DY p2a=some (2,[[97]]):=by
 have h:Lib.itoa 2=[50]:=by unfold Lib.itoa;rw[if_neg (by decide)];exact Lib.decDigits_one (by decide)
 unfold DY;rw[if_pos (by decide +kernel)];have a:UB (Lib.trimPrefix p2a [47])=([50],[97],true):=by decide +kernel
 rw[a];unfold WL;dsimp only;rw[num_2];dsimp only;rw[if_pos (by exact⟨by decide,by decide,h⟩)];decide +kernel
theorem U0{q:Ask}(hk:1<=q.kind/\q.kind<19)(a:kindsL.getD q.kind.toNat 0=0):HQ q=true:=by
 unfold HQ;rw[decide_eq_true hk,a];rfl
theorem wGc{q:Ask}(hk:1<=q.kind/\q.kind<19)(a:q.path=p2a)(b:kindsL.getD q.kind.toNat 0=1):HQ q=true:=by
 unfold HQ;rw[decide_eq_true hk,b,a];show ((DY p2a).isSome&&true)=true;rw[VK];rfl
def unP(p:Po):Option Po:=(Fa p 1 [[97]]).bind λy=>if y.dir then none else ((Fa p 1 []).bind λy=>if y.dir then some ((1:Int),y.id,([97]:List By))else none).bind λo=>Sd p o.1 o.2.1 o.2.2
def Yw(p:Po):Option (List By):=(Fa p 2 [[97]]).bind λy=>K5 p 2 y.id 0 9
theorem do_4(p:Po):Jt p fq4=(Vx p 1 true).map λr=>(r,{ Bp with id:=p.next }):=by
 unfold Jt;rw[if_pos (U0 (by decide) (by decide))];rfl
theorem do_5(p:Po):Jt p fq5=(unP p).map (·,Bp):=by
 have h:Bm p wLs=(Fa p 1 []).bind λy=>if y.dir then some (1,y.id,[97])else none:=by unfold Bm;rw[Hf,Option.bind_some,if_neg (by decide)];rfl
 unfold Jt;rw[if_pos (RT (by decide) rfl (by decide))];show EL p fq5=_;unfold EL Eb;rw[Hf,h];unfold unP;dsimp only[Option.bind_some];cases Fa p 1 [[97]]with
 |none=>rfl
 |some y=>
  dsimp only[Option.map_some,Option.bind_some]
  cases y.dir with
  |true=>rfl
  |false=>cases (Fa p 1 []).bind (λy=>if y.dir then some ((1:Int),y.id,([97]:List By))else none)<;>rfl
theorem do_6(p:Po):Jt p fq6=(VQ p 1).map λr=>(r,Bp):=by
 unfold Jt;rw[if_pos (U0 (by decide) (by decide))];rfl
theorem do_7(p:Po)(h:AN (DB 9 p)=0):Jt p fq7=some (DB 9 p,Bp):=by
 unfold Jt;rw[if_pos (U0 (by decide) (by decide))];show Qb p fq7=_;exact if_pos ⟨by decide,h⟩
theorem do_8(p:Po):Jt p fq8=(Yw p).map λd=>(p,{ Bp with data:=d }):=by
 unfold Jt;rw[if_pos (wGc (by decide) rfl (by decide))];show GW p fq8=_;unfold GW Eb;rw[if_pos (by decide +kernel),VK];unfold Yw;dsimp only[Option.bind_some];cases Fa p 2 [[97]]<;>rfl
def VH(o:Option (Po×Rep)):Bool:=match o with
 |none=>false
 |some (p1,r1)=>match Uc p1 with
  |none=>false
  |some (p2,i2)=>match wWn p2 with
   |none=>false
   |some p3=>match wWv p3 with
    |none=>false
    |some d=>match Vx p3 1 true with
     |none=>false
     |some p4=>match unP p4 with
      |none=>false
      |some p5=>match VQ p5 1 with
       |none=>false
       |some p6=>match Yw (DB 9 p6)with
        |none=>false
        |some e=>decide (p3.next=2/\AN (DB 9 p6)=0/\e=[0,0,120])
theorem UZ:VH (DQ G3)=true:=by
 decide +kernel
theorem YI(o:Option (Po×Rep))(h:VH o=true):∃g j p2 i a d f c b e,o=some (g,j)/\Uc g=some (p2,i)/\wWn p2=some a/\wWv a=some d/\Vx a 1 true=some f/\unP f=some c/\VQ c 1=some b/\Yw (DB 9 b)=some e/\a.next=2/\AN (DB 9 b)=0/\e=[0,0,120]:=by
 unfold VH at h;split at h
 ·cases h
 split at h
 ·cases h
 rename_i p2 i w;split at h
 ·cases h
 rename_i a u;split at h
 ·cases h
 rename_i d s;split at h
 ·cases h
 rename_i f n;split at h
 ·cases h
 rename_i c m;split at h
 ·cases h
 rename_i b l;split at h
 ·cases h
 rename_i e k;exact⟨_,_,_,_,_,_,_,_,_,_,rfl,w,u,s,n,m,l,k,of_decide_eq_true h⟩
theorem U1(z:Po)(h p2 a f c b:Po)(r1:Rep)(g:Int)(d e:List By)(w:DQ z=some (h,r1))(u:Uc h=some (p2,g))(s:wWn p2=some a)(n:wWv a=some d)(m:Vx a 1 true=some f)(l:unP f=some c)(k:VQ c 1=some b)(j:Yw (DB 9 b)=some e)(i:AN (DB 9 b)=0):
  ([wXh,XR,wVp,wVo,fq4,fq5,fq6,fq7,fq8].foldl S0 (z,[])).2=[some r1,some { Bp with id:=g },some Bp,some { Bp with data:=d },some { Bp with id:=a.next },some Bp,some Bp,some Bp,some { Bp with data:=e }]:=by
 rw[foldl_cons,CA ((do_0 z).trans w),foldl_cons,CA (o:=p2) (r:={ Bp with id:=g }) (by rw[Uf,u];rfl),foldl_cons,CA (o:=a) (r:=Bp) (by rw[do_2,s];rfl),foldl_cons,CA (o:=a) (r:={ Bp with data:=d }) (by rw[do_3,n];rfl),
  foldl_cons,CA (o:=f) (r:={ Bp with id:=a.next }) (by rw[do_4,m];rfl),foldl_cons,CA (o:=c) (r:=Bp) (by rw[do_5,l];rfl),foldl_cons,CA (o:=b) (r:=Bp) (by rw[do_6,k];rfl),foldl_cons,CA (do_7 b i),foldl_cons,CA (o:=DB 9 b) (r:={ Bp with data:=e }) (by rw[do_8,j];rfl)]
 rfl
theorem UY:∃l a k j i h g f,(GE [wXh,XR,wVp,wVo,fq4,fq5,fq6,fq7,fq8]).2=[some l,some a,some k,some j,some { Bp with id:=2 },some i,some h,some g,some f]/\f.data=[0,0,120]:=by
 obtain⟨u,a,p2,w,s,d,o,n,m,e,H,G,F,E,D,C,B,z,y,c,b⟩:=YI _ UZ;have:=U1 G3 u p2 s o n m a w d e H G F E D C B z c;rw[y]at this;exact⟨_,_,_,_,_,_,_,_,this,b⟩
abbrev wDf:Ask:=⟨4,[],[],-1,0,0,[]⟩
abbrev fm2:Ask:=⟨19,[],[],0,0,0,[]⟩
abbrev badV:List TI:=[(XR,AL),(wDf,AL),(fm2,AL)]
theorem US:BG G3 1=6:=by decide +kernel
theorem wlk6(p:Po)(x:V5)(M:Mem)(h:PW M x p)(v:Int)(e:BG p v=6)(n:Nat)(a:Option Addr)(c:Nat):SpecL prog 116 #[DH p x,.int .u32 v,.slice a n c] M [] λu M' f=>u=.tuple #[.agg (Sa AP).toArray,.int .i64 6]/\f=[]:=by
 refine sB func116 ntmps116 ?_;intro W;refine Mo λi g=>?_;refine gc (Dx p x M h.pt h.dead v) ?_;rintro _ j d rfl;rw[e];refine gj (λb=>?_) λb=>absurd (show (6:Int)≠0 by decide) b;refine gr ?_;exact⟨rfl,rfl⟩
theorem par6(p:Po)(x:V5)(M:Mem)(h:PW M x p)(v:Int)(n:List By)(s:List By)(m:DY s=some (v,[n]))(B:BG p v=6)(w:Tabs M)(hs:s.length<=1000000):SpecL prog 62 #[DH p x,.string (AD s)] M [] λu M' E=>u=.tuple #[Gs 0 0,.string (AD []),.int .i64 6]/\E=[]:=by
 refine sB func62 ntmps62 ?_;intro W;refine Mo λC J=>?_;refine gc (GJ s M w hs) ?_;rintro _ L g ⟨v',l,a,c,e,rfl,F,I,G,o,H,j⟩;obtain⟨rfl,_,b,rfl⟩:=j.val (λk=>by have:=j.err k;rw[m]at this;cases this);rw[m]at b;cases b;refine gj (λk=>absurd rfl k) λ_=>?_;refine gj (λf=>?_) λf=>?_
 ·exact absurd f (by simp)
 refine gh ?_;refine AV [GG C x p.gen p.root p.next] (by kernel_rfl) (by simp) ?_;refine gk [0,1,2,3] ?_;refine Et (i:=4) rfl (by kernel_rfl) (by kernel_rfl) rfl rfl (Bh (CL rfl rfl rfl (.no _) (.of (v:=0) rfl (by simp) rfl) (.no _) (by simp) (by simp)) (v':=.slice a 0 c) (by rw[AU];rfl)) ?_;refine wNk 5 9 [6,7,8] [110,11] (λM' z=>wlk6 p x M' (h.mono (g.trans z)) v B 0 a c) ?_;rintro _ K y rfl;refine gz λD=>?_;refine gg ?_;refine gj (λk=>absurd k (show ¬(6:Int)=0 by decide)) λ_=>?_;refine gj (λd=>?_) λd=>absurd (show (6:Int)≠0 by decide) d;refine gr ?_;exact⟨rfl,rfl⟩
theorem mak6(p:Po)(x:V5)(M:Mem)(h:PW M x p)(l:Tabs M)(q:Ask)(i:q.path.length<=1000000)(v:Int)(n:List By)(d:DY q.path=some (v,[n]))(g:BG p v=6)(c:Value)(b:Nat):SpecL prog 30 #[pB b] M [BI b x p.gen p.root p.next q c 0 AL AL AP] λu M' o=>MeR (Jd p q) q c b u M' o/\∀e,u=.int .i64 e->e≠0->e=6:=by
 refine sB func30 ntmps30 ?_;intro W;refine gh ?_;refine AV [BI b x p.gen p.root p.next q c 0 AL AL AP] (by kernel_rfl) (by simp) ?_;refine gk [0,1,2,3,4,5,6,7,8] ?_;refine wNk 9 14 [10,11,12,13] [115,16,17] (λM' f=>par6 p x M' (h.mono f) v n q.path d g (l.mono f) i) ?_;rintro _ w m rfl;refine gz λs=>?_;refine gg ?_;refine gj (λa=>absurd a (show ¬(6:Int)=0 by decide)) λa=>?_;refine gg ?_;refine lq (Bn rfl rfl rfl) ?_;refine gh ?_;refine zd [BI b x p.gen p.root p.next q c _ AL AL AP] rfl ?_;have j:Jd p q=none:=by
  unfold Jd Bm;rw[d,Option.bind_some,if_neg (by simp),show Fa p v (([n]:List (List By)).dropLast)=none from if_neg (by rw[g];decide)];rfl
 exact⟨.no (by decide) j,λe k _=>by cases k;rfl⟩
theorem vol6(p:Po)(x:V5)(q:Ask)(d:¬(0<=q.a/\q.a<=4294967295))(c:Value)(b:Nat)(M:Mem):SpecL prog 60 #[pB b] M [BI b x p.gen p.root p.next q c 0 AL AL AP] λu M' e=>u=.tuple #[.int .u32 0,.int .i64 6]/\e=[BI b x p.gen p.root p.next q c 0 AL AL AP]:=by
 refine sB func60 ntmps60 ?_;intro W;refine gq (RG q.a 0 4294967295 M) ?_;rw[decide_eq_false d];refine gh ?_;refine zd [BI b x p.gen p.root p.next q c 0 AL AL AP] rfl ?_;exact⟨rfl,rfl⟩
theorem rem6(p:Po)(x:V5)(q:Ask)(f:¬(0<=q.a/\q.a<=4294967295))(d:Value)(b:Nat)(M:Mem):SpecL prog 29 #[pB b] M [BI b x p.gen p.root p.next q d 0 AL AL AP] λu M' h=>MeR (Fn p q) q d b u M' h/\∀e,u=.int .i64 e->e≠0->e=6:=by
 refine sB func29 ntmps29 ?_;intro W;refine gC (vol6 p x q f d b M) ?_;rintro _ i _ g ⟨rfl,rfl⟩;refine gj (λc=>absurd c (show ¬(6:Int)=0 by decide)) λc=>?_;refine gh ?_;refine zd [BI b x p.gen p.root p.next q d 0 AL AL AP] rfl ?_;exact⟨.no (by decide) (by unfold Fn wDa;rw[if_neg f];rfl),λe k _=>by cases k;rfl⟩
def ee(q:Ask):Int:=if q.kind=19 then 2 else 6
def Xb(o:Po)(q:Ask)(e:Int):Prop:=o=G3->e=ee q
variable{M':Mem}{X:Int->Prop}{u:Value}
theorem DoX.imp{Y:Int->Prop}{p:Po}{q:Ask}(h:DoX X p q u M')(a:∀e,X e->Y e):DoX Y p q u M':=by
 obtain⟨y,o,r,e,c,b,j,i,g,f,d⟩:=h;exact⟨y,o,r,e,c,b,j,i,g,f,d.imp id λk=>⟨k.1,k.2.1,k.2.2.1,k.2.2.2.1,a _ k.2.2.2.2⟩⟩
theorem wBy(M:Mem)(G:Tabs M)(H:Kinds M):∀x∈badV,DoS Xb x M:=by
 intro x d o y M' u n w;have c:=G.mono u;have l:=H.mono u;have E:x.2=AL/\x.1.data=[]/\x.1.other=[]/\x.1.path.length<=1000000/\0<=x.1.kind/\x.1.kind<256:=by
  simp only[badV,mem_cons,not_mem_nil,or_false]at d;rcases d with rfl|rfl|rfl<;>refine⟨rfl,rfl,rfl,by decide,by decide,by decide⟩
 obtain⟨J,C,I,B,z⟩:=E;have i:BS M' x.2 x.1.data:=by rw[J,C];exact BS.nil0
 have h:x.1.data.length<=1000000:=by rw[C];decide
 have g:x.1.other.length<=1000000:=by rw[I];decide
 by_cases s:o=G3
 ·subst s;refine XC _ G3 y M' n w c l x.1 z B g _ i h ?_ ?_
  ·intro e K f F _;simp only[badV,mem_cons,not_mem_nil,or_false]at d;rcases d with rfl|rfl|rfl
   ·rw [RT (by decide) rfl (by decide)]at f;cases f
   ·rw [U0 (by decide) (by decide)]at f;cases f
   exact F (by decide)
  intro f D j b;simp only[badV,mem_cons,not_mem_nil,or_false]at d;rcases d with rfl|rfl|rfl
  ·exact ⟨_,rfl,by kernel_rfl,(mak6 G3 y D (n.mono j) (c.mono j) XR (by decide) 1 [97] Hf US _ b).mono λ_ _ _ a=>⟨a.1,λe k m _=>a.2 e k m⟩⟩
  ·exact ⟨_,rfl,by kernel_rfl,(rem6 G3 y wDf (by decide) _ b D).mono λ_ _ _ a=>⟨a.1,λe k m _=>a.2 e k m⟩⟩
  exact absurd (wRu f) (by decide)
 exact(Ki o y M' n w c l x.1 z B g _ i h).mono λ_ _ _ a=>⟨a.1.x.imp λe _ k=>absurd k s,a.2⟩
theorem wAp:Jt G3 XR=none:=by
 rw[Uf];unfold Uc;rw[show Fa G3 1 []=none from if_neg (by rw[US];decide)];rfl
theorem wCa:Jt G3 wDf=none:=by
 unfold Jt;rw[if_pos (U0 (by decide) (by decide))];rfl
theorem do_b2:Jt G3 fm2=none:=if_neg (by decide +kernel)
variable{rs:List (Option Rep)}
theorem F4{p:Po}{q:Ask}(h:Jt p q=none):S0 (p,rs) q=(p,rs++[none]):=by
 unfold S0;show (match Jt p q with|none=>_|some r=>_)=_;rw[h]
theorem wCf:[XR,wDf,fm2].foldl S0 (G3,[])=(G3,[none,none,none]):=by
 rw[foldl_cons,F4 wAp,foldl_cons,F4 wCa,foldl_cons,F4 do_b2];rfl
theorem VJ(M:Mem):(∀x∈restV,BS M x.2 x.1.data)/\(∀x∈restV,0<=x.1.kind/\x.1.kind<256):=by
 refine⟨λx a=>?_,λx a=>?_⟩<;>simp only[restV,mem_cons,not_mem_nil,or_false]at a<;>rcases a with rfl|rfl|rfl|rfl|rfl;all_goals first|exact BS.nil0|(dsimp only;decide)
variable{M:Mem}{a:Option Addr}
theorem wFy(h:SM M a (badV.flatMap Lm)):AkS M a badV:=⟨h,λx b=>by
 simp only[badV,mem_cons,not_mem_nil,or_false]at b
 rcases b with rfl|rfl|rfl<;>exact BS.nil0,λx b=>by
 simp only[badV,mem_cons,not_mem_nil,or_false]at b
 rcases b with rfl|rfl|rfl<;>(dsimp only;decide)⟩
theorem Vj(M:Mem)(hT:Tabs M)(hK:Kinds M):SpecL prog 3 #[] M [] λu M' L'=>u=.bool true/\L'=[]:=by
 refine sB (vs:=[]) func3 ntmps3 ?_;intro W;refine gC (Rl M) ?_;rintro _ M1 _ af ⟨b,dv,rfl,I,rfl⟩;obtain⟨da,P,rfl,_,_⟩:=_root_.id I;refine gh ?_;refine lh (Ab (cs:=restV.flatMap Lm) rfl rfl rfl (by rfl) (by rfl) (by rfl)) ?_;rintro _ _ _ ⟨aq,rfl,rfl,rfl⟩;refine gg ?_;refine lh (AY (R:=[(b,cE ((EH (.slice da [(120:By)].length P)).flatMap Lm) 39)]) (n:=4) (m:=5) (xs:=(EH (.slice da [(120:By)].length P)).flatMap Lm) (news:=restV.flatMap Lm) rfl rfl rfl rfl ⟨rfl,.inr ⟨b,4,_,rfl,rfl,Nat.le_refl _,by decide,rfl,rfl⟩⟩ rfl (λi v h=>CJ.loc (by simpa using h)) rfl rfl (by simp[Lm,JG,Value.oneCell']) (by decide) (by decide)) ?_;rintro v3 _ _ ⟨rfl,S2,rfl,ab,_⟩;refine Hn ab (by simp) ?_;intro M2 a4 c4 K e4 ap Y;cases e4;have ad:=Xh (l:=restV) (I.mono K) (by rw[List.flatMap_append];exact Y) (VJ _).1 (VJ M2).2;have o:=af.trans K;refine gc (H3 (EH (.slice da [(120:By)].length P)++restV) a4 c4 M2 ad ⟨by simp⟩ (by simp) (hT.mono o) (hK.mono o)) ?_;rintro _ M3 ae ⟨y,xs,ra,rc,rfl,hp,X,al,d,U⟩;obtain⟨r0,r1,r2,r3,r5,r6,r7,r8,Z,e8⟩:=UY;rw[show (EH (.slice da [(120:By)].length P)++restV).map (·.1)=[wXh,XR,wVp,wVo,fq4,fq5,fq6,fq7,fq8]from rfl]at d;rw[Z]at d;have L:=o.trans ae;refine gA λb1=>?_;refine gh ?_;refine lh (Ab (cs:=badV.flatMap Lm) rfl rfl rfl (by rfl) (by rfl) (by rfl)) ?_;rintro _ _ _ ⟨O,rfl,rfl,rfl⟩;refine Az O (by simp) ?_;intro M4 g ah;have k:=L.trans g;refine gc (Qj Xb badV (some ⟨O,0,none⟩) 3 M4 (wFy (SM.of_block ah)) (wBy M4 (hT.mono k) (hK.mono k)) (by simp)) ?_;rintro _ M5 f ⟨y2,s,ak,T,rfl,am,E,aj,F,C,w⟩;have z:=k.trans f;have aa:(GE [XR,wDf,fm2]).2=[none,none,none]:=congrArg (·.2) wCf;rw[show badV.map (·.1)=[XR,wDf,fm2]from rfl,aa]at F w;have H:s.length=3:=C;have m0:=w 0 (by decide) (by omega) (by decide) rfl rfl;have m1:=w 1 (by decide) (by omega) (by decide) rfl (by show ([XR].foldl S0 (G3,[])).1=G3;rw[foldl_cons,F4 wAp];rfl);have m2:=w 2 (by decide) (by omega) (by decide) rfl (by show ([XR,wDf].foldl S0 (G3,[])).1=G3;rw[foldl_cons,F4 wAp,foldl_cons,F4 wCa];rfl);obtain⟨S,Q,N,B⟩:=E.open (by intro e;have:=congrArg length e;rw[Aj TY 8 Fl,H]at this;simp at this);cases N;have d0:=Bs TY 8 Fl B (List.getElem?_eq_getElem (show 0<s.length by omega)) 0 _ rfl;have d1:=Bs TY 8 Fl B (List.getElem?_eq_getElem (show 1<s.length by omega)) 0 _ rfl;have d2:=Bs TY 8 Fl B (List.getElem?_eq_getElem (show 2<s.length by omega)) 0 _ rfl;rw[m0]at d0;rw[m1]at d1;rw[m2]at d2;rw[H];have G:xs.length=9:=U;obtain⟨rb,ro,ai,V⟩:=X.open (by intro e;have:=congrArg length e;rw[Aj TY 8 Fl,G]at this;simp at this);cases ai;have J:∀j,4<=j->j<9->∃r,([some r0,some r1,some r2,some r3,some { Bp with id:=2 },some r5,some r6,some r7,some r8]:List (Option Rep))[j]? =some (some r):=λj h1 h2=>by
  rcases (show j=4\/j=5\/j=6\/j=7\/j=8 by omega)with rfl|rfl|rfl|rfl|rfl<;>exact⟨_,rfl⟩
 have c4:=wYm V d 4 rfl;obtain⟨v8,c8,D⟩:=rp_d V d 8 rfl;rw[e8]at D;rw[G];refine gA λb3=>?_;refine gg ?_;refine CC (α:=Nat) (λi=>[(2,.slice (some ⟨rb,ro,none⟩) 9 rc),(4,.slice (some ⟨S,Q,none⟩) 3 T),(5,.int .i64 i)]) (λ_=>M5) (λ_=>[]) (λi=>4<=i/\i<=9) (λi=>9-i) 4 ⟨Nat.le_refl _,by decide⟩ ?_;rintro i ⟨ac,ao⟩;try dsimp only
 refine gj (λag=>?_) λag=>?_
 ·obtain ⟨r,hr⟩:=J i ac (by omega);have ci:=rp_e V d i hr;refine gh ?_;refine lq (Au rfl rfl rfl rfl (((ci.mono g).mono f).cj _)) ?_;refine gh ?_;refine BD (i+1) ⟨by omega,by omega⟩
 refine gc (Ll M5 (hT.mono z) (hK.mono z)) ?_;rintro _ M6 c rfl;refine gh ?_;refine lq (Au rfl rfl rfl rfl ((((c4.mono g).mono f).mono c).cj _)) ?_;refine gj (λ_=>?_) λh=>absurd rfl h;refine gg ?_;refine lq (Au rfl rfl rfl rfl ((((c8.mono g).mono f).mono c).cj _)) ?_;refine lq (wLf (((D.mono g).mono f).mono c) rfl rfl rfl) ?_;refine lq (Bh (Pw (a:=[0,0,120]) (b:=[0,0,120]) rfl rfl rfl rfl) (v':=.bool true) rfl) ?_;refine gg ?_;refine lq (Au rfl rfl rfl rfl ((d0.mono c).cj _)) ?_;refine gj (λ_=>?_) λh=>absurd rfl h;refine gg ?_;refine lq (Au rfl rfl rfl rfl ((d1.mono c).cj _)) ?_;refine gj (λ_=>?_) λh=>absurd rfl h;refine gg ?_;refine lq (Au rfl rfl rfl rfl ((d2.mono c).cj _)) ?_;refine gj (λ_=>?_) λh=>absurd rfl h;refine gr ?_;exact⟨rfl,rfl⟩
section
open Go.ChangeShapes Go.WideShapes Go.ChangeAt Go.Joins
set_option maxRecDepth 100000 in
theorem callsNames_lifted(os:Os)(b:os.Started)(H:Type)(enc:TypeId×Value->H):
  ReturnsInHanded {} Tryz.checked os 3 .any (λw a=>(Rows.callsNamesSpec.pre enc prog Tryz.f3 [] false w a/\laidMetH prog Rows.callsNamesRow.laid w)/\sizedMet enc prog Tryz.f3 (OpenSpec.ofChange Rows.callsNamesSpec) false w a)
   (Rows.callsNamesSpec.post enc prog Tryz.f3 false true false false):=by
 refine KM (C:=Tryz.checked) (X:=λw _=>laidMetH prog Rows.callsNamesRow.laid w) (λ_ _ _ u h=>h.of_heap u) A.own b (by kernel_rfl) func3
  (ChangeSpec.witness_shaped (enc:=enc) (C:=Tryz.checked) (os:=os) (X:=λw _=>laidMetH prog Rows.callsNamesRow.laid w) false (World.laidAll prog os Rows.callsNamesRow.laid) #[] 8 (World.laidAll_os _ _ _)
   (World.shaped_of_ZipB (by kernel_rfl) (by kernel_rfl)) (by kernel_rfl) (by kernel_rfl) (by kernel_rfl)
   (by rw[MakeChecks.laidMetH_plain _ _ _ (by kernel_rfl)];exact laidMet_laidAll _ (by kernel_rfl) (by kernel_rfl))) ?_
 intro W f a ds J g c n F i m;obtain⟨E,G⟩:=TP F i;have d:∀(j:Nat) t v,Tryz.f3.params[j]? =some t->a[j]? =some v->Value.okWide prog W .any f t v:=c;have k:=n;obtain⟨p,q,l,D,rfl,y,s⟩:=n;have o:DataW.TrodAll enc prog W 0 (λ_=>true) true Tryz.f3.params.toList a.toList ds p:=l;rw[Tryz.params3]at o d;obtain⟨I,rfl,rfl⟩:=trodAll_nil o;obtain rfl:a=#[]:=by cases a;simpa using I
 obtain⟨rfl,rfl⟩:=trodVars_none D;refine(Vj (GM W) E G |>.mono λ_ _ _ h=>h.1).run.mono λe K ⟨z,B⟩=>?_;subst z;exact⟨_,rfl,QH k (by kernel_rfl) rfl rfl rfl B⟩
theorem Pm:laidOutB prog=true:=by kernel_rfl
theorem NA:mapsRowed prog=true:=by kernel_rfl
theorem Nx:(Rows.callsNamesRow.inPlace==prog.inPlace 3)=true:=by kernel_rfl
theorem Nq:(Rows.callsNamesRow.unfollowed==prog.unfollowed 3)=true:=by kernel_rfl
theorem KU:(Rows.callsNamesRow.recurses==prog.recurses 3)=true:=by kernel_rfl
theorem Kp:(Rows.callsNamesRow.named==prog.varsNamed 3)=true:=by kernel_rfl
theorem JX:joinedFacts prog 3 Tryz.f3 Rows.callsNamesSpec Rows.callsNamesRow=true:=by
 unfold joinedFacts;rw[Pm,NA,Nx,Nq,KU,Kp];kernel_rfl
theorem callsNames_holds:Rows.CallsNamesSaid:=
 OpenClaim.holds_of_wide 3 Tryz.f3 rfl rfl rfl rfl rfl rfl rfl ⟨rfl,rfl,rfl,rfl,rfl⟩ rfl rfl rfl rfl rfl (by kernel_rfl) func3 JX
  (of_decide_eq_true (by kernel_rfl)) (by unfold Func.isWrapper;first|(rw[if_pos (by decide +kernel)];kernel_rfl)|(rw[if_neg (by decide +kernel)];exact⟨rfl,rfl⟩))
  (λc a H b _=>callsNames_lifted c a H b)
end
end Go.Proofs.YtjheijhahehnmaaGreatDoor
