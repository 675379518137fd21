/- Lemmas. -/
import Derived.Test.YtjheijhahehnmaaGreatDoorXDway
namespace Go.Proofs.YtjheijhahehnmaaGreatDoor
open List (length length_append length_singleton getElem_mem mem_of_mem_take mem_of_mem_drop length_take length_drop length_map length_nil map_append map_take map_drop)
set_option linter.unusedVariables false
set_option linter.unusedSectionVars false
set_option maxRecDepth 8000
set_option maxHeartbeats 40000000
set_option linter.unusedSimpArgs false
open Go.RowKit
variable{α:Type}{pre:List (α×Nat)}{ps:List α}{y:α×Nat}
theorem wXs(h:pre++[y]<+:bw ps 0):y.2=ps.length-1-pre.length:=by
 obtain⟨r,a⟩:=h;have c:=cA length a;rw[DT,length_append,length_append,length_singleton]at c;have e:=cA (λl=>l[pre.length]?) a;simp only[bw,List.drop_zero]at e;rw[List.append_assoc,List.getElem?_append_right (by omega),List.getElem?_reverse (by rw[List.length_zipIdx];omega)]at e;simp only[List.length_zipIdx,Nat.sub_self]at e;have b:some y=(ps.zipIdx)[ps.length-1-pre.length]? :=e;rw[List.getElem?_eq_getElem (by rw[List.length_zipIdx];omega)]at b;have:=Option.some.inj b;rw[this];simp
variable{s:Sto}
theorem wGb{q:Ky}:∀{l:Nat}{xs:List It}{i:Nat}(h:i<(AB s q l xs).length),(AB s q l xs)[i].lv=(l:Int)-i
 |0,xs,i,h=>by
  have:i=0:=by rw[EY]at h;omega
  subst this;rfl
 |l+1,xs,0,h=>by show ((l+1:Nat):Int)=_;omega
 |l+1,xs,i+1,h=>by
  have a:i<(AB s q l (match xs[BJ xs q]? with|some x=>kid s x|none=>[])).length:=by rw[EY]at h ⊢;omega
  have:=wGb a;show (AB s q l (match xs[BJ xs q]? with|some x=>kid s x|none=>[]))[i].lv=_;rw[this];omega
theorem Um{q:Ky}:∀{l:Nat}{xs:List It}{k:Nat},Ag s k=some ((l:Int),xs)->A1 s l xs->(∃y,BP s q l xs=some y)->∃w,(AB s q l xs).getLast? =some w/\w.at_<w.xs.length
 |0,xs,k,g,m,⟨y,f⟩=>by
  refine⟨_,rfl,?_⟩;rw[BP]at f;by_cases h:Fy xs q=true
  ·exact E1 h
  rw[iN h]at f;cases f
 |l+1,xs,k,g,m,⟨y,f⟩=>by
  have i:=FR g (by omega);have d:=Hw (q:=q) i;obtain⟨j,u,_,B⟩:=BE m (getElem_mem d);have c:kid s xs[BJ xs q]=j:=by unfold kid;rw[u]
  have o:=(QN f d).1;rw[c]at o;obtain⟨w,n,z⟩:=Um u B ⟨y,o⟩;refine⟨w,?_,z⟩;rw[AB,List.getElem?_eq_getElem d];show (_::AB s q l (kid s xs[BJ xs q])).getLast? =_;rw[c];obtain⟨a,b,e⟩:=List.exists_cons_of_ne_nil (WM s q l j);rw[e]at n⊢;rw[List.getLast?_cons_cons];exact n
def Y0(l:List It):Prop:=∀y∈l,Bh y.key
theorem ZG(s:Sto)(y:It):Y0 (kid s y):=λx a=>by
 unfold kid at a
 split at a
 ·rename_i lv b h;exact HM h x a
 cases a
variable{l:List It}{w:Stp}
theorem wDr(z:w.at_<w.xs.length)(hk:Y0 l)(h:l≠[])(C:l.length<=5):Y0 (AH s w l).1/\(AH s w l).1≠[]/\(AH s w l).1.length<=5/\((AH s w l).2.2=1\/(AH s w l).2.2=2)/\(AH s w l).2.1+(AH s w l).2.2<=w.xs.length:=by
 have g:∀j,j=(l,w.at_,1)->Y0 j.1/\j.1≠[]/\j.1.length<=5/\(j.2.2=1\/j.2.2=2)/\j.2.1+j.2.2<=w.xs.length:=by
  rintro j rfl;exact⟨hk,h,C,.inl rfl,by show w.at_+1<=_;omega⟩
 cases c:nxt w with
 |none=>exact g _ (ZI c)
 |some i=>
  have o:i<w.xs.length/\(i=w.at_+1\/i+1=w.at_):=by
   unfold nxt at c
   split at c
   ·split at c
    ·cases c
    cases c;omega
   cases c;omega
  have f:=Vy (s:=s) (l:=l) c o.1
  by_cases m:5<(kid s w.xs[i]).length+l.length
  ·rw [iP m]at f;exact g _ f
  rw[iN m]at f
  have d:∀{a b:List It},Y0 a->Y0 b->Y0 (a++b):=λB u y n=>(mA n).elim (B y) (u y)
  by_cases k:i<w.at_
  ·rw [iP k]at f
   rw[f]
   exact⟨d (ZG s _) hk,λe=>h (List.append_eq_nil_iff.1 e).2,by simp only[length_append];omega,.inr rfl,by show i+2<=_;omega⟩
  rw[iN k]at f
  rw[f]
  exact⟨d hk (ZG s _),λe=>h (List.append_eq_nil_iff.1 e).1,by simp only[length_append];omega,.inr rfl,by show w.at_+2<=_;omega⟩
theorem Wn(b:w.at_<w.xs.length)(hk:Y0 w.xs)(c:w.xs.length<=5):Y0 (GF w)/\(GF w).length<=5/\(GF w).length=w.xs.length-1:=by
 unfold GF;refine⟨λy a=>hk y ((mA a).elim mem_of_mem_take mem_of_mem_drop),?_,?_⟩<;>simp only[length_append,length_take,length_drop]<;>omega
variable{a:Int}{j:List It×Nat×Nat}
theorem wGv(hk:Y0 w.xs)(d:Y0 j.1)(c:j.1≠[])(h:w.xs.length<=5)(g:j.2.2=1\/j.2.2=2)(f:j.2.1+j.2.2<=w.xs.length):Y0 (Ry w j a)/\(Ry w j a).length<=5/\(Ry w j a).length=w.xs.length-j.2.2+1:=by
 unfold Ry;refine⟨λy b=>?_,?_,?_⟩
 ·rcases mA b with b|b
  ·rcases mA b with b|b
   ·exact hk y (mem_of_mem_take b)
   rw[mS b];obtain⟨z,zs,e⟩:=List.exists_cons_of_ne_nil c;rw[e];exact d z (by rw[e];simp)
  exact hk y (mem_of_mem_drop b)
 ·simp only[length_append,length_take,length_drop,length_singleton];omega
 simp only[length_append,length_take,length_drop,length_singleton];omega
variable{e:Int}{l0:List It}
theorem wMn:∀{a:List Stp}(k:Nat),dn s l0 (a.drop k)=.error e->dn s l0 a=.error e
 |a,0,h=>by simpa using h
 |[],k+1,h=>by simpa using h
 |w::a,k+1,h=>by
  rw[List.drop_succ_cons]at h;rw[dn,wMn k h]
variable{lv:Int}
theorem Xa{t:Sto}{held:Int}(b:Au s)(h:Da s lv l held=.ok (t,a)):8<=a/\a<256:=by
 unfold Da at h;by_cases c:Ku s lv l=0
 ·have d:=GW c b.1.2.1;have e:8<=BD (Ai s l):=LG _ _ _;rw[iP c]at h;split at h
  ·split at h
   ·cases h;omega
   cases h
  cases h;omega
 rw[iN c]at h;cases h
variable{M':Mem}{u:Value}
theorem wXk{root:Int}{q:Ky}(h:FdPost s root q u M'):∃(y:It)(e:Option Addr)(g d:Nat)(a:Int),u=.tuple #[.agg #[iB y.key.kind,iU y.key.id,iU y.key.off,iL y.ref,.slice e g d],iL a]/\
  ((a≠0/\LR s root q=.error a)\/(a=0/\(AN s root).2=0/\∃y,NG s root q=some y)):=by
 by_cases b:(AN s root).2=0
 ·obtain ⟨y,k,a,j,⟨e,d,rfl,_⟩,i⟩:=wMj h;refine⟨y,e,_,d,a,j,?_⟩;rcases i b with⟨f,c⟩|⟨f,c,_⟩
  ·exact .inr ⟨c,b,y,f⟩
  exact .inl ⟨by rw[c];decide,by rw[c];exact TR b f⟩
 unfold FdPost at h;rw[iN b]at h;exact⟨RF,none,0,0,_,h,.inl ⟨b,wMq b⟩⟩
variable{M:Mem}{xs:List Value}
theorem SM.prx{a:Option Addr}{ys:List Value}(h:SM M a (xs++ys)):SM M a xs:=by
 rcases h with h|⟨b,c,f,e⟩
 ·exact .inl (List.append_eq_nil_iff.1 h).1
 exact .inr ⟨b,c,f,λi u d=>e i u (by rw[List.getElem?_append_left (List.getElem?_eq_some_iff.1 d).1];exact d)⟩
theorem wQs(ps:List Ir)(x:Ir)(i m:Nat)(l:m=1\/m=2)(o:i+m<=ps.length)(g:Option Addr)(f:Nat)(R:Lc)(a:Own (.slice g ps.length f) R IT 5 ps.length (ps.flatMap Ad))(d:∀x∈ps,x.2.oneCell'=true)(e:Nat)(h:TypeId)(M:Mem)(c:M e=some (cE (Ad x) h))(b:x.2.oneCell'=true)(j:ps.length<=1000):
  Sg 261 #[.slice g ps.length f,iL i,iL ((i+m:Nat):Int),.slice (sA e 0) 1 1] M R λu _ n=>Own u n IT 5 (ps.length-m+1) ((ps.take i++[x]++ps.drop (i+m)).flatMap Ad):=by
 rcases l with rfl|rfl
 ·exact UO ps [x] i (by omega) g f R a d e 1 [] h M (by rw[c];simp) (λz k=>by rw[mS k];exact b) (by simp) (by simp;omega)
 have:=wBr ps x i (by omega) g f R a d e 1 [] h M (by rw[c];simp) b (by omega);rwa[show ps.length-1=ps.length-2+1 by omega]at this
theorem Qv(a:Option Addr)(c:Nat)(xs:List It)(ps:List Ir)(d:ps.length=xs.length)(M:Mem)(hs:SM M a (ps.flatMap Ad))(e:∀p∈ps,BS M p.2 p.1.val)(b:ps.length<=1000000):
  Sg 262 #[.slice a xs.length c] M [] λv _ f=>Own v f IT 5 xs.length (ps.flatMap Ad):=by
 rw[<-d];exact EM a c ps M hs (Du e) b
theorem headI(h:0<l.length):Bw l=l[0].key:=by
 obtain⟨x,xs,rfl⟩:=List.exists_cons_of_length_pos h;rfl
theorem wMo(s:Sto)(root:Int)(q:Ky)(bv nv lw:Value)(wa:Option Addr)(wc:Nat)(ab:List (Wt×Value))(M:Mem)(h1:LS M bv s.blocks)(bX:s.waits.length<=wc)(bV:SM M wa (ab.flatMap Bb))(aC:ab.map (·.1)=s.waits)(bk:∀p∈ab,BS M p.2 p.1.2)(h3:BS M nv s.now)(h4:BS M lw s.last):
  Sg 184 #[.agg #[bv,.slice wa s.waits.length wc,nv,lw],iL root,.agg (Az q).toArray] M [] λu M' L'=>PtPost (LR s root q) u M'/\L'=[]:=by
 have h2:WS M (.slice wa s.waits.length wc) s.waits:=⟨wa,wc,ab,rfl,bX,bV,aC,bk⟩;have cJ:ST M (.agg #[bv,.slice wa s.waits.length wc,nv,lw]) s:=⟨_,_,_,_,rfl,h1,h2,h3,h4⟩;refine sB Tryz.func184 Tryz.ntmps184 ?_;intro W;refine gh ?_;refine lh (Bz (cs:=[bv,.slice wa s.waits.length wc,nv,lw]) rfl rfl rfl rfl) ?_;rintro _ _ _ ⟨b3,rfl,rfl,rfl⟩;refine lh (Bz (cs:=[iB q.kind,iU q.id,iU q.off]) rfl rfl rfl rfl) ?_;rintro _ _ _ ⟨b5,rfl,rfl,rfl⟩;refine VY λX Q P=>?_;refine Qm ?_;refine gc (SI s _ root q M cJ) ?_;rintro _ M1 cN d9;obtain⟨y0,ya,yn,yc,en,rfl,aQ⟩:=wXk d9;refine gA λb9=>?_;refine gj (λbQ=>?_) λbQ=>?_
 ·refine gh ?_;refine jN (λ_ h=>by cases h) ?_;refine gr ?_;refine⟨?_,rfl⟩;obtain⟨aS,dC⟩|⟨aS,_⟩:=aQ;rotate_left
  ·exact aD aS bQ
  rw[dC];exact⟨aS,rfl⟩
 refine gh ?_;obtain⟨aS,_⟩|⟨_,c5,y1,bf⟩:=aQ
 ·exfalso;exact aS (nN bQ)
 obtain⟨be,ch,aH,eD,b,j,J,a3,_⟩:=CR c5;obtain⟨dB,⟨dx,_⟩,⟨d1,_⟩⟩:=id be;have eA:s.waits.length<=4096:=dB.2.1;have ei:=(Ar J).lev;have ed:=EY (s:=s) (q:=q) b j;have aN:∃y,BP s q b j=some y:=⟨y1,by unfold NG at bf;rw[J]at bf;exact bf⟩;have ak:=Z2 c5 bf J;refine gc (wEv s root q bv _ nv lw b j M1 (cJ.mono cN) ⟨ch,aH⟩ be J a3 aN) ?_;rintro _ Mw cK du;have cL:=cN.trans cK;obtain⟨eu,a2,Z,rfl,ee,bj,aE,bY⟩:=id du;have dY:Z.length=(AB s q b j).length:=by rw[<-aE,length_map]
 simp only[List.nil_append];refine lh (AW rfl rfl) ?_;rintro _ _ _ ⟨a8,rfl,rfl,rfl⟩;refine Dv rfl (Ak rfl rfl rfl rfl rfl rfl rfl rfl) ?_;rintro _ _ _ ⟨rfl,rfl⟩;refine Am (jT (Ao (Aj ?_)));refine lq (Aw rfl rfl rfl rfl (CJ.loc rfl)) ?_;refine lq (Aw rfl rfl rfl rfl (CJ.loc rfl)) ?_;refine lq (MG rfl rfl rfl) ?_;refine lq (Bo (qA rfl rfl rfl rfl rfl (by omega)) (v':=iL (((AB s q b j).length-1:Nat):Int)) (cA _ (by omega))) ?_;have cx:(AB s q b j).length-1<(AB s q b j).length:=by omega
 obtain⟨sb,so,e0,hx⟩:=bj.open (by intro e;have:=cA length e;rw[Af A2 3 Dh,length_nil]at this;have h2:=cA length aE;rw[length_map]at h2;omega);cases e0;obtain⟨ea,ec,cH,cd⟩:=Ji hx aE bY cx;obtain⟨C,bF,cb⟩:=Um J a3 aN;have bl:(AB s q b j)[(AB s q b j).length-1]=C:=by rw[List.getLast?_eq_getElem?,List.getElem?_eq_getElem cx]at bF;exact Option.some.inj bF
 rw[bl]at cH cd;have bZ:C∈AB s q b j:=by rw[<-bl];exact getElem_mem _
 obtain⟨eK,eJ,aa,ev,eI,c6,c7,a4⟩:=id cd;cases ev;obtain⟨⟨j0,br⟩,_⟩:=Gj J a3 C bZ;have cl:=Ar br;have bT:=cl.len;have cu:Y0 C.xs:=HM br;have ct:FV (AB s q b j)=GF C:=by unfold FV;rw[bF]
 obtain⟨cD,cC,bx⟩:=Wn cb cu bT;have K:aa.length=C.xs.length:=by rw[<-c7,length_map]
 refine gh ?_;refine lq (A0 (cs:=[iL C.lv,.slice ea C.xs.length ec,iL C.at_]) rfl rfl rfl rfl rfl (λi v hv=>(cH i v hv).cj _)) ?_;refine ga λa7=>?_;refine AX ([(a7,cE [iL C.lv,.slice ea C.xs.length ec,iL C.at_] 368)]) (by kernel_rfl) (by simp) ?_;refine gk [0,1,2,4,5,6,7] ?_;refine Er (i:=8) rfl (by kernel_rfl) (by kernel_rfl) rfl rfl (Bo (qA rfl rfl rfl rfl rfl (by omega)) (v':=iL ((C.at_+1:Nat):Int)) (cA _ (by omega))) ?_;refine D1 (α:=Mem×Option Addr×Nat×Lc×Nat) (λy=>MLe Mw y.1/\Own (.slice y.2.1 (C.xs.length-1) y.2.2.1) y.2.2.2.1 IT 5 (C.xs.length-1) ((aa.take C.at_++aa.drop (C.at_+1)).flatMap Ad)) (λy=>[(1,iL root),(3,pB b3),(6,pB X),(7,pB Q),(8,pB P),(11,pB a8),(13,.pointer (some ⟨y.2.2.2.2,0,none⟩)),(55,.slice y.2.1 (C.xs.length-1) y.2.2.1)]) (λy=>y.1) (λy=>(y.2.2.2.2,cE [sN] 79)::(y.2.2.2.1++(a7,cE [iL C.lv,.slice ea C.xs.length ec,iL C.at_] 368)::(a8,cE [.slice (sA sb so) (AB s q b j).length a2] 365)::(b9,cE [iB y0.key.kind,iU y0.key.id,iU y0.key.off,iL y0.ref,.slice ya yn yc] 162)::(P,cE [iL 0] 40)::(Q,cE [iL 0] 3)::(X,cE [sN,sN,sN,sN] 28)::(b5,cE [iB q.kind,iU q.id,iU q.off] 92)::(b3,cE [bv,.slice wa s.waits.length wc,nv,lw] 28)::[])) 1 #[true,true,true,true,true,true,true,true,true,true,true,false] ?_ (λac=>?_)
 ·rintro ⟨Mf,da,dc,Rd,n⟩ ⟨V,k⟩;try dsimp only at V k⊢
  refine aO 11 ?_;refine Tx rfl rfl (Ak rfl rfl rfl rfl rfl rfl rfl rfl) ?_;rintro _ _ _ ⟨rfl,rfl⟩;refine aG (V) ?_;refine Fx (by kernel_rfl) ?_;refine wSi (jT (Ao ?_));refine HQ k (by simp) ?_;intro Ml e6 e3 dH el cr cq;cases el;have a0:=V.trans dH;have cn:NS Ml (.slice da (GF C).length dc) (GF C):=by
   refine⟨da,dc,(aa.take C.at_++aa.drop (C.at_+1)),rfl,by rw[bx];exact cr,cq,?_,λp O=>?_⟩
   ·rw [map_append,map_take,map_drop,c7];rfl
   exact(a4 p ((mA O).elim mem_of_mem_take mem_of_mem_drop)).mono a0
  rw[<-bx];refine ga λE=>?_;refine gC (MI s bv nv lw wa wc Ml bX (by omega) (h3.mono (cL.trans a0)) (by omega)) ?_;rintro _ Mb _ bN ⟨bb,Rn,na,nc,rfl,rfl,ci⟩;have a1:=cL.trans (a0.trans bN);have dR:BOwn Mb bb ((bb,cE [bv,.slice wa s.waits.length s.waits.length,.slice na s.now.length nc,lw] Eg)::Rn) s:=by
   refine⟨bv,_,na,nc,lw,[],Rn,rfl,h1.mono a1,h4.mono a1,ci,ab,aC,λp O=>(bk p O).mono a1,?_⟩;have c4:(ab.flatMap Bb).length=s.waits.length*2:=by rw[Af Bb 2 B3,<-aC,length_map]
   rcases bV with h0|⟨wb,wo,rfl,aB⟩
   ·have hz:s.waits.length=0:=by rw[h0,length_nil]at c4;omega
    rw[h0,hz];cases wa with
    |none=>exact .inl (Own.nil _ _)
    |some ba=>exact .inr ⟨rfl,rfl,ba,rfl,.inl rfl,λi u hu=>by cases hu⟩
   exact .inr ⟨rfl,c4,_,rfl,.inr rfl,λi u hu=>(aB i u hu).mono a1⟩
  refine ga λcR=>?_;refine Qo ?_;refine jT (Ao (Ao ?_));refine BH cR (by simp) ?_;intro Ma dI ao;refine BH a8 (by simp) ?_;intro Me b0 bh;have aV:=dI.trans b0;replace ao:=b0 _ _ ao;refine Cc (M':=Me) (L':=(n,cE [.slice da (GF C).length dc] 79)::(E,cE [iL (0)] 3)::(P,cE [iL (0)] 40)::(Q,cE [iL 0] 3)::(X,cE [sN,sN,sN,sN] 28)::((bb,cE [bv,.slice wa s.waits.length s.waits.length,.slice na s.now.length nc,lw] Eg)::Rn)) (λw h=>((((h.perm (L':=(a7,cE [iL C.lv,.slice ea C.xs.length ec,iL C.at_] 368)::(b9,cE [iB y0.key.kind,iU y0.key.id,iU y0.key.off,iL y0.ref,.slice ya yn yc] 162)::(b5,cE [iB q.kind,iU q.id,iU q.off] 92)::(b3,cE [bv,.slice wa s.waits.length wc,nv,lw] 28)::(n,cE [.slice da (GF C).length dc] 79)::(E,cE [iL (0)] 3)::(P,cE [iL (0)] 40)::(Q,cE [iL 0] 3)::(X,cE [sN,sN,sN,sN] 28)::((bb,cE [bv,.slice wa s.waits.length s.waits.length,.slice na s.now.length nc,lw] Eg)::Rn)) BA).tl).tl).tl).tl) ?_;have em:((AB s q b j).dropLast).length=b:=by rw[List.length_dropLast];omega
  have aw:(Z.take b).length=b:=by rw[length_take];omega
  have dZ:(Z.take b).map (·.1)=(AB s q b j).dropLast:=by rw[map_take,aE,List.dropLast_eq_take];congr 1;omega
  refine gh ?_;refine lq (Aw rfl rfl rfl rfl (CM.cj ⟨_,_,_,bh,rfl⟩ _)) ?_;refine lq (Aw rfl rfl rfl rfl (CM.cj ⟨_,_,_,bh,rfl⟩ _)) ?_;refine gh ?_;refine lq (Bo (CK rfl rfl rfl (.no _) (.of (v:=b) rfl (by omega) (by omega)) (.no _) (by omega) (by simp)) (v':=.slice (sA sb so) b a2) (by rw[AV];exact F6 rfl (by omega) (by omega))) ?_;refine gC (bwd _ _ _ Me) ?_;rintro _ Mg _ F ⟨dS,rfl,cQ,rfl⟩;rw[<-aw]at cQ;simp only[List.nil_append];have cM:MLe Mw Mg:=a0.trans (bN.trans (aV.trans F));have cg:SM Mg (sA sb so) ((Z.take b).flatMap A2):=by
   have:=bj.mono cM;rw[<-List.take_append_drop b Z,List.flatMap_append]at this;exact this.prx
  refine gh ?_;refine Ss (R:=(n,cE [.slice da (GF C).length dc] 79)::(E,cE [iL (0)] 3)::(P,cE [iL (0)] 40)::(Q,cE [iL 0] 3)::(X,cE [sN,sN,sN,sN] 28)::((bb,cE [bv,.slice wa s.waits.length s.waits.length,.slice na s.now.length nc,lw] Eg)::Rn)) (xs:=bw (Z.take b) 0) (enc:=(λp:(Stp×Value)×Nat=>[iL p.2,.agg (A2 p.1).toArray])) (ps:=[64,65]) rfl (by kernel_rfl) (wNq dS (sA sb so) a2 (Z.take b) Mg cQ cg (by omega))
   (λpre M' R=>∃t l la lc m Lb,R=(n,cE [.slice la l.length lc] 79)::(E,cE [iL (m)] 3)::(P,cE [iL (0)] 40)::(Q,cE [iL 0] 3)::(X,cE [sN,sN,sN,sN] 28)::Lb/\dn s (FV (AB s q b j)) (((AB s q b j).dropLast).drop (b-pre.length))=.ok (t,l,m)/\BOwn M' bb Lb t/\Au t/\NS M' (.slice la l.length lc) l/\Y0 l/\l.length<=5/\(m=0\/8<=m/\m<256))
   (λc pre M' R=>∃(e m:Int)(lv:Value)(Lb:Lc),c=.ret/\e≠0/\R=(n,cE [lv] 79)::(E,cE [iL (m)] 3)::(P,cE [iL (e)] 40)::(Q,cE [iL 0] 3)::(X,cE [sN,sN,sN,sN] 28)::Lb/\dn s (FV (AB s q b j)) ((AB s q b j).dropLast)=.error e)
   (λ_=>rfl) (by decide) ⟨s,GF C,da,dc,0,((bb,cE [bv,.slice wa s.waits.length s.waits.length,.slice na s.now.length nc,lw] Eg)::Rn),rfl,(by rw[length_nil,Nat.sub_zero,List.drop_eq_nil_of_le (by omega),ct];rfl),dR.mono (aV.trans F),be,cn.mono (bN.trans (aV.trans F)),cD,cC,.inl rfl⟩ ?_ ?_ ?_
  ·intro l2 W2 pre y M2 R2 dD aW dM aI;obtain⟨t,l,la,lc,m,aA,rfl,bK,bO,bc,dw,d2,d0,d8⟩:=dM;obtain⟨dy,hy⟩:=wUv aI;have bC:=wXs aI;rw[aw]at dy bC;obtain⟨⟨w,wv⟩,yi⟩:=y;dsimp only at hy bC;subst bC;have cp:b-1-pre.length<(AB s q b j).length:=by omega
   have bE:w=(AB s q b j)[b-1-pre.length]:=by
    have e1:w=(Z.take b)[(Z.take b).length-1-pre.length].1:=by rw[<-hy]
    rw[e1];simp only[List.getElem_take,<-aE,List.getElem_map,aw]
   have di:(w,wv)∈Z:=by rw[hy];exact mem_of_mem_take (getElem_mem _)
   have dd:w∈AB s q b j:=by rw[bE];exact getElem_mem _
   have bD:=(bY _ di).mono (cM.trans aW);dsimp only at bD;obtain⟨ia,ic,S,de,eH,aL,bJ,aM⟩:=id bD;subst de;obtain⟨⟨jw,ck⟩,e8,bW⟩:=Gj J a3 w dd;have az:=Ar ck;have aB:=az.len;have eb:=az.lev;have cv:Y0 w.xs:=HM ck;have eh:w.lv=(pre.length:Int)+1:=by rw[bE,wGb cp];omega
   have bL:=bW (by omega);have bR:∀x∈w.xs,8<=x.ref/\x.ref<256:=λx hx=>by have:=az.ref x hx;have:=az.up (by omega) x hx;omega
   have av:((AB s q b j).dropLast).drop (b-(pre.length+1))=w::((AB s q b j).dropLast).drop (b-pre.length):=by
    have d3:b-(pre.length+1)<((AB s q b j).dropLast).length:=by omega
    rw[List.drop_eq_getElem_cons d3];congr 1
    ·rw [bE,List.getElem_dropLast];congr 1;omega
    congr 1;omega
   have T:S.length=w.xs.length:=by rw[<-bJ,length_map]
   simp only[A2];refine ga λap=>?_;refine jKN λW' dE=>?_;refine gg ?_;have bg:∀x∈((n,cE [.slice la l.length lc] 79)::(E,cE [iL (m)] 3)::(P,cE [iL (0)] 40)::(Q,cE [iL 0] 3)::(X,cE [sN,sN,sN,sN] 28)::aA:Lc).map (·.1),x<W'.heap.size:=by rw[dE];exact dD
   refine gj (λcO=>?_) λcO=>?_
   ·refine gh ?_;refine DW [0,1,2,4,5,6,7,8,103,109,110,111] [(ap,cE [iL w.lv,.slice ia w.xs.length ic,iL w.at_] 368)] ?_;refine gh ?_;refine dq rfl (Bo (qA rfl rfl rfl rfl rfl (by omega)) (v':=iL ((w.at_+1:Nat):Int)) (cA _ (by omega))) ?_;refine dh rfl (Gb rfl rfl rfl rfl rfl (by kernel_rfl) (by have:=EM ia ic S M2 aL (Du aM) (by omega);rwa[T]at this)) ?_;rintro _ Mc _ ⟨f,Rc,rfl,g,I⟩;refine⟨f,by simp,?_⟩;obtain⟨ca,cc,af⟩:=g.form;subst af;refine dh rfl (Gb rfl rfl rfl rfl rfl (by kernel_rfl) (by have:=LP S w.at_ (by omega) ca cc Rc (by rw[T];exact g) (Du aM) Mc (by omega);rwa[T]at this)) ?_;rintro _ Md _ ⟨o,Rd,rfl,k,aJ⟩;refine⟨o,by simp,?_⟩;obtain⟨ah,ag,ae⟩:=k.form;subst ae;refine Dw rfl rfl (Ak rfl rfl rfl rfl rfl rfl rfl rfl) ?_;rintro _ _ _ ⟨rfl,rfl⟩;refine⟨_,_,mR,(by first|exact mR|assumption|exact f.trans o|exact f.trans (hMu.trans G)),λ_ h=>h,by simp,?_⟩;refine Dw rfl rfl (Ak rfl rfl rfl rfl rfl rfl rfl rfl) ?_;rintro _ _ _ ⟨rfl,rfl⟩;refine⟨_,_,mR,(by first|exact mR|assumption|exact f.trans o|exact f.trans (hMu.trans G)),λ_ h=>h,by simp,?_⟩;refine gh ?_;have aK:∀p∈Rd,W'.heap.size<=p.1:=λp O=>(aJ p O).elim (λh=>by obtain⟨q,hq,e⟩:=List.mem_map.1 h;rw[<-e];exact(I q hq).elim (λh=>by cases h) id) id;refine ZH k (P3 bg aK) ?_;intro Mr cU cS a5 er bG au;cases er;replace au:=au.mono (EJ _ _);refine AL (M':=Mr) (L':=(n,cE [.slice ah (w.xs.length-1) ag] 79)::(E,cE [iL (0)] 3)::(P,cE [iL (0)] 40)::(Q,cE [iL 0] 3)::(X,cE [sN,sN,sN,sN] 28)::aA) (λw9 h=>(h.perm (L':=(ap,cE [iL w.lv,.slice ia w.xs.length ic,iL w.at_] 368)::(n,cE [.slice ah (w.xs.length-1) ag] 79)::(E,cE [iL (0)] 3)::(P,cE [iL (0)] 40)::(Q,cE [iL 0] 3)::(X,cE [sN,sN,sN,sN] 28)::aA) BA).tl) ?_;refine wFt ?_;obtain⟨cB,c9,bu⟩:=Wn bL cv aB;refine⟨t,GF w,ah,ag,0,aA,by rw[bu],?_,bO.mono (f.trans (o.trans a5)),bc,⟨ah,ag,S.take w.at_++S.drop (w.at_+1),rfl,by rw[bu];exact bG,au,by rw[map_append,map_take,map_drop,bJ];rfl,λp O=>(aM p ((mA O).elim mem_of_mem_take mem_of_mem_drop)).mono (f.trans (o.trans a5))⟩,cB,c9,.inl rfl⟩;rw[length_append,length_singleton,av,dn,bK];show wPt t w l m=_;unfold wPt;rw[iP (List.eq_nil_of_length_eq_zero (by omega))]
   refine gh ?_;refine lq (Aw rfl rfl rfl rfl (CM.cj ⟨_,_,_,(F.trans aW) _ _ ao,rfl⟩ _)) ?_;refine gh ?_;have bI:l≠[]:=λe=>cO (by rw[e];rfl);refine gC (wDq t w l ia ic la lc bb M2 aA bO bc bD dw bL aB (by omega) bR) ?_;rintro _ Mj Rj am ⟨cZ,cY,rfl,co,dK⟩;rw[dK];obtain⟨c1,c0,eG,cz,d7⟩:=wDr (s:=t) bL d2 bI d0;refine ga λa6=>?_;refine lq (Aw rfl rfl rfl rfl (CM.cj ⟨_,_,_,(F.trans (aW.trans am)) _ _ ao,rfl⟩ _)) ?_;refine lq (Aw rfl rfl rfl rfl (CM.cj ⟨_,_,_,(F.trans (aW.trans am)) _ _ bh,rfl⟩ _)) ?_;refine lq (MG rfl rfl rfl) ?_;refine ja rfl (by omega) ?_;refine jp rfl ?_;refine lq (Bo (qA rfl rfl rfl rfl rfl (by omega)) (v':=iL (pre.length:Int)) (cA _ (by omega))) ?_;refine gh ?_;refine lh (Gb rfl rfl rfl rfl rfl (by kernel_rfl) (Ns t (pre.length:Int) (AH t w l).1 m cZ cY bb Mj aA (bO.mono am) bc co (λy hy=>(c1 y hy).1) d8)) ?_;rintro _ Ms _ ⟨al,Rs,rfl,aF,ef⟩;obtain⟨Y,e,rfl,ai⟩:=aF;refine gj (λbP=>?_) λbP=>?_
   ·refine gh ?_;obtain⟨U,aT⟩|⟨rfl,_⟩:=ai;rotate_left
    ·exact aD rfl bP
    refine AL (M':=Ms) (L':=(n,cE [.slice la l.length lc] 79)::(E,cE [iL (m)] 3)::(P,cE [iL (e)] 40)::(Q,cE [iL 0] 3)::(X,cE [sN,sN,sN,sN] 28)::Rs) (λw9 h=>((h.perm (L':=(a6,cE [iL ((AH t w l).2.1:Int),iL ((AH t w l).2.2:Int)] 374)::(ap,cE [iL w.lv,.slice ia w.xs.length ic,iL w.at_] 368)::(n,cE [.slice la l.length lc] 79)::(E,cE [iL (m)] 3)::(P,cE [iL (e)] 40)::(Q,cE [iL 0] 3)::(X,cE [sN,sN,sN,sN] 28)::Rs) BA).tl).tl) ?_;refine jQr ?_;refine⟨e,m,_,Rs,rfl,U,rfl,?_⟩;refine wMn (b-(pre.length+1)) ?_;rw[av,dn,bK];show wPt t w l m=_;unfold wPt;rw[iN bI,show w.lv-1=(pre.length:Int)by omega,aT]
   refine gh ?_;obtain⟨U,_⟩|⟨rfl,t9,ay,dj,dN⟩:=ai
   ·exact aD (nN bP) U
   have dv:=Xa bc ay;refine gh ?_;obtain⟨_,_,e7,ej,eF,d5,cy,d6⟩:=id (co.mono al);cases ej;have c2:0<(AH t w l).1.length:=List.length_pos_iff.2 c0;obtain⟨jb,jo,e0,d4⟩:=d5.open (by intro e;have:=cA length e;rw[Af Ad 5 Ae,length_nil]at this;have h2:=cA length cy;rw[length_map]at h2;omega);cases e0;obtain⟨va,vc,cG,eC,eB⟩:=Av d4 cy d6 c2;refine gh ?_;refine lq (A0 (cs:=Az (AH t w l).1[0].key) rfl rfl rfl rfl rfl (λi v hv=>(cG i v (Pe hv)).cj _)) ?_;refine jp rfl ?_;refine lq (Bo (BC (cs:=[_,_,_,_,_]) rfl rfl rfl (by rfl)) (v':=.agg #[iB (Bw (AH t w l).1).kind,iU (Bw (AH t w l).1).id,iU (Bw (AH t w l).1).off,iL Y,sN]) (by rw[headI c2];rfl)) ?_;refine ga λaZ=>?_;have ad:=λp O=>(aM p O).mono (am.trans al);refine AX ([(ap,cE [iL w.lv,.slice ia w.xs.length ic,iL w.at_] 368),(a6,cE [iL ((AH t w l).2.1:Int),iL ((AH t w l).2.2:Int)] 374),(aZ,cE [iB (Bw (AH t w l).1).kind,iU (Bw (AH t w l).1).id,iU (Bw (AH t w l).1).off,iL Y,sN] 162)]) (by kernel_rfl) (by simp) ?_;refine gk [0,1,2,4,5,6,7,8,9] ?_;refine Er (i:=10) rfl (by kernel_rfl) (by kernel_rfl) rfl rfl (Bo (qA rfl rfl rfl rfl rfl (by omega)) (v':=iL (((AH t w l).2.1+(AH t w l).2.2:Nat):Int)) (cA _ (by omega))) ?_;refine gk [11,14] ?_;refine D1 (α:=Mem×Option Addr×Nat×Lc×Nat) (λy=>MLe Ms y.1/\Own (.slice y.2.1 w.xs.length y.2.2.1) y.2.2.2.1 IT 5 w.xs.length (S.flatMap Ad)/\(∀p∈y.2.2.2.1,p.1∈([]:Lc).map (·.1)\/W'.heap.size<=p.1)/\y.1 y.2.2.2.2=some (cE [iB (Bw (AH t w l).1).kind,iU (Bw (AH t w l).1).id,iU (Bw (AH t w l).1).off,iL Y,sN] IT)) (λy=>[(13,pB n),(14,pB E),(20,iL Y),(111,.slice y.2.1 w.xs.length y.2.2.1),(113,iL ((AH t w l).2.1:Int)),(118,iL (((AH t w l).2.1+(AH t w l).2.2:Nat):Int)),(120,.slice (some ⟨y.2.2.2.2,0,none⟩) 1 1),(122,iL Y)]) (λy=>y.1) (λy=>y.2.2.2.1++(aZ,cE [iB (Bw (AH t w l).1).kind,iU (Bw (AH t w l).1).id,iU (Bw (AH t w l).1).off,iL Y,sN] 162)::(a6,cE [iL ((AH t w l).2.1:Int),iL ((AH t w l).2.2:Int)] 374)::(ap,cE [iL w.lv,.slice ia w.xs.length ic,iL w.at_] 368)::(n,cE [.slice la l.length lc] 79)::(E,cE [iL (m)] 3)::(P,cE [iL (0)] 40)::(Q,cE [iL 0] 3)::(X,cE [sN,sN,sN,sN] 28)::Rs) 3 #[true,true,true,true,true,true,true,true,true,true,true,true,true,false,true,false,false] ?_ (λac=>?_)
   ·rintro ⟨Mf,ca,cc,Rc,aq⟩ ⟨V,g,I,N⟩;try dsimp only at V g I N⊢
    refine aO 13 ?_;refine sh rfl (Gb rfl rfl rfl rfl rfl (by kernel_rfl) (by have:=wQs S (⟨Bw (AH t w l).1,Y,[]⟩,sN) (AH t w l).2.1 (AH t w l).2.2 cz (by omega) ca cc Rc (by rw[T];exact g) (Du aM) aq _ Mf N rfl (by omega);rwa[T]at this)) ?_;rintro _ Mp _ ⟨G,Rd,rfl,k,aJ⟩;refine aG (V.trans G) ?_;obtain⟨ah,ag,ae⟩:=k.form;subst ae;refine aO 15 ?_;refine Tx rfl rfl (Ak rfl rfl rfl rfl rfl rfl rfl rfl) ?_;rintro _ _ _ ⟨rfl,rfl⟩;refine aG (V.trans G) ?_;refine aO 16 ?_;refine Tx rfl rfl (Ak rfl rfl rfl rfl rfl rfl rfl rfl) ?_;rintro _ _ _ ⟨rfl,rfl⟩;refine aG (V.trans G) ?_;refine Fx (by kernel_rfl) ?_;refine gh ?_;have aK:∀p∈Rd,W'.heap.size<=p.1:=λp O=>(aJ p O).elim (λh=>by obtain⟨q,hq,e⟩:=List.mem_map.1 h;rw[<-e];exact(I q hq).elim (λh=>by cases h) id) id;refine ZH k (P3 bg aK) ?_;intro Mr cU cS a5 er bG au;cases er;replace au:=au.mono (EJ _ _);refine AL (M':=Mr) (L':=(n,cE [.slice ah (w.xs.length-(AH t w l).2.2+1) ag] 79)::(E,cE [iL (Y)] 3)::(P,cE [iL (0)] 40)::(Q,cE [iL 0] 3)::(X,cE [sN,sN,sN,sN] 28)::Rs) (λw9 h=>(((h.perm (L':=(aZ,cE [iB (Bw (AH t w l).1).kind,iU (Bw (AH t w l).1).id,iU (Bw (AH t w l).1).off,iL Y,sN] 162)::(a6,cE [iL ((AH t w l).2.1:Int),iL ((AH t w l).2.2:Int)] 374)::(ap,cE [iL w.lv,.slice ia w.xs.length ic,iL w.at_] 368)::(n,cE [.slice ah (w.xs.length-(AH t w l).2.2+1) ag] 79)::(E,cE [iL (Y)] 3)::(P,cE [iL (0)] 40)::(Q,cE [iL 0] 3)::(X,cE [sN,sN,sN,sN] 28)::Rs) BA).tl).tl).tl) ?_;refine wFt ?_;obtain⟨cf,ce,bp⟩:=wGv (a:=Y) cv c1 c0 aB cz d7;refine⟨t9,Ry w (AH t w l) Y,ah,ag,Y,Rs,by rw[bp],?_,dN.mono (V.trans (G.trans a5)),dj,⟨ah,ag,S.take (AH t w l).2.1++[(⟨Bw (AH t w l).1,Y,[]⟩,sN)]++S.drop ((AH t w l).2.1+(AH t w l).2.2),rfl,by rw[bp];exact bG,au,by rw[map_append,map_append,map_take,map_drop,bJ];rfl,λp O=>?_⟩,cf,ce,.inr dv⟩
    ·rw [length_append,length_singleton,av,dn,bK];show wPt t w l m=_;unfold wPt;rw[iN bI,show w.lv-1=(pre.length:Int)by omega,ay]
    rcases mA O with O|O
    ·rcases mA O with O|O
     ·exact (ad p (mem_of_mem_take O)).mono (V.trans (G.trans a5))
     rw[mS O];exact BS.nil
    exact(ad p (mem_of_mem_drop O)).mono (V.trans (G.trans a5))
   refine Be [3,12] (by kernel_rfl) rfl ⟨?_,?_,trivial⟩
   ·refine sh rfl (Gb rfl rfl rfl rfl rfl (by kernel_rfl) (Qv ia ic w.xs S T _ (by first|exact aL.mono (am.trans al)|exact aL.mono (am.trans (al.trans B))) (by first|exact ad|exact λp O=>(ad p O).mono B) (by omega))) ?_;rintro _ M3 _ ⟨D,Rc,rfl,g,I⟩;refine aG (D) ?_;obtain⟨ca,cc,af⟩:=g.form;subst af;refine aO 12 ?_;refine sh rfl (DC bg rfl rfl rfl (by rfl) (by rfl) (by rfl)) ?_;rintro _ dW _ ⟨aq,rfl,rfl,B,N⟩;refine aG ((D).trans B) ?_;refine BZ (listed':=#[true,true,true,true,true,true,true,true,true,true,true,true,true,false,true,false,false]) (by kernel_rfl) (BT (kC (t:=13) rfl (kC (t:=14) rfl (kC (t:=20) rfl (kC (t:=111) rfl (kC (t:=113) rfl (kC (t:=118) rfl (kC (t:=120) rfl (kC (t:=122) rfl Keep.nil)))))))) ?_);refine Cl (M2:=_) (L2:=Rc++(aZ,cE [iB (Bw (AH t w l).1).kind,iU (Bw (AH t w l).1).id,iU (Bw (AH t w l).1).off,iL Y,sN] 162)::(a6,cE [iL ((AH t w l).2.1:Int),iL ((AH t w l).2.2:Int)] 374)::(ap,cE [iL w.lv,.slice ia w.xs.length ic,iL w.at_] 368)::(n,cE [.slice la l.length lc] 79)::(E,cE [iL (m)] 3)::(P,cE [iL (0)] 40)::(Q,cE [iL 0] 3)::(X,cE [sN,sN,sN,sN] 28)::Rs) (λw h=>h.perm BA) (by first|exact D.trans B|exact B.trans D) (by simp) ?_;exact ac (_,ca,cc,Rc,aq) ⟨by first|exact D.trans B|exact B.trans D,g,I,by first|exact N|exact D _ _ N⟩
   refine sh rfl (DC bg rfl rfl rfl (by rfl) (by rfl) (by rfl)) ?_;rintro _ dW _ ⟨aq,rfl,rfl,B,N⟩;refine aG (B) ?_;refine aO 3 ?_;refine sh rfl (Gb rfl rfl rfl rfl rfl (by kernel_rfl) (Qv ia ic w.xs S T _ (by first|exact aL.mono (am.trans al)|exact aL.mono (am.trans (al.trans B))) (by first|exact ad|exact λp O=>(ad p O).mono B) (by omega))) ?_;rintro _ M3 _ ⟨D,Rc,rfl,g,I⟩;refine aG ((B).trans D) ?_;obtain⟨ca,cc,af⟩:=g.form;subst af;refine BZ (listed':=#[true,true,true,true,true,true,true,true,true,true,true,true,true,false,true,false,false]) (by kernel_rfl) (BT (kC (t:=13) rfl (kC (t:=14) rfl (kC (t:=20) rfl (kC (t:=111) rfl (kC (t:=113) rfl (kC (t:=118) rfl (kC (t:=120) rfl (kC (t:=122) rfl Keep.nil)))))))) ?_);refine Cl (M2:=_) (L2:=Rc++(aZ,cE [iB (Bw (AH t w l).1).kind,iU (Bw (AH t w l).1).id,iU (Bw (AH t w l).1).off,iL Y,sN] 162)::(a6,cE [iL ((AH t w l).2.1:Int),iL ((AH t w l).2.2:Int)] 374)::(ap,cE [iL w.lv,.slice ia w.xs.length ic,iL w.at_] 368)::(n,cE [.slice la l.length lc] 79)::(E,cE [iL (m)] 3)::(P,cE [iL (0)] 40)::(Q,cE [iL 0] 3)::(X,cE [sN,sN,sN,sN] 28)::Rs) (λw h=>h.perm BA) (by first|exact D.trans B|exact B.trans D) (by simp) ?_;exact ac (_,ca,cc,Rc,aq) ⟨by first|exact D.trans B|exact B.trans D,g,I,by first|exact N|exact D _ _ N⟩
  ·intro d M3 R3 D dL;obtain⟨t3,l3,bA,b4,H,bi,rfl,aj,dQ,dr,cm,cw,ek,c3⟩:=dL;rw[DT,aw,Nat.sub_self,List.drop_zero]at aj;refine AL (M':=M3) (L':=(d,.deferred (some []))::(n,cE [.slice bA l3.length b4] 79)::(E,cE [iL (H)] 3)::(P,cE [iL (0)] 40)::(Q,cE [iL 0] 3)::(X,cE [sN,sN,sN,sN] 28)::bi) (λw9 h=>by rw[List.append_nil]at h;exact h) ?_;refine gh ?_;refine lq (Aw rfl rfl rfl rfl (CM.cj ⟨_,_,_,(F.trans D) _ _ bh,rfl⟩ _)) ?_;refine lq (MG rfl rfl rfl) ?_;refine ja rfl (by omega) ?_;refine jp rfl ?_;refine Am (jT ?_);refine Fw (α:=Int) (λz=>[(1,iL root),(6,pB X),(7,pB Q),(8,pB P),(13,pB n),(14,pB E),(15,pB cR),(23,iL z)]) (λ_=>M3) (λ_=>(d,.deferred (some []))::(n,cE [.slice bA l3.length b4] 79)::(E,cE [iL (H)] 3)::(P,cE [iL (0)] 40)::(Q,cE [iL 0] 3)::(X,cE [sN,sN,sN,sN] 28)::bi) (λz=>z=if l3=[]then 0 else ((AB s q b j).length:Int)-1) ?_ ?_
   ·rintro z hz;try dsimp only at hz⊢
    refine gh ?_;refine lq (Aw rfl rfl rfl rfl (CM.cj ⟨_,_,_,(F.trans D) _ _ ao,rfl⟩ _)) ?_;refine gC (Ns t3 z l3 H bA b4 bb M3 bi dQ dr cm (λy hy=>(cw y hy).1) c3) ?_;rintro _ Mt Rs bM aF;obtain⟨Y,e,rfl,ai⟩:=aF;refine gj (λaY=>?_) λaY=>?_
    ·refine gh ?_;refine Ga [4] [4] [0,1,102,103,104] _ ([(P,cE [iL e] 40)]) ([]) ?_;refine dq rfl (BC (cs:=[_,_,_,_]) rfl rfl rfl (by rfl)) ?_;refine dq rfl (Aw rfl rfl rfl rfl (CJ.loc rfl)) ?_;refine Dw rfl rfl (Ak rfl rfl rfl rfl rfl rfl rfl rfl) ?_;rintro _ _ _ ⟨rfl,rfl⟩;refine⟨_,_,mR,(by first|exact mR|assumption|exact f.trans o|exact f.trans (hMu.trans G)),λ_ h=>h,by simp,?_⟩;refine Dw rfl rfl (Ak rfl rfl rfl rfl rfl rfl rfl rfl) ?_;rintro _ _ _ ⟨rfl,rfl⟩;refine⟨_,_,mR,(by first|exact mR|assumption|exact f.trans o|exact f.trans (hMu.trans G)),λ_ h=>h,by simp,?_⟩;refine gh ?_;refine jN (λ_ h=>by cases h) ?_;refine Bn (L2:=_) Rm.perm ?_;refine gr ?_;refine⟨?_,rfl⟩;obtain⟨U,aT⟩|⟨rfl,_⟩:=ai;rotate_left
     ·exact aD rfl aY
     rw[ak];unfold LQ;rw[aj];show PtPost (KJ root (wMp (Da t3 (if l3=[]then 0 else ((AB s q b j).length:Int)-1) l3 H))) _ _;rw[<-hz,aT];exact⟨U,rfl⟩
    refine gh ?_;obtain⟨U,_⟩|⟨rfl,t4,ay,dm,dP⟩:=ai
    ·exact aD (nN aY) U
    have aP:TQ (((AB s q b j).length:Int)-1) (dn s (FV (AB s q b j)) ((AB s q b j).dropLast))=.ok (t4,Y):=by rw[aj];show Da t3 (if l3=[]then 0 else ((AB s q b j).length:Int)-1) l3 H=_;rw[<-hz];exact ay
    obtain⟨y2,db⟩:=aN;obtain⟨L9,l9,ax⟩:∃L9 l9,TopOk s t4 q b j root.toNat Y L9 l9:=by
     have aU:=MY db;rcases Y6 (q:=q) be J (Kj a3) (Fd a3) ⟨y2,aU.1,aU.2⟩with⟨e,k1,_⟩|⟨u,a,L,l,k1,k2⟩
     ·rw [aP]at k1;cases k1
     rw[aP]at k1;cases k1;exact⟨L,l,k2⟩
    refine gh ?_;refine lq (Aw rfl rfl rfl rfl (CM.cj ⟨_,_,_,(F.trans (D.trans bM)) _ _ ao,rfl⟩ _)) ?_;refine gC (XJ t4 Y L9 7 l9 bb Mt Rs dP dm ax.rng ax.nd (wKd ax.shp) (by have:=ax.le;omega)) ?_;rintro _ dV dU bz aF;obtain⟨r5,e5,rfl,bo⟩:=aF;refine gj (λaX=>?_) λaX=>?_
    ·refine gh ?_;refine Ga [4] [4] [0,1,102,103,104] _ ([(P,cE [iL e5] 40)]) ([]) ?_;refine dq rfl (BC (cs:=[_,_,_,_]) rfl rfl rfl (by rfl)) ?_;refine dq rfl (Aw rfl rfl rfl rfl (CJ.loc rfl)) ?_;refine Dw rfl rfl (Ak rfl rfl rfl rfl rfl rfl rfl rfl) ?_;rintro _ _ _ ⟨rfl,rfl⟩;refine⟨_,_,mR,(by first|exact mR|assumption|exact f.trans o|exact f.trans (hMu.trans G)),λ_ h=>h,by simp,?_⟩;refine Dw rfl rfl (Ak rfl rfl rfl rfl rfl rfl rfl rfl) ?_;rintro _ _ _ ⟨rfl,rfl⟩;refine⟨_,_,mR,(by first|exact mR|assumption|exact f.trans o|exact f.trans (hMu.trans G)),λ_ h=>h,by simp,?_⟩;refine gh ?_;refine jN (λ_ h=>by cases h) ?_;refine Bn (L2:=_) Rm.perm ?_;refine gr ?_;refine⟨?_,rfl⟩;obtain⟨U,aT⟩|⟨rfl,_⟩:=bo;rotate_left
     ·exact aD rfl aX
     rw[ak];unfold LQ;rw[aP];show PtPost (KJ root (Ed 7 t4 Y)) _ _;rw[aT];exact⟨U,rfl⟩
    refine gh ?_;obtain⟨U,_⟩|⟨rfl,t5,bt,dl,dO⟩:=bo
    ·exact aD (nN aX) U
    refine gh ?_;refine lq (Aw rfl rfl rfl rfl (CM.cj ⟨_,_,_,(F.trans (D.trans (bM.trans bz))) _ _ ao,rfl⟩ _)) ?_;refine gC (GY t5 root ⟨ch,aH⟩ dl bb dV dU dO) ?_;rintro _ Mv Rv dG dz;obtain⟨e,rfl,bs⟩:=LvPost.form dz;refine gj (λb1=>?_) λb1=>?_
    ·refine gh ?_;refine jN (λ_ h=>by cases h) ?_;refine Bn (L2:=_) Rm.perm ?_;refine gr ?_;refine⟨?_,rfl⟩;obtain⟨rfl,bH⟩|⟨rfl,_⟩:=bs;rotate_left
     ·exact aD rfl b1
     rw[ak];unfold LQ;rw[aP];show PtPost (KJ root (Ed 7 t4 Y)) _ _;rw[bt];show PtPost (match leave t5 root with|none=>.error 8|some u=>.ok (u,r5)) _ _;rw[bH];exact⟨by decide,rfl⟩
    refine gh ?_;obtain⟨_,_⟩|⟨_,tv,bH,bq,cI⟩:=bs
    ·exfalso;omega
    obtain⟨c8,⟨cp,_⟩,⟨eE,_⟩⟩:=id bq;refine VC (s:=tv) cI (by simp) ?_;intro M9 cX cV cW Gh dJ e9 k1 k2 k3 k4;refine DW [0,2,101,103,104,105] [(Q,cE [iL r5] 3)] ?_;refine dq rfl (Aw rfl rfl rfl rfl (CM.cj ⟨_,_,_,(F.trans (D.trans (bM.trans (bz.trans (dG.trans dJ))))) _ _ ao,rfl⟩ _)) ?_;refine gh ?_;refine dh rfl (hC (DU tv bb cX cV cW Gh M9 e9 k1 k2 k3 k4 c8 (by omega) (by omega))) ?_;rintro _ Ms _ ⟨al,_,rfl,⟨bm,rfl⟩⟩;refine⟨al,by simp,?_⟩;obtain⟨q1,q2,q3,q4,rfl,f1,f2,f3,f4⟩:=bm.ex;obtain⟨eM,eL,eo,rfl,_⟩:=id f1;obtain⟨et,es,dX,rfl,_⟩:=id f2;obtain⟨ey,ew,rfl,_⟩:=id f3;obtain⟨e4,e2,rfl,_⟩:=id f4;refine Dw rfl rfl (Ak rfl rfl rfl rfl rfl rfl rfl rfl) ?_;rintro _ _ _ ⟨rfl,rfl⟩;refine⟨_,_,mR,(by first|exact mR|assumption|exact f.trans o|exact f.trans (hMu.trans G)),λ_ h=>h,by simp,?_⟩;refine Dw rfl rfl (Ak rfl rfl rfl rfl rfl rfl rfl rfl) ?_;rintro _ _ _ ⟨rfl,rfl⟩;refine⟨_,_,mR,(by first|exact mR|assumption|exact f.trans o|exact f.trans (hMu.trans G)),λ_ h=>h,by simp,?_⟩;refine Dw rfl rfl (Ak rfl rfl rfl rfl rfl rfl rfl rfl) ?_;rintro _ _ _ ⟨rfl,rfl⟩;refine⟨_,_,mR,(by first|exact mR|assumption|exact f.trans o|exact f.trans (hMu.trans G)),λ_ h=>h,by simp,?_⟩;refine gh ?_;refine jN (λ_ h=>by cases h) ?_;refine Bn (L2:=_) Rm.perm ?_;refine gr ?_;refine⟨?_,rfl⟩;rw[ak];unfold LQ;rw[aP];show PtPost (KJ root (Ed 7 t4 Y)) _ _;rw[bt];show PtPost (match leave t5 root with|none=>.error 8|some u=>.ok (u,r5)) _ _;rw[bH];exact⟨_,rfl,bm,bq⟩
   refine gj (λb2=>?_) λb2=>?_
   ·refine gh ?_;exact Ct 0 (kC (t:=1) rfl (kC (t:=6) rfl (kC (t:=7) rfl (kC (t:=8) rfl (kC (t:=13) rfl (kC (t:=14) rfl (kC (t:=15) rfl (kC (t:=23) rfl Keep.nil)))))))) (by show 0=if l3=[]then 0 else _;rw[iP (List.eq_nil_of_length_eq_zero (by omega))]) (λw h=>h)
   refine gh ?_;exact Ct (((AB s q b j).length:Int)-1) (kC (t:=1) rfl (kC (t:=6) rfl (kC (t:=7) rfl (kC (t:=8) rfl (kC (t:=13) rfl (kC (t:=14) rfl (kC (t:=15) rfl (kC (t:=23) rfl Keep.nil)))))))) (by show _=if l3=[]then 0 else _;rw[iN (λe=>b2 (by rw[e];rfl))]) (λw h=>h)
  intro d c pre M2 R2 aW aI hI;obtain⟨e,H,ez,bi,rfl,dA,rfl,aj⟩:=hI;refine gh ?_;refine jN (λ_ h=>by cases h) ?_;refine Bn (L2:=_) Rm.perm ?_;refine gr ?_;refine⟨?_,rfl⟩;rw[ak];unfold LQ;rw[aj];exact⟨dA,rfl⟩
 refine Be [3,10] (by kernel_rfl) rfl ⟨?_,?_,trivial⟩
 ·refine sh rfl (BU rfl rfl rfl rfl rfl (by kernel_rfl) (by have:=EM ea ec aa Mw c6 (Du a4) (by omega);rwa[K]at this)) ?_;rintro _ Mc _ ⟨f,Rc,rfl,g⟩;refine aG f ?_;obtain⟨ca,cc,af⟩:=g.form;subst af;refine Be [9,10] (by kernel_rfl) rfl ⟨?_,?_,trivial⟩
  ·refine sh rfl (BU rfl rfl rfl rfl rfl (by kernel_rfl) (by have:=LP aa C.at_ (by omega) ca cc Rc (by rw[K];exact g) (Du a4) Mc (by omega);rwa[K]at this)) ?_;rintro _ Md _ ⟨o,Rd,rfl,k⟩;refine aG (f.trans o) ?_;obtain⟨da,dc,ae⟩:=k.form;subst ae;refine aO 10 ?_;refine sh rfl (AW rfl rfl) ?_;rintro _ _ _ ⟨n,rfl,rfl,rfl⟩;refine aG (by first|exact mR|exact f|exact f.trans o) ?_;refine BZ (listed':=#[true,true,true,true,true,true,true,true,true,true,true,false]) (by kernel_rfl) (BT (kC (t:=1) rfl (kC (t:=3) rfl (kC (t:=6) rfl (kC (t:=7) rfl (kC (t:=8) rfl (kC (t:=11) rfl (kC (t:=13) rfl (kC (t:=55) rfl Keep.nil)))))))) ?_);refine Cl (M2:=Md) (L2:=(n,cE [sN] 79)::(Rd++(a7,cE [iL C.lv,.slice ea C.xs.length ec,iL C.at_] 368)::(a8,cE [.slice (sA sb so) (AB s q b j).length a2] 365)::(b9,cE [iB y0.key.kind,iU y0.key.id,iU y0.key.off,iL y0.ref,.slice ya yn yc] 162)::(P,cE [iL 0] 40)::(Q,cE [iL 0] 3)::(X,cE [sN,sN,sN,sN] 28)::(b5,cE [iB q.kind,iU q.id,iU q.off] 92)::(b3,cE [bv,.slice wa s.waits.length wc,nv,lw] 28)::[])) (λw h=>h.perm BA) (f.trans o) (by simp) ?_;exact ac (Md,da,dc,Rd,n) ⟨f.trans o,k⟩
  refine sh rfl (AW rfl rfl) ?_;rintro _ _ _ ⟨n,rfl,rfl,rfl⟩;refine aG (by first|exact mR|exact f|exact f.trans o) ?_;refine aO 9 ?_;refine sh rfl (BU rfl rfl rfl rfl rfl (by kernel_rfl) (by have:=LP aa C.at_ (by omega) ca cc Rc (by rw[K];exact g) (Du a4) Mc (by omega);rwa[K]at this)) ?_;rintro _ Md _ ⟨o,Rd,rfl,k⟩;refine aG (f.trans o) ?_;obtain⟨da,dc,ae⟩:=k.form;subst ae;refine BZ (listed':=#[true,true,true,true,true,true,true,true,true,true,true,false]) (by kernel_rfl) (BT (kC (t:=1) rfl (kC (t:=3) rfl (kC (t:=6) rfl (kC (t:=7) rfl (kC (t:=8) rfl (kC (t:=11) rfl (kC (t:=13) rfl (kC (t:=55) rfl Keep.nil)))))))) ?_);refine Cl (M2:=Md) (L2:=(n,cE [sN] 79)::(Rd++(a7,cE [iL C.lv,.slice ea C.xs.length ec,iL C.at_] 368)::(a8,cE [.slice (sA sb so) (AB s q b j).length a2] 365)::(b9,cE [iB y0.key.kind,iU y0.key.id,iU y0.key.off,iL y0.ref,.slice ya yn yc] 162)::(P,cE [iL 0] 40)::(Q,cE [iL 0] 3)::(X,cE [sN,sN,sN,sN] 28)::(b5,cE [iB q.kind,iU q.id,iU q.off] 92)::(b3,cE [bv,.slice wa s.waits.length wc,nv,lw] 28)::[])) (λw h=>h.perm BA) (f.trans o) (by simp) ?_;exact ac (Md,da,dc,Rd,n) ⟨f.trans o,k⟩
 refine sh rfl (AW rfl rfl) ?_;rintro _ _ _ ⟨n,rfl,rfl,rfl⟩;refine aG (by first|exact mR|exact f|exact f.trans o) ?_;refine aO 3 ?_;refine sh rfl (BU rfl rfl rfl rfl rfl (by kernel_rfl) (by have:=EM ea ec aa Mw c6 (Du a4) (by omega);rwa[K]at this)) ?_;rintro _ Mc _ ⟨f,Rc,rfl,g⟩;refine aG f ?_;obtain⟨ca,cc,af⟩:=g.form;subst af;refine aO 9 ?_;refine sh rfl (BU rfl rfl rfl rfl rfl (by kernel_rfl) (by have:=LP aa C.at_ (by omega) ca cc Rc (by rw[K];exact g) (Du a4) Mc (by omega);rwa[K]at this)) ?_;rintro _ Md _ ⟨o,Rd,rfl,k⟩;refine aG (f.trans o) ?_;obtain⟨da,dc,ae⟩:=k.form;subst ae;refine BZ (listed':=#[true,true,true,true,true,true,true,true,true,true,true,false]) (by kernel_rfl) (BT (kC (t:=1) rfl (kC (t:=3) rfl (kC (t:=6) rfl (kC (t:=7) rfl (kC (t:=8) rfl (kC (t:=11) rfl (kC (t:=13) rfl (kC (t:=55) rfl Keep.nil)))))))) ?_);refine Cl (M2:=Md) (L2:=(n,cE [sN] 79)::(Rd++(a7,cE [iL C.lv,.slice ea C.xs.length ec,iL C.at_] 368)::(a8,cE [.slice (sA sb so) (AB s q b j).length a2] 365)::(b9,cE [iB y0.key.kind,iU y0.key.id,iU y0.key.off,iL y0.ref,.slice ya yn yc] 162)::(P,cE [iL 0] 40)::(Q,cE [iL 0] 3)::(X,cE [sN,sN,sN,sN] 28)::(b5,cE [iB q.kind,iU q.id,iU q.off] 92)::(b3,cE [bv,.slice wa s.waits.length wc,nv,lw] 28)::[])) (λw h=>h.perm BA) (f.trans o) (by simp) ?_;exact ac (Md,da,dc,Rd,n) ⟨f.trans o,k⟩
end Go.Proofs.YtjheijhahehnmaaGreatDoor
