/- Walks: an item taken out. No statement of the seat is proved here. -/
import Derived.Test.YtjheijhahehnmaaGreatDoorZHn
import Derived.Test.YtjheijhahehnmaaGreatDoorZDway
import Derived.Test.YtjheijhahehnmaaGreatDoorZPut
namespace Go.Proofs.YtjheijhahehnmaaGreatDoor
open Go.Proofs.Tryz
open List (length length_append length_singleton getElem_mem mem_of_mem_take mem_of_mem_drop length_take length_drop length_map length_nil map_append map_take map_drop)
set_option linter.unusedVariables false
set_option linter.unusedSectionVars false
set_option maxRecDepth 8000
set_option maxHeartbeats 40000000
set_option linter.unusedSimpArgs false
open Go.RowKit
variable{α:Type}{pre:List (α×Nat)}{ps:List α}{y:α×Nat}
theorem UN(h:pre++[y]<+:bw ps 0):y.2=ps.length-1-pre.length:=by
 obtain⟨r,a⟩:=h;have c:=congrArg length a;rw[D4,length_append,length_append,length_singleton]at c;have e:=congrArg (λl=>l[pre.length]?) a;simp only[bw,List.drop_zero]at e;rw[List.append_assoc,List.getElem?_append_right (by omega),List.getElem?_reverse (by rw[List.length_zipIdx];omega)]at e;simp only[List.length_zipIdx,Nat.sub_self]at e;have b:some y=(ps.zipIdx)[ps.length-1-pre.length]? :=e;rw[List.getElem?_eq_getElem (by rw[List.length_zipIdx];omega)]at b;have:=Option.some.inj b;rw[this];simp
variable{s:Sto}
theorem wJs{q:Ky}:∀{l:Nat}{xs:List It}{i:Nat}(h:i<(AE s q l xs).length),(AE s q l xs)[i].lv=(l:Int)-i
 |0,xs,i,h=>by
  have:i=0:=by rw[Fk]at h;omega
  subst this;rfl
 |l+1,xs,0,h=>by show ((l+1:Nat):Int)=_;omega
 |l+1,xs,i+1,h=>by
  have a:i<(AE s q l (match xs[BO xs q]? with|some x=>kid s x|none=>[])).length:=by rw[Fk]at h ⊢;omega
  have:=wJs a;show (AE s q l (match xs[BO xs q]? with|some x=>kid s x|none=>[]))[i].lv=_;rw[this];omega
theorem Ve{q:Ky}:∀{l:Nat}{xs:List It}{k:Nat},Ak s k=some ((l:Int),xs)->A3 s l xs->(∃y,BW s q l xs=some y)->∃w,(AE s q l xs).getLast? =some w/\w.at_<w.xs.length
 |0,xs,k,g,m,⟨y,f⟩=>by
  refine⟨_,rfl,?_⟩;rw[BW]at f;by_cases h:FQ xs q=true
  ·exact Fo h
  rw[if_neg h]at f;cases f
 |l+1,xs,k,g,m,⟨y,f⟩=>by
  have i:=Gc g (by omega);have d:=HU (q:=q) i;obtain⟨j,u,_,B⟩:=BJ m (getElem_mem d);have c:kid s xs[BO xs q]=j:=by unfold kid;rw[u]
  have o:=(Ro f d).1;rw[c]at o;obtain⟨w,n,z⟩:=Ve u B ⟨y,o⟩;refine⟨w,?_,z⟩;rw[AE,List.getElem?_eq_getElem d];show (_::AE s q l (kid s xs[BO xs q])).getLast? =_;rw[c];obtain⟨a,b,e⟩:=List.exists_cons_of_ne_nil (XT s q l j);rw[e]at n⊢;rw[List.getLast?_cons_cons];exact n
def Z1(l:List It):Prop:=∀y∈l,Bj y.key
theorem wBj(s:Sto)(y:It):Z1 (kid s y):=λx a=>by
 unfold kid at a
 split at a
 ·rename_i lv b h;exact Jb h x a
 cases a
variable{l:List It}{w:Stp}
theorem wGe(z:w.at_<w.xs.length)(hk:Z1 l)(h:l≠[])(C:l.length<=5):Z1 (AJ s w l).1/\(AJ s w l).1≠[]/\(AJ s w l).1.length<=5/\((AJ s w l).2.2=1\/(AJ s w l).2.2=2)/\(AJ s w l).2.1+(AJ s w l).2.2<=w.xs.length:=by
 have g:∀j,j=(l,w.at_,1)->Z1 j.1/\j.1≠[]/\j.1.length<=5/\(j.2.2=1\/j.2.2=2)/\j.2.1+j.2.2<=w.xs.length:=by
  rintro j rfl;exact⟨hk,h,C,.inl rfl,by show w.at_+1<=_;omega⟩
 cases c:nxt w with
 |none=>exact g _ (wBm c)
 |some i=>
  have o:i<w.xs.length/\(i=w.at_+1\/i+1=w.at_):=by
   unfold nxt at c
   split at c
   ·split at c
    ·cases c
    cases c;omega
   cases c;omega
  have f:=WA (s:=s) (l:=l) c o.1
  by_cases m:5<(kid s w.xs[i]).length+l.length
  ·rw [if_pos m]at f;exact g _ f
  rw[if_neg m]at f
  have d:∀{a b:List It},Z1 a->Z1 b->Z1 (a++b):=λB u y n=>(List.mem_append.1 n).elim (B y) (u y)
  by_cases k:i<w.at_
  ·rw [if_pos k]at f
   rw[f]
   exact⟨d (wBj s _) hk,λe=>h (List.append_eq_nil_iff.1 e).2,by simp only[length_append];omega,.inr rfl,by show i+2<=_;omega⟩
  rw[if_neg k]at f
  rw[f]
  exact⟨d hk (wBj s _),λe=>h (List.append_eq_nil_iff.1 e).1,by simp only[length_append];omega,.inr rfl,by show w.at_+2<=_;omega⟩
theorem Xt(b:w.at_<w.xs.length)(hk:Z1 w.xs)(c:w.xs.length<=5):Z1 (G0 w)/\(G0 w).length<=5/\(G0 w).length=w.xs.length-1:=by
 unfold G0;refine⟨λy a=>hk y ((List.mem_append.1 a).elim mem_of_mem_take mem_of_mem_drop),?_,?_⟩<;>simp only[length_append,length_take,length_drop]<;>omega
variable{a:Int}{j:List It×Nat×Nat}
theorem wKm(hk:Z1 w.xs)(d:Z1 j.1)(c:j.1≠[])(h:w.xs.length<=5)(g:j.2.2=1\/j.2.2=2)(f:j.2.1+j.2.2<=w.xs.length):Z1 (Se w j a)/\(Se w j a).length<=5/\(Se w j a).length=w.xs.length-j.2.2+1:=by
 unfold Se;refine⟨λy b=>?_,?_,?_⟩
 ·rcases List.mem_append.1 b with b|b
  ·rcases List.mem_append.1 b with b|b
   ·exact hk y (mem_of_mem_take b)
   rw[List.mem_singleton.1 b];obtain⟨z,zs,e⟩:=List.exists_cons_of_ne_nil c;rw[e];exact d z (by rw[e];simp)
  exact hk y (mem_of_mem_drop b)
 ·simp only[length_append,length_take,length_drop,length_singleton];omega
 simp only[length_append,length_take,length_drop,length_singleton];omega
variable{e:Int}{l0:List It}
theorem wQh:∀{a:List Stp}(k:Nat),dn s l0 (a.drop k)=.error e->dn s l0 a=.error e
 |a,0,h=>by simpa using h
 |[],k+1,h=>by simpa using h
 |w::a,k+1,h=>by
  rw[List.drop_succ_cons]at h;rw[dn,wQh k h]
variable{lv:Int}
theorem Yd{t:Sto}{held:Int}(b:Av s)(h:Dj s lv l held=.ok (t,a)):8<=a/\a<256:=by
 unfold Dj at h;by_cases c:KS s lv l=0
 ·have d:=Hh c b.1.2.1;have e:8<=BH (Am s l):=Mu _ _ _;rw[if_pos c]at h;split at h
  ·split at h
   ·cases h;omega
   cases h
  cases h;omega
 rw[if_neg c]at h;cases h
variable{M':Mem}{u:Value}
theorem UI{root:Int}{q:Ky}(h:FdPost s root q u M'):∃(y:It)(e:Option Addr)(g d:Nat)(a:Int),u=.tuple #[.agg #[.int .u8 y.key.kind,.int .u32 y.key.id,.int .u32 y.key.off,.int .i64 y.ref,.slice e g d],.int .i64 a]/\
  ((a≠0/\MH s root q=.error a)\/(a=0/\(AQ s root).2=0/\∃y,N3 s root q=some y)):=by
 by_cases b:(AQ s root).2=0
 ·obtain ⟨y,k,a,j,⟨e,d,rfl,_⟩,i⟩:=wQd h;refine⟨y,e,_,d,a,j,?_⟩;rcases i b with⟨f,c⟩|⟨f,c,_⟩
  ·exact .inr ⟨c,b,y,f⟩
  exact .inl ⟨by rw[c];decide,by rw[c];exact Uz b f⟩
 unfold FdPost at h;rw[if_neg b]at h;exact⟨Sx,none,0,0,_,h,.inl ⟨b,wQk b⟩⟩
variable{M:Mem}{xs:List Value}
theorem SM.prx{a:Option Addr}{e:List Value}(h:SM M a (xs++e)):SM M a xs:=by
 rcases h with h|⟨b,c,g,f⟩
 ·exact .inl (List.append_eq_nil_iff.1 h).1
 exact .inr ⟨b,c,g,λi u d=>f i u (by rw[List.getElem?_append_left (List.getElem?_eq_some_iff.1 d).1];exact d)⟩
theorem wTm(ps:List Ir)(x:Ir)(i m:Nat)(l:m=1\/m=2)(o:i+m<=ps.length)(g:Option Addr)(f:Nat)(R:Lc)(a:Own (.slice g ps.length f) R IT 5 ps.length (ps.flatMap Ae))(d:∀x∈ps,x.2.oneCell'=true)(e:Nat)(h:TypeId)(M:Mem)(c:M e=some (cE (Ae x) h))(b:x.2.oneCell'=true)(j:ps.length<=1000):
  SpecL prog 261 #[.slice g ps.length f,.int .i64 i,.int .i64 ((i+m:Nat):Int),.slice (some ⟨e,0,none⟩) 1 1] M R λu _ n=>Own u n IT 5 (ps.length-m+1) ((ps.take i++[x]++ps.drop (i+m)).flatMap Ae):=by
 rcases l with rfl|rfl
 ·exact VN ps [x] i (by omega) g f R a d e 1 [] h M (by rw[c];simp) (λz k=>by rw[List.mem_singleton.1 k];exact b) (by simp) (by simp;omega)
 have:=wEf ps x i (by omega) g f R a d e 1 [] h M (by rw[c];simp) b (by omega);rwa[show ps.length-1=ps.length-2+1 by omega]at this
theorem QX(a:Option Addr)(c:Nat)(xs:List It)(ps:List Ir)(d:ps.length=xs.length)(M:Mem)(hs:SM M a (ps.flatMap Ae))(e:∀p∈ps,BS M p.2 p.1.val)(b:ps.length<=1000000):
  SpecL prog 262 #[.slice a xs.length c] M [] λv _ f=>Own v f IT 5 xs.length (ps.flatMap Ae):=by
 rw[<-d];exact E2 a c ps M hs (DD e) b
theorem headI(h:0<l.length):BC l=l[0].key:=by
 obtain⟨x,xs,rfl⟩:=List.exists_cons_of_length_pos h;rfl
theorem wQi(s:Sto)(root:Int)(q:Ky)(bv nv lw:Value)(wa:Option Addr)(wc:Nat)(ab:List (Wt×Value))(M:Mem)(h1:LS M bv s.blocks)(bT:s.waits.length<=wc)(bR:SM M wa (ab.flatMap AZ))(aC:ab.map (·.1)=s.waits)(bi:∀p∈ab,BS M p.2 p.1.2)(h3:BS M nv s.now)(h4:BS M lw s.last):
  SpecL prog 184 #[.agg #[bv,.slice wa s.waits.length wc,nv,lw],.int .i64 root,.agg (AA q).toArray] M [] λu M' L'=>PtPost (MH s root q) u M'/\L'=[]:=by
 have h2:WS M (.slice wa s.waits.length wc) s.waits:=⟨wa,wc,ab,rfl,bT,bR,aC,bi⟩;have cD:ST M (.agg #[bv,.slice wa s.waits.length wc,nv,lw]) s:=⟨_,_,_,_,rfl,h1,h2,h3,h4⟩;refine sB func184 ntmps184 ?_;intro W;refine gh ?_;refine lh (Bt (cs:=[bv,.slice wa s.waits.length wc,nv,lw]) rfl rfl rfl rfl) ?_;rintro _ _ _ ⟨b3,rfl,rfl,rfl⟩;refine lh (Bt (cs:=[.int .u8 q.kind,.int .u32 q.id,.int .u32 q.off]) rfl rfl rfl rfl) ?_;rintro _ _ _ ⟨b5,rfl,rfl,rfl⟩;refine W4 λX Q P=>?_;refine QN ?_;refine gc (Tt s _ root q M cD) ?_;rintro _ M1 cJ d5;obtain⟨y0,ya,yn,yc,ef,rfl,aP⟩:=UI d5;refine gA λb9=>?_;refine gj (λbO=>?_) λbO=>?_
 ·refine gh ?_;refine jN (λ_ h=>by cases h) ?_;refine gr ?_;refine⟨?_,rfl⟩;obtain⟨aQ,d8⟩|⟨aQ,_⟩:=aP;rotate_left
  ·exact absurd aQ bO
  rw[d8];exact⟨aQ,rfl⟩
 refine gh ?_;obtain⟨aQ,_⟩|⟨_,c2,y1,bd⟩:=aP
 ·exfalso;exact aQ (Classical.not_not.1 bO)
 obtain⟨bc,ce,aF,e7,b,j,J,a3,_⟩:=CW c2;obtain⟨d7,⟨dr,_⟩,⟨dx,_⟩⟩:=id bc;have e3:s.waits.length<=4096:=d7.2.1;have dZ:=(Ar J).lev;have dV:=Fk (s:=s) (q:=q) b j;have aM:∃y,BW s q b j=some y:=⟨y1,by unfold N3 at bd;rw[J]at bd;exact bd⟩;have ak:=wCg c2 bd J;refine gc (wHj s root q bv _ nv lw b j M1 (cD.mono cJ) ⟨ce,aF⟩ bc J a3 aM) ?_;rintro _ Mw cG dj;have cH:=cJ.trans cG;obtain⟨em,a2,Z,rfl,dW,bh,aD,bV⟩:=id dj;have dS:Z.length=(AE s q b j).length:=by rw[<-aD,length_map]
 simp only[List.nil_append];refine lh (AX rfl rfl) ?_;rintro _ _ _ ⟨a8,rfl,rfl,rfl⟩;refine DE rfl (Ao rfl rfl rfl rfl rfl rfl rfl rfl) ?_;rintro _ _ _ ⟨rfl,rfl⟩;refine Ai (jT (Ah (Af ?_)));refine lq (Au rfl rfl rfl rfl (CJ.loc rfl)) ?_;refine lq (Au rfl rfl rfl rfl (CJ.loc rfl)) ?_;refine lq (FY rfl rfl rfl) ?_;refine lq (Bh (qA rfl rfl rfl rfl rfl (by omega)) (v':=.int .i64 (((AE s q b j).length-1:Nat):Int)) (congrArg _ (by omega))) ?_;have cu:(AE s q b j).length-1<(AE s q b j).length:=by omega
 obtain⟨sb,so,e0,hx⟩:=bh.open (by intro e;have:=congrArg length e;rw[Aj A4 3 Dq,length_nil]at this;have h2:=congrArg length aD;rw[length_map]at h2;omega);cases e0;obtain⟨ea,ec,cB,bY⟩:=JN hx aD bV cu;obtain⟨C,bD,bX⟩:=Ve J a3 aM;have bj:(AE s q b j)[(AE s q b j).length-1]=C:=by rw[List.getLast?_eq_getElem?,List.getElem?_eq_getElem cu]at bD;exact Option.some.inj bD
 rw[bj]at cB bY;have bW:C∈AE s q b j:=by rw[<-bj];exact getElem_mem _
 obtain⟨eF,eE,aa,ev,eD,c3,c4,a4⟩:=id bY;cases ev;obtain⟨⟨j0,bp⟩,_⟩:=GB J a3 C bW;have ch:=Ar bp;have bQ:=ch.len;have cq:Z1 C.xs:=Jb bp;have cp:Gg (AE s q b j)=G0 C:=by unfold Gg;rw[bD]
 obtain⟨c9,c8,bt⟩:=Xt bX cq bQ;have K:aa.length=C.xs.length:=by rw[<-c4,length_map]
 refine gh ?_;refine lq (A1 (cs:=[.int .i64 C.lv,.slice ea C.xs.length ec,.int .i64 C.at_]) rfl rfl rfl rfl rfl (λi v hv=>(cB i v hv).cj _)) ?_;refine ga λa7=>?_;refine AV ([(a7,cE [.int .i64 C.lv,.slice ea C.xs.length ec,.int .i64 C.at_] 368)]) (by kernel_rfl) (by simp) ?_;refine gk [0,1,2,4,5,6,7] ?_;refine Et (i:=8) rfl (by kernel_rfl) (by kernel_rfl) rfl rfl (Bh (qA rfl rfl rfl rfl rfl (by omega)) (v':=.int .i64 ((C.at_+1:Nat):Int)) (congrArg _ (by omega))) ?_;refine Eg (α:=Mem×Option Addr×Nat×Lc×Nat) (λy=>MLe Mw y.1/\Own (.slice y.2.1 (C.xs.length-1) y.2.2.1) y.2.2.2.1 IT 5 (C.xs.length-1) ((aa.take C.at_++aa.drop (C.at_+1)).flatMap Ae)) (λy=>[(1,.int .i64 root),(3,pB b3),(6,pB X),(7,pB Q),(8,pB P),(11,pB a8),(13,.pointer (some ⟨y.2.2.2.2,0,none⟩)),(55,.slice y.2.1 (C.xs.length-1) y.2.2.1)]) (λy=>y.1) (λy=>(y.2.2.2.2,cE [Value.slice none 0 0] 79)::(y.2.2.2.1++(a7,cE [.int .i64 C.lv,.slice ea C.xs.length ec,.int .i64 C.at_] 368)::(a8,cE [.slice (some ⟨sb,so,none⟩) (AE s q b j).length a2] 365)::(b9,cE [.int .u8 y0.key.kind,.int .u32 y0.key.id,.int .u32 y0.key.off,.int .i64 y0.ref,.slice ya yn yc] 162)::(P,cE [Value.int .i64 0] 40)::(Q,cE [Value.int .i64 0] 3)::(X,cE [Value.slice none 0 0,Value.slice none 0 0,Value.slice none 0 0,Value.slice none 0 0] 28)::(b5,cE [.int .u8 q.kind,.int .u32 q.id,.int .u32 q.off] 92)::(b3,cE [bv,.slice wa s.waits.length wc,nv,lw] 28)::[])) 1 #[true,true,true,true,true,true,true,true,true,true,true,false] ?_ (λac=>?_)
 ·rintro ⟨Mf,da,dc,Rd,n⟩ ⟨V,k⟩;try dsimp only at V k⊢
  refine aO 11 ?_;refine Ug rfl rfl (Ao rfl rfl rfl rfl rfl rfl rfl rfl) ?_;rintro _ _ _ ⟨rfl,rfl⟩;refine aG (V) ?_;refine FP (by kernel_rfl) ?_;refine wGh (jT (Ah ?_));refine Je k (by simp) ?_;intro Ml ey eu dC el co cn;cases el;have a0:=V.trans dC;have ck:NS Ml (.slice da (G0 C).length dc) (G0 C):=by
   refine⟨da,dc,(aa.take C.at_++aa.drop (C.at_+1)),rfl,by rw[bt];exact co,cn,?_,λp O=>?_⟩
   ·rw [map_append,map_take,map_drop,c4];rfl
   exact(a4 p ((List.mem_append.1 O).elim mem_of_mem_take mem_of_mem_drop)).mono a0
  rw[<-bt];refine ga λE=>?_;refine gC (Nf s bv nv lw wa wc Ml bT (by omega) (h3.mono (cH.trans a0)) (by omega)) ?_;rintro _ Mb _ bL ⟨bb,Rn,na,nc,rfl,rfl,cf⟩;have a1:=cH.trans (a0.trans bL);have dM:BOwn Mb bb ((bb,cE [bv,.slice wa s.waits.length s.waits.length,.slice na s.now.length nc,lw] Ew)::Rn) s:=by
   refine⟨bv,_,na,nc,lw,[],Rn,rfl,h1.mono a1,h4.mono a1,cf,ab,aC,λp O=>(bi p O).mono a1,?_⟩;have c1:(ab.flatMap AZ).length=s.waits.length*2:=by rw[Aj AZ 2 BX,<-aC,length_map]
   rcases bR with h0|⟨wb,wo,rfl,aB⟩
   ·have hz:s.waits.length=0:=by rw[h0,length_nil]at c1;omega
    rw[h0,hz];cases wa with
    |none=>exact .inl (Own.nil _ _)
    |some ba=>exact .inr ⟨rfl,rfl,ba,rfl,.inl rfl,λi u hu=>by cases hu⟩
   exact .inr ⟨rfl,c1,_,rfl,.inr rfl,λi u hu=>(aB i u hu).mono a1⟩
  refine ga λcM=>?_;refine QP ?_;refine jT (Ah (Ah ?_));refine BL cM (by simp) ?_;intro Ma dD ao;refine BL a8 (by simp) ?_;intro Me bx bf;have aU:=dD.trans bx;replace ao:=bx _ _ ao;refine Cf (M':=Me) (L':=(n,cE [.slice da (G0 C).length dc] 79)::(E,cE [.int .i64 (0)] 3)::(P,cE [Value.int .i64 (0)] 40)::(Q,cE [Value.int .i64 0] 3)::(X,cE [Value.slice none 0 0,Value.slice none 0 0,Value.slice none 0 0,Value.slice none 0 0] 28)::((bb,cE [bv,.slice wa s.waits.length s.waits.length,.slice na s.now.length nc,lw] Ew)::Rn)) (λw h=>((((h.perm (L':=(a7,cE [.int .i64 C.lv,.slice ea C.xs.length ec,.int .i64 C.at_] 368)::(b9,cE [.int .u8 y0.key.kind,.int .u32 y0.key.id,.int .u32 y0.key.off,.int .i64 y0.ref,.slice ya yn yc] 162)::(b5,cE [.int .u8 q.kind,.int .u32 q.id,.int .u32 q.off] 92)::(b3,cE [bv,.slice wa s.waits.length wc,nv,lw] 28)::(n,cE [.slice da (G0 C).length dc] 79)::(E,cE [.int .i64 (0)] 3)::(P,cE [Value.int .i64 (0)] 40)::(Q,cE [Value.int .i64 0] 3)::(X,cE [Value.slice none 0 0,Value.slice none 0 0,Value.slice none 0 0,Value.slice none 0 0] 28)::((bb,cE [bv,.slice wa s.waits.length s.waits.length,.slice na s.now.length nc,lw] Ew)::Rn)) BE).tl).tl).tl).tl) ?_;have ed:((AE s q b j).dropLast).length=b:=by rw[List.length_dropLast];omega
  have aw:(Z.take b).length=b:=by rw[length_take];omega
  have dT:(Z.take b).map (·.1)=(AE s q b j).dropLast:=by rw[map_take,aD,List.dropLast_eq_take];congr 1;omega
  refine gh ?_;refine lq (Au rfl rfl rfl rfl (CM.cj ⟨_,_,_,bf,rfl⟩ _)) ?_;refine lq (Au rfl rfl rfl rfl (CM.cj ⟨_,_,_,bf,rfl⟩ _)) ?_;refine gh ?_;refine lq (Bh (CL rfl rfl rfl (.no _) (.of (v:=b) rfl (by omega) (by omega)) (.no _) (by omega) (by simp)) (v':=.slice (some ⟨sb,so,none⟩) b a2) (by rw[AU];exact Gq rfl (by omega) (by omega))) ?_;refine gC (bwd _ _ _ Me) ?_;rintro _ Mg _ F ⟨dN,rfl,cL,rfl⟩;rw[<-aw]at cL;simp only[List.nil_append];have cI:MLe Mw Mg:=a0.trans (bL.trans (aU.trans F));have cd:SM Mg (some ⟨sb,so,none⟩) ((Z.take b).flatMap A4):=by
   have:=bh.mono cI;rw[<-List.take_append_drop b Z,List.flatMap_append]at this;exact this.prx
  refine gh ?_;refine Tf (R:=(n,cE [.slice da (G0 C).length dc] 79)::(E,cE [.int .i64 (0)] 3)::(P,cE [Value.int .i64 (0)] 40)::(Q,cE [Value.int .i64 0] 3)::(X,cE [Value.slice none 0 0,Value.slice none 0 0,Value.slice none 0 0,Value.slice none 0 0] 28)::((bb,cE [bv,.slice wa s.waits.length s.waits.length,.slice na s.now.length nc,lw] Ew)::Rn)) (xs:=bw (Z.take b) 0) (enc:=(λp:(Stp×Value)×Nat=>[.int .i64 p.2,.agg (A4 p.1).toArray])) (ps:=[64,65]) rfl (by kernel_rfl) (wRk dN (some ⟨sb,so,none⟩) a2 (Z.take b) Mg cL cd (by omega))
   (λpre M' R=>∃t l la lc m Lb,R=(n,cE [.slice la l.length lc] 79)::(E,cE [.int .i64 (m)] 3)::(P,cE [Value.int .i64 (0)] 40)::(Q,cE [Value.int .i64 0] 3)::(X,cE [Value.slice none 0 0,Value.slice none 0 0,Value.slice none 0 0,Value.slice none 0 0] 28)::Lb/\dn s (Gg (AE s q b j)) (((AE s q b j).dropLast).drop (b-pre.length))=.ok (t,l,m)/\BOwn M' bb Lb t/\Av t/\NS M' (.slice la l.length lc) l/\Z1 l/\l.length<=5/\(m=0\/8<=m/\m<256))
   (λc pre M' R=>∃(e m:Int)(lv:Value)(Lb:Lc),c=.ret/\e≠0/\R=(n,cE [lv] 79)::(E,cE [.int .i64 (m)] 3)::(P,cE [Value.int .i64 (e)] 40)::(Q,cE [Value.int .i64 0] 3)::(X,cE [Value.slice none 0 0,Value.slice none 0 0,Value.slice none 0 0,Value.slice none 0 0] 28)::Lb/\dn s (Gg (AE s q b j)) ((AE s q b j).dropLast)=.error e)
   (λ_=>rfl) (by decide) ⟨s,G0 C,da,dc,0,((bb,cE [bv,.slice wa s.waits.length s.waits.length,.slice na s.now.length nc,lw] Ew)::Rn),rfl,(by rw[length_nil,Nat.sub_zero,List.drop_eq_nil_of_le (by omega),cp];rfl),dM.mono (aU.trans F),bc,ck.mono (bL.trans (aU.trans F)),c9,c8,.inl rfl⟩ ?_ ?_ ?_
  ·intro l2 W2 pre y M2 R2 d9 aV dH aH;obtain⟨t,l,la,lc,m,aA,rfl,bI,bM,aZ,dm,dy,dw,d4⟩:=dH;obtain⟨du,hy⟩:=wXr aH;have b4:=UN aH;rw[aw]at du b4;obtain⟨⟨w,wv⟩,yi⟩:=y;dsimp only at hy b4;subst b4;have cm:b-1-pre.length<(AE s q b j).length:=by omega
   have bC:w=(AE s q b j)[b-1-pre.length]:=by
    have e1:w=(Z.take b)[(Z.take b).length-1-pre.length].1:=by rw[<-hy]
    rw[e1];simp only[List.getElem_take,<-aD,List.getElem_map,aw]
   have cZ:(w,wv)∈Z:=by rw[hy];exact mem_of_mem_take (getElem_mem _)
   have cX:w∈AE s q b j:=by rw[bC];exact getElem_mem _
   have bA:=(bV _ cZ).mono (cI.trans aV);dsimp only at bA;obtain⟨ia,ic,S,cY,eC,aK,bH,aL⟩:=id bA;subst cY;obtain⟨⟨jw,cg⟩,e2,bS⟩:=GB J a3 w cX;have az:=Ar cg;have aB:=az.len;have dU:=az.lev;have cr:Z1 w.xs:=Jb cg;have dY:w.lv=(pre.length:Int)+1:=by rw[bC,wJs cm];omega
   have bJ:=bS (by omega);have bP:∀x∈w.xs,8<=x.ref/\x.ref<256:=λx hx=>by have:=az.ref x hx;have:=az.up (by omega) x hx;omega
   have av:((AE s q b j).dropLast).drop (b-(pre.length+1))=w::((AE s q b j).dropLast).drop (b-pre.length):=by
    have dz:b-(pre.length+1)<((AE s q b j).dropLast).length:=by omega
    rw[List.drop_eq_getElem_cons dz];congr 1
    ·rw [bC,List.getElem_dropLast];congr 1;omega
    congr 1;omega
   have T:S.length=w.xs.length:=by rw[<-bH,length_map]
   simp only[A4];refine ga λap=>?_;refine jKN λW' dA=>?_;refine gg ?_;have be:∀x∈((n,cE [.slice la l.length lc] 79)::(E,cE [.int .i64 (m)] 3)::(P,cE [Value.int .i64 (0)] 40)::(Q,cE [Value.int .i64 0] 3)::(X,cE [Value.slice none 0 0,Value.slice none 0 0,Value.slice none 0 0,Value.slice none 0 0] 28)::aA:Lc).map (·.1),x<W'.heap.size:=by rw[dA];exact d9
   refine gj (λcK=>?_) λcK=>?_
   ·refine gh ?_;refine D7 [0,1,2,4,5,6,7,8,103,109,110,111] [(ap,cE [.int .i64 w.lv,.slice ia w.xs.length ic,.int .i64 w.at_] 368)] ?_;refine gh ?_;refine dq rfl (Bh (qA rfl rfl rfl rfl rfl (by omega)) (v':=.int .i64 ((w.at_+1:Nat):Int)) (congrArg _ (by omega))) ?_;refine dh rfl (Gu rfl rfl rfl rfl rfl (by kernel_rfl) (by have:=E2 ia ic S M2 aK (DD aL) (by omega);rwa[T]at this)) ?_;rintro _ Mc _ ⟨f,Rc,rfl,g,I⟩;refine⟨f,by simp,?_⟩;obtain⟨ca,cc,af⟩:=g.form;subst af;refine dh rfl (Gu rfl rfl rfl rfl rfl (by kernel_rfl) (by have:=MF S w.at_ (by omega) ca cc Rc (by rw[T];exact g) (DD aL) Mc (by omega);rwa[T]at this)) ?_;rintro _ Md _ ⟨o,Rd,rfl,k,aI⟩;refine⟨o,by simp,?_⟩;obtain⟨ah,ag,ae⟩:=k.form;subst ae;refine DF rfl rfl (Ao rfl rfl rfl rfl rfl rfl rfl rfl) ?_;rintro _ _ _ ⟨rfl,rfl⟩;refine⟨_,_,MLe.refl _,(by first|exact MLe.refl _|assumption|exact f.trans o|exact f.trans (hMu.trans G)),λ_ h=>h,by simp,?_⟩;refine DF rfl rfl (Ao rfl rfl rfl rfl rfl rfl rfl rfl) ?_;rintro _ _ _ ⟨rfl,rfl⟩;refine⟨_,_,MLe.refl _,(by first|exact MLe.refl _|assumption|exact f.trans o|exact f.trans (hMu.trans G)),λ_ h=>h,by simp,?_⟩;refine gh ?_;have aJ:∀p∈Rd,W'.heap.size<=p.1:=λp O=>(aI p O).elim (λh=>by obtain⟨q,hq,e⟩:=List.mem_map.1 h;rw[<-e];exact(I q hq).elim (λh=>by cases h) id) id;refine wBk k (Qu be aJ) ?_;intro Mr cO cN a5 er bE au;cases er;replace au:=au.mono (EZ _ _);refine AM (M':=Mr) (L':=(n,cE [.slice ah (w.xs.length-1) ag] 79)::(E,cE [.int .i64 (0)] 3)::(P,cE [Value.int .i64 (0)] 40)::(Q,cE [Value.int .i64 0] 3)::(X,cE [Value.slice none 0 0,Value.slice none 0 0,Value.slice none 0 0,Value.slice none 0 0] 28)::aA) (λw9 h=>(h.perm (L':=(ap,cE [.int .i64 w.lv,.slice ia w.xs.length ic,.int .i64 w.at_] 368)::(n,cE [.slice ah (w.xs.length-1) ag] 79)::(E,cE [.int .i64 (0)] 3)::(P,cE [Value.int .i64 (0)] 40)::(Q,cE [Value.int .i64 0] 3)::(X,cE [Value.slice none 0 0,Value.slice none 0 0,Value.slice none 0 0,Value.slice none 0 0] 28)::aA) BE).tl) ?_;refine wJi ?_;obtain⟨c7,c6,bs⟩:=Xt bJ cr aB;refine⟨t,G0 w,ah,ag,0,aA,by rw[bs],?_,bM.mono (f.trans (o.trans a5)),aZ,⟨ah,ag,S.take w.at_++S.drop (w.at_+1),rfl,by rw[bs];exact bE,au,by rw[map_append,map_take,map_drop,bH];rfl,λp O=>(aL p ((List.mem_append.1 O).elim mem_of_mem_take mem_of_mem_drop)).mono (f.trans (o.trans a5))⟩,c7,c6,.inl rfl⟩;rw[length_append,length_singleton,av,dn,bI];show wSq t w l m=_;unfold wSq;rw[if_pos (List.eq_nil_of_length_eq_zero (by omega))]
   refine gh ?_;refine lq (Au rfl rfl rfl rfl (CM.cj ⟨_,_,_,(F.trans aV) _ _ ao,rfl⟩ _)) ?_;refine gh ?_;have bG:l≠[]:=λe=>cK (by rw[e];rfl);refine gC (wGd t w l ia ic la lc bb M2 aA bM aZ bA dm bJ aB (by omega) bP) ?_;rintro _ Mj Rj am ⟨cV,cU,rfl,cl,dF⟩;rw[dF];obtain⟨cy,cx,eB,cw,d3⟩:=wGe (s:=t) bJ dy bG dw;refine ga λa6=>?_;refine lq (Au rfl rfl rfl rfl (CM.cj ⟨_,_,_,(F.trans (aV.trans am)) _ _ ao,rfl⟩ _)) ?_;refine lq (Au rfl rfl rfl rfl (CM.cj ⟨_,_,_,(F.trans (aV.trans am)) _ _ bf,rfl⟩ _)) ?_;refine lq (FY rfl rfl rfl) ?_;refine ja rfl (by omega) ?_;refine jp rfl ?_;refine lq (Bh (qA rfl rfl rfl rfl rfl (by omega)) (v':=.int .i64 (pre.length:Int)) (congrArg _ (by omega))) ?_;refine gh ?_;refine lh (Gu rfl rfl rfl rfl rfl (by kernel_rfl) (NR t (pre.length:Int) (AJ t w l).1 m cV cU bb Mj aA (bM.mono am) aZ cl (λy hy=>(cy y hy).1) d4)) ?_;rintro _ Ms _ ⟨al,Rs,rfl,aE,dX⟩;obtain⟨Y,e,rfl,ai⟩:=aE;refine gj (λbN=>?_) λbN=>?_
   ·refine gh ?_;obtain⟨U,aS⟩|⟨rfl,_⟩:=ai;rotate_left
    ·exact absurd rfl bN
    refine AM (M':=Ms) (L':=(n,cE [.slice la l.length lc] 79)::(E,cE [.int .i64 (m)] 3)::(P,cE [Value.int .i64 (e)] 40)::(Q,cE [Value.int .i64 0] 3)::(X,cE [Value.slice none 0 0,Value.slice none 0 0,Value.slice none 0 0,Value.slice none 0 0] 28)::Rs) (λw9 h=>((h.perm (L':=(a6,cE [.int .i64 ((AJ t w l).2.1:Int),.int .i64 ((AJ t w l).2.2:Int)] 374)::(ap,cE [.int .i64 w.lv,.slice ia w.xs.length ic,.int .i64 w.at_] 368)::(n,cE [.slice la l.length lc] 79)::(E,cE [.int .i64 (m)] 3)::(P,cE [Value.int .i64 (e)] 40)::(Q,cE [Value.int .i64 0] 3)::(X,cE [Value.slice none 0 0,Value.slice none 0 0,Value.slice none 0 0,Value.slice none 0 0] 28)::Rs) BE).tl).tl) ?_;refine jQr ?_;refine⟨e,m,_,Rs,rfl,U,rfl,?_⟩;refine wQh (b-(pre.length+1)) ?_;rw[av,dn,bI];show wSq t w l m=_;unfold wSq;rw[if_neg bG,show w.lv-1=(pre.length:Int)by omega,aS]
   refine gh ?_;obtain⟨U,_⟩|⟨rfl,t9,ay,db,dI⟩:=ai
   ·exact absurd (Classical.not_not.1 bN) U
   have dl:=Yd aZ ay;refine gh ?_;obtain⟨_,_,ez,ej,eA,d1,cv,d2⟩:=id (cl.mono al);cases ej;have cz:0<(AJ t w l).1.length:=List.length_pos_iff.2 cx;obtain⟨jb,jo,e0,d0⟩:=d1.open (by intro e;have:=congrArg length e;rw[Aj Ae 5 Ag,length_nil]at this;have h2:=congrArg length cv;rw[length_map]at h2;omega);cases e0;obtain⟨va,vc,cA,e6,e4⟩:=Aw d0 cv d2 cz;refine gh ?_;refine lq (A1 (cs:=AA (AJ t w l).1[0].key) rfl rfl rfl rfl rfl (λi v hv=>(cA i v (PB hv)).cj _)) ?_;refine jp rfl ?_;refine lq (Bh (BF (cs:=[_,_,_,_,_]) rfl rfl rfl (by rfl)) (v':=.agg #[.int .u8 (BC (AJ t w l).1).kind,.int .u32 (BC (AJ t w l).1).id,.int .u32 (BC (AJ t w l).1).off,.int .i64 Y,.slice none 0 0]) (by rw[headI cz];rfl)) ?_;refine ga λaY=>?_;have ad:=λp O=>(aL p O).mono (am.trans al);refine AV ([(ap,cE [.int .i64 w.lv,.slice ia w.xs.length ic,.int .i64 w.at_] 368),(a6,cE [.int .i64 ((AJ t w l).2.1:Int),.int .i64 ((AJ t w l).2.2:Int)] 374),(aY,cE [.int .u8 (BC (AJ t w l).1).kind,.int .u32 (BC (AJ t w l).1).id,.int .u32 (BC (AJ t w l).1).off,.int .i64 Y,.slice none 0 0] 162)]) (by kernel_rfl) (by simp) ?_;refine gk [0,1,2,4,5,6,7,8,9] ?_;refine Et (i:=10) rfl (by kernel_rfl) (by kernel_rfl) rfl rfl (Bh (qA rfl rfl rfl rfl rfl (by omega)) (v':=.int .i64 (((AJ t w l).2.1+(AJ t w l).2.2:Nat):Int)) (congrArg _ (by omega))) ?_;refine gk [11,14] ?_;refine Eg (α:=Mem×Option Addr×Nat×Lc×Nat) (λy=>MLe Ms y.1/\Own (.slice y.2.1 w.xs.length y.2.2.1) y.2.2.2.1 IT 5 w.xs.length (S.flatMap Ae)/\(∀p∈y.2.2.2.1,p.1∈([]:Lc).map (·.1)\/W'.heap.size<=p.1)/\y.1 y.2.2.2.2=some (cE [.int .u8 (BC (AJ t w l).1).kind,.int .u32 (BC (AJ t w l).1).id,.int .u32 (BC (AJ t w l).1).off,.int .i64 Y,.slice none 0 0] IT)) (λy=>[(13,pB n),(14,pB E),(20,.int .i64 Y),(111,.slice y.2.1 w.xs.length y.2.2.1),(113,.int .i64 ((AJ t w l).2.1:Int)),(118,.int .i64 (((AJ t w l).2.1+(AJ t w l).2.2:Nat):Int)),(120,.slice (some ⟨y.2.2.2.2,0,none⟩) 1 1),(122,.int .i64 Y)]) (λy=>y.1) (λy=>y.2.2.2.1++(aY,cE [.int .u8 (BC (AJ t w l).1).kind,.int .u32 (BC (AJ t w l).1).id,.int .u32 (BC (AJ t w l).1).off,.int .i64 Y,.slice none 0 0] 162)::(a6,cE [.int .i64 ((AJ t w l).2.1:Int),.int .i64 ((AJ t w l).2.2:Int)] 374)::(ap,cE [.int .i64 w.lv,.slice ia w.xs.length ic,.int .i64 w.at_] 368)::(n,cE [.slice la l.length lc] 79)::(E,cE [.int .i64 (m)] 3)::(P,cE [Value.int .i64 (0)] 40)::(Q,cE [Value.int .i64 0] 3)::(X,cE [Value.slice none 0 0,Value.slice none 0 0,Value.slice none 0 0,Value.slice none 0 0] 28)::Rs) 3 #[true,true,true,true,true,true,true,true,true,true,true,true,true,false,true,false,false] ?_ (λac=>?_)
   ·rintro ⟨Mf,ca,cc,Rc,aq⟩ ⟨V,g,I,N⟩;try dsimp only at V g I N⊢
    refine aO 13 ?_;refine sh rfl (Gu rfl rfl rfl rfl rfl (by kernel_rfl) (by have:=wTm S (⟨BC (AJ t w l).1,Y,[]⟩,.slice none 0 0) (AJ t w l).2.1 (AJ t w l).2.2 cw (by omega) ca cc Rc (by rw[T];exact g) (DD aL) aq _ Mf N rfl (by omega);rwa[T]at this)) ?_;rintro _ Mp _ ⟨G,Rd,rfl,k,aI⟩;refine aG (V.trans G) ?_;obtain⟨ah,ag,ae⟩:=k.form;subst ae;refine aO 15 ?_;refine Ug rfl rfl (Ao rfl rfl rfl rfl rfl rfl rfl rfl) ?_;rintro _ _ _ ⟨rfl,rfl⟩;refine aG (V.trans G) ?_;refine aO 16 ?_;refine Ug rfl rfl (Ao rfl rfl rfl rfl rfl rfl rfl rfl) ?_;rintro _ _ _ ⟨rfl,rfl⟩;refine aG (V.trans G) ?_;refine FP (by kernel_rfl) ?_;refine gh ?_;have aJ:∀p∈Rd,W'.heap.size<=p.1:=λp O=>(aI p O).elim (λh=>by obtain⟨q,hq,e⟩:=List.mem_map.1 h;rw[<-e];exact(I q hq).elim (λh=>by cases h) id) id;refine wBk k (Qu be aJ) ?_;intro Mr cO cN a5 er bE au;cases er;replace au:=au.mono (EZ _ _);refine AM (M':=Mr) (L':=(n,cE [.slice ah (w.xs.length-(AJ t w l).2.2+1) ag] 79)::(E,cE [.int .i64 (Y)] 3)::(P,cE [Value.int .i64 (0)] 40)::(Q,cE [Value.int .i64 0] 3)::(X,cE [Value.slice none 0 0,Value.slice none 0 0,Value.slice none 0 0,Value.slice none 0 0] 28)::Rs) (λw9 h=>(((h.perm (L':=(aY,cE [.int .u8 (BC (AJ t w l).1).kind,.int .u32 (BC (AJ t w l).1).id,.int .u32 (BC (AJ t w l).1).off,.int .i64 Y,.slice none 0 0] 162)::(a6,cE [.int .i64 ((AJ t w l).2.1:Int),.int .i64 ((AJ t w l).2.2:Int)] 374)::(ap,cE [.int .i64 w.lv,.slice ia w.xs.length ic,.int .i64 w.at_] 368)::(n,cE [.slice ah (w.xs.length-(AJ t w l).2.2+1) ag] 79)::(E,cE [.int .i64 (Y)] 3)::(P,cE [Value.int .i64 (0)] 40)::(Q,cE [Value.int .i64 0] 3)::(X,cE [Value.slice none 0 0,Value.slice none 0 0,Value.slice none 0 0,Value.slice none 0 0] 28)::Rs) BE).tl).tl).tl) ?_;refine wJi ?_;obtain⟨cb,bZ,bm⟩:=wKm (a:=Y) cr cy cx aB cw d3;refine⟨t9,Se w (AJ t w l) Y,ah,ag,Y,Rs,by rw[bm],?_,dI.mono (V.trans (G.trans a5)),db,⟨ah,ag,S.take (AJ t w l).2.1++[(⟨BC (AJ t w l).1,Y,[]⟩,.slice none 0 0)]++S.drop ((AJ t w l).2.1+(AJ t w l).2.2),rfl,by rw[bm];exact bE,au,by rw[map_append,map_append,map_take,map_drop,bH];rfl,λp O=>?_⟩,cb,bZ,.inr dl⟩
    ·rw [length_append,length_singleton,av,dn,bI];show wSq t w l m=_;unfold wSq;rw[if_neg bG,show w.lv-1=(pre.length:Int)by omega,ay]
    rcases List.mem_append.1 O with O|O
    ·rcases List.mem_append.1 O with O|O
     ·exact (ad p (mem_of_mem_take O)).mono (V.trans (G.trans a5))
     rw[List.mem_singleton.1 O];exact BS.nil
    exact(ad p (mem_of_mem_drop O)).mono (V.trans (G.trans a5))
   refine Bf [3,12] (by kernel_rfl) rfl ⟨?_,?_,trivial⟩
   ·refine sh rfl (Gu rfl rfl rfl rfl rfl (by kernel_rfl) (QX ia ic w.xs S T _ (by first|exact aK.mono (am.trans al)|exact aK.mono (am.trans (al.trans B))) (by first|exact ad|exact λp O=>(ad p O).mono B) (by omega))) ?_;rintro _ M3 _ ⟨D,Rc,rfl,g,I⟩;refine aG (D) ?_;obtain⟨ca,cc,af⟩:=g.form;subst af;refine aO 12 ?_;refine sh rfl (DO be rfl rfl rfl (by rfl) (by rfl) (by rfl)) ?_;rintro _ dQ _ ⟨aq,rfl,rfl,B,N⟩;refine aG ((D).trans B) ?_;refine B3 (listed':=#[true,true,true,true,true,true,true,true,true,true,true,true,true,false,true,false,false]) (by kernel_rfl) (BZ (Keep.cons (t:=13) rfl (Keep.cons (t:=14) rfl (Keep.cons (t:=20) rfl (Keep.cons (t:=111) rfl (Keep.cons (t:=113) rfl (Keep.cons (t:=118) rfl (Keep.cons (t:=120) rfl (Keep.cons (t:=122) rfl Keep.nil)))))))) ?_);refine Cp (M2:=_) (L2:=Rc++(aY,cE [.int .u8 (BC (AJ t w l).1).kind,.int .u32 (BC (AJ t w l).1).id,.int .u32 (BC (AJ t w l).1).off,.int .i64 Y,.slice none 0 0] 162)::(a6,cE [.int .i64 ((AJ t w l).2.1:Int),.int .i64 ((AJ t w l).2.2:Int)] 374)::(ap,cE [.int .i64 w.lv,.slice ia w.xs.length ic,.int .i64 w.at_] 368)::(n,cE [.slice la l.length lc] 79)::(E,cE [.int .i64 (m)] 3)::(P,cE [Value.int .i64 (0)] 40)::(Q,cE [Value.int .i64 0] 3)::(X,cE [Value.slice none 0 0,Value.slice none 0 0,Value.slice none 0 0,Value.slice none 0 0] 28)::Rs) (λw h=>h.perm BE) (by first|exact D.trans B|exact B.trans D) (by simp) ?_;exact ac (_,ca,cc,Rc,aq) ⟨by first|exact D.trans B|exact B.trans D,g,I,by first|exact N|exact D _ _ N⟩
   refine sh rfl (DO be rfl rfl rfl (by rfl) (by rfl) (by rfl)) ?_;rintro _ dQ _ ⟨aq,rfl,rfl,B,N⟩;refine aG (B) ?_;refine aO 3 ?_;refine sh rfl (Gu rfl rfl rfl rfl rfl (by kernel_rfl) (QX ia ic w.xs S T _ (by first|exact aK.mono (am.trans al)|exact aK.mono (am.trans (al.trans B))) (by first|exact ad|exact λp O=>(ad p O).mono B) (by omega))) ?_;rintro _ M3 _ ⟨D,Rc,rfl,g,I⟩;refine aG ((B).trans D) ?_;obtain⟨ca,cc,af⟩:=g.form;subst af;refine B3 (listed':=#[true,true,true,true,true,true,true,true,true,true,true,true,true,false,true,false,false]) (by kernel_rfl) (BZ (Keep.cons (t:=13) rfl (Keep.cons (t:=14) rfl (Keep.cons (t:=20) rfl (Keep.cons (t:=111) rfl (Keep.cons (t:=113) rfl (Keep.cons (t:=118) rfl (Keep.cons (t:=120) rfl (Keep.cons (t:=122) rfl Keep.nil)))))))) ?_);refine Cp (M2:=_) (L2:=Rc++(aY,cE [.int .u8 (BC (AJ t w l).1).kind,.int .u32 (BC (AJ t w l).1).id,.int .u32 (BC (AJ t w l).1).off,.int .i64 Y,.slice none 0 0] 162)::(a6,cE [.int .i64 ((AJ t w l).2.1:Int),.int .i64 ((AJ t w l).2.2:Int)] 374)::(ap,cE [.int .i64 w.lv,.slice ia w.xs.length ic,.int .i64 w.at_] 368)::(n,cE [.slice la l.length lc] 79)::(E,cE [.int .i64 (m)] 3)::(P,cE [Value.int .i64 (0)] 40)::(Q,cE [Value.int .i64 0] 3)::(X,cE [Value.slice none 0 0,Value.slice none 0 0,Value.slice none 0 0,Value.slice none 0 0] 28)::Rs) (λw h=>h.perm BE) (by first|exact D.trans B|exact B.trans D) (by simp) ?_;exact ac (_,ca,cc,Rc,aq) ⟨by first|exact D.trans B|exact B.trans D,g,I,by first|exact N|exact D _ _ N⟩
  ·intro d M3 R3 D dG;obtain⟨t3,l3,b2,b1,H,bg,rfl,aj,dL,di,ci,ct,eb,c0⟩:=dG;rw[D4,aw,Nat.sub_self,List.drop_zero]at aj;refine AM (M':=M3) (L':=(d,.deferred (some []))::(n,cE [.slice b2 l3.length b1] 79)::(E,cE [.int .i64 (H)] 3)::(P,cE [Value.int .i64 (0)] 40)::(Q,cE [Value.int .i64 0] 3)::(X,cE [Value.slice none 0 0,Value.slice none 0 0,Value.slice none 0 0,Value.slice none 0 0] 28)::bg) (λw9 h=>by rw[List.append_nil]at h;exact h) ?_;refine gh ?_;refine lq (Au rfl rfl rfl rfl (CM.cj ⟨_,_,_,(F.trans D) _ _ bf,rfl⟩ _)) ?_;refine lq (FY rfl rfl rfl) ?_;refine ja rfl (by omega) ?_;refine jp rfl ?_;refine Ai (jT ?_);refine FO (α:=Int) (λz=>[(1,.int .i64 root),(6,pB X),(7,pB Q),(8,pB P),(13,pB n),(14,pB E),(15,pB cM),(23,.int .i64 z)]) (λ_=>M3) (λ_=>(d,.deferred (some []))::(n,cE [.slice b2 l3.length b1] 79)::(E,cE [.int .i64 (H)] 3)::(P,cE [Value.int .i64 (0)] 40)::(Q,cE [Value.int .i64 0] 3)::(X,cE [Value.slice none 0 0,Value.slice none 0 0,Value.slice none 0 0,Value.slice none 0 0] 28)::bg) (λz=>z=if l3=[]then 0 else ((AE s q b j).length:Int)-1) ?_ ?_
   ·rintro z hz;try dsimp only at hz⊢
    refine gh ?_;refine lq (Au rfl rfl rfl rfl (CM.cj ⟨_,_,_,(F.trans D) _ _ ao,rfl⟩ _)) ?_;refine gC (NR t3 z l3 H b2 b1 bb M3 bg dL di ci (λy hy=>(ct y hy).1) c0) ?_;rintro _ Mt Rs bK aE;obtain⟨Y,e,rfl,ai⟩:=aE;refine gj (λaX=>?_) λaX=>?_
    ·refine gh ?_;refine Gt [4] [4] [0,1,102,103,104] _ ([(P,cE [Value.int .i64 e] 40)]) ([]) ?_;refine dq rfl (BF (cs:=[_,_,_,_]) rfl rfl rfl (by rfl)) ?_;refine dq rfl (Au rfl rfl rfl rfl (CJ.loc rfl)) ?_;refine DF rfl rfl (Ao rfl rfl rfl rfl rfl rfl rfl rfl) ?_;rintro _ _ _ ⟨rfl,rfl⟩;refine⟨_,_,MLe.refl _,(by first|exact MLe.refl _|assumption|exact f.trans o|exact f.trans (hMu.trans G)),λ_ h=>h,by simp,?_⟩;refine DF rfl rfl (Ao rfl rfl rfl rfl rfl rfl rfl rfl) ?_;rintro _ _ _ ⟨rfl,rfl⟩;refine⟨_,_,MLe.refl _,(by first|exact MLe.refl _|assumption|exact f.trans o|exact f.trans (hMu.trans G)),λ_ h=>h,by simp,?_⟩;refine gh ?_;refine jN (λ_ h=>by cases h) ?_;refine Bu (L2:=_) Rm.perm ?_;refine gr ?_;refine⟨?_,rfl⟩;obtain⟨U,aS⟩|⟨rfl,_⟩:=ai;rotate_left
     ·exact absurd rfl aX
     rw[ak];unfold MG;rw[aj];show PtPost (Ld root (wQj (Dj t3 (if l3=[]then 0 else ((AE s q b j).length:Int)-1) l3 H))) _ _;rw[<-hz,aS];exact⟨U,rfl⟩
    refine gh ?_;obtain⟨U,_⟩|⟨rfl,t4,ay,de,dK⟩:=ai
    ·exact absurd (Classical.not_not.1 aX) U
    have aN:Uy (((AE s q b j).length:Int)-1) (dn s (Gg (AE s q b j)) ((AE s q b j).dropLast))=.ok (t4,Y):=by rw[aj];show Dj t3 (if l3=[]then 0 else ((AE s q b j).length:Int)-1) l3 H=_;rw[<-hz];exact ay
    obtain⟨y2,cW⟩:=aM;obtain⟨L9,l9,ax⟩:∃L9 l9,TopOk s t4 q b j root.toNat Y L9 l9:=by
     have aT:=Nw cW;rcases Z6 (q:=q) bc J (KH a3) (FB a3) ⟨y2,aT.1,aT.2⟩with⟨e,k1,_⟩|⟨u,a,L,l,k1,k2⟩
     ·rw [aN]at k1;cases k1
     rw[aN]at k1;cases k1;exact⟨L,l,k2⟩
    refine gh ?_;refine lq (Au rfl rfl rfl rfl (CM.cj ⟨_,_,_,(F.trans (D.trans bK)) _ _ ao,rfl⟩ _)) ?_;refine gC (YM t4 Y L9 7 l9 bb Mt Rs dK de ax.rng ax.nd (wNa ax.shp) (by have:=ax.le;omega)) ?_;rintro _ dP dO bu aE;obtain⟨r5,e5,rfl,bl⟩:=aE;refine gj (λaW=>?_) λaW=>?_
    ·refine gh ?_;refine Gt [4] [4] [0,1,102,103,104] _ ([(P,cE [Value.int .i64 e5] 40)]) ([]) ?_;refine dq rfl (BF (cs:=[_,_,_,_]) rfl rfl rfl (by rfl)) ?_;refine dq rfl (Au rfl rfl rfl rfl (CJ.loc rfl)) ?_;refine DF rfl rfl (Ao rfl rfl rfl rfl rfl rfl rfl rfl) ?_;rintro _ _ _ ⟨rfl,rfl⟩;refine⟨_,_,MLe.refl _,(by first|exact MLe.refl _|assumption|exact f.trans o|exact f.trans (hMu.trans G)),λ_ h=>h,by simp,?_⟩;refine DF rfl rfl (Ao rfl rfl rfl rfl rfl rfl rfl rfl) ?_;rintro _ _ _ ⟨rfl,rfl⟩;refine⟨_,_,MLe.refl _,(by first|exact MLe.refl _|assumption|exact f.trans o|exact f.trans (hMu.trans G)),λ_ h=>h,by simp,?_⟩;refine gh ?_;refine jN (λ_ h=>by cases h) ?_;refine Bu (L2:=_) Rm.perm ?_;refine gr ?_;refine⟨?_,rfl⟩;obtain⟨U,aS⟩|⟨rfl,_⟩:=bl;rotate_left
     ·exact absurd rfl aW
     rw[ak];unfold MG;rw[aN];show PtPost (Ld root (Es 7 t4 Y)) _ _;rw[aS];exact⟨U,rfl⟩
    refine gh ?_;obtain⟨U,_⟩|⟨rfl,t5,br,dd,dJ⟩:=bl
    ·exact absurd (Classical.not_not.1 aW) U
    refine gh ?_;refine lq (Au rfl rfl rfl rfl (CM.cj ⟨_,_,_,(F.trans (D.trans (bK.trans bu))) _ _ ao,rfl⟩ _)) ?_;refine gC (Hj t5 root ⟨ce,aF⟩ dd bb dP dO dJ) ?_;rintro _ Mv Rv dB dv;obtain⟨e,rfl,bq⟩:=LvPost.form dv;refine gj (λbz=>?_) λbz=>?_
    ·refine gh ?_;refine jN (λ_ h=>by cases h) ?_;refine Bu (L2:=_) Rm.perm ?_;refine gr ?_;refine⟨?_,rfl⟩;obtain⟨rfl,bF⟩|⟨rfl,_⟩:=bq;rotate_left
     ·exact absurd rfl bz
     rw[ak];unfold MG;rw[aN];show PtPost (Ld root (Es 7 t4 Y)) _ _;rw[br];show PtPost (match Df t5 root with|none=>.error 8|some u=>.ok (u,r5)) _ _;rw[bF];exact⟨by decide,rfl⟩
    refine gh ?_;obtain⟨_,_⟩|⟨_,tv,bF,bo,cC⟩:=bq
    ·exfalso;omega
    obtain⟨c5,⟨cm,_⟩,⟨e8,_⟩⟩:=id bo;refine WD (s:=tv) cC (by simp) ?_;intro M9 cS cQ cR Gs dE e9 k1 k2 k3 k4;refine D7 [0,2,101,103,104,105] [(Q,cE [Value.int .i64 r5] 3)] ?_;refine dq rfl (Au rfl rfl rfl rfl (CM.cj ⟨_,_,_,(F.trans (D.trans (bK.trans (bu.trans (dB.trans dE))))) _ _ ao,rfl⟩ _)) ?_;refine gh ?_;refine dh rfl (hC (D5 tv bb cS cQ cR Gs M9 e9 k1 k2 k3 k4 c5 (by omega) (by omega))) ?_;rintro _ Ms _ ⟨al,_,rfl,⟨bk,rfl⟩⟩;refine⟨al,by simp,?_⟩;obtain⟨q1,q2,q3,q4,rfl,f1,f2,f3,f4⟩:=bk.ex;obtain⟨eH,eG,eh,rfl,_⟩:=id f1;obtain⟨ek,ei,dR,rfl,_⟩:=id f2;obtain⟨eo,en,rfl,_⟩:=id f3;obtain⟨ew,et,rfl,_⟩:=id f4;refine DF rfl rfl (Ao rfl rfl rfl rfl rfl rfl rfl rfl) ?_;rintro _ _ _ ⟨rfl,rfl⟩;refine⟨_,_,MLe.refl _,(by first|exact MLe.refl _|assumption|exact f.trans o|exact f.trans (hMu.trans G)),λ_ h=>h,by simp,?_⟩;refine DF rfl rfl (Ao rfl rfl rfl rfl rfl rfl rfl rfl) ?_;rintro _ _ _ ⟨rfl,rfl⟩;refine⟨_,_,MLe.refl _,(by first|exact MLe.refl _|assumption|exact f.trans o|exact f.trans (hMu.trans G)),λ_ h=>h,by simp,?_⟩;refine DF rfl rfl (Ao rfl rfl rfl rfl rfl rfl rfl rfl) ?_;rintro _ _ _ ⟨rfl,rfl⟩;refine⟨_,_,MLe.refl _,(by first|exact MLe.refl _|assumption|exact f.trans o|exact f.trans (hMu.trans G)),λ_ h=>h,by simp,?_⟩;refine gh ?_;refine jN (λ_ h=>by cases h) ?_;refine Bu (L2:=_) Rm.perm ?_;refine gr ?_;refine⟨?_,rfl⟩;rw[ak];unfold MG;rw[aN];show PtPost (Ld root (Es 7 t4 Y)) _ _;rw[br];show PtPost (match Df t5 root with|none=>.error 8|some u=>.ok (u,r5)) _ _;rw[bF];exact⟨_,rfl,bk,bo⟩
   refine gj (λb0=>?_) λb0=>?_
   ·refine gh ?_;exact Cx 0 (Keep.cons (t:=1) rfl (Keep.cons (t:=6) rfl (Keep.cons (t:=7) rfl (Keep.cons (t:=8) rfl (Keep.cons (t:=13) rfl (Keep.cons (t:=14) rfl (Keep.cons (t:=15) rfl (Keep.cons (t:=23) rfl Keep.nil)))))))) (by show 0=if l3=[]then 0 else _;rw[if_pos (List.eq_nil_of_length_eq_zero (by omega))]) (λw h=>h)
   refine gh ?_;exact Cx (((AE s q b j).length:Int)-1) (Keep.cons (t:=1) rfl (Keep.cons (t:=6) rfl (Keep.cons (t:=7) rfl (Keep.cons (t:=8) rfl (Keep.cons (t:=13) rfl (Keep.cons (t:=14) rfl (Keep.cons (t:=15) rfl (Keep.cons (t:=23) rfl Keep.nil)))))))) (by show _=if l3=[]then 0 else _;rw[if_neg (λe=>b0 (by rw[e];rfl))]) (λw h=>h)
  intro d c pre M2 R2 aV aH hI;obtain⟨e,H,es,bg,rfl,d6,rfl,aj⟩:=hI;refine gh ?_;refine jN (λ_ h=>by cases h) ?_;refine Bu (L2:=_) Rm.perm ?_;refine gr ?_;refine⟨?_,rfl⟩;rw[ak];unfold MG;rw[aj];exact⟨d6,rfl⟩
 refine Bf [3,10] (by kernel_rfl) rfl ⟨?_,?_,trivial⟩
 ·refine sh rfl (BV rfl rfl rfl rfl rfl (by kernel_rfl) (by have:=E2 ea ec aa Mw c3 (DD a4) (by omega);rwa[K]at this)) ?_;rintro _ Mc _ ⟨f,Rc,rfl,g⟩;refine aG f ?_;obtain⟨ca,cc,af⟩:=g.form;subst af;refine Bf [9,10] (by kernel_rfl) rfl ⟨?_,?_,trivial⟩
  ·refine sh rfl (BV rfl rfl rfl rfl rfl (by kernel_rfl) (by have:=MF aa C.at_ (by omega) ca cc Rc (by rw[K];exact g) (DD a4) Mc (by omega);rwa[K]at this)) ?_;rintro _ Md _ ⟨o,Rd,rfl,k⟩;refine aG (f.trans o) ?_;obtain⟨da,dc,ae⟩:=k.form;subst ae;refine aO 10 ?_;refine sh rfl (AX rfl rfl) ?_;rintro _ _ _ ⟨n,rfl,rfl,rfl⟩;refine aG (by first|exact MLe.refl _|exact f|exact f.trans o) ?_;refine B3 (listed':=#[true,true,true,true,true,true,true,true,true,true,true,false]) (by kernel_rfl) (BZ (Keep.cons (t:=1) rfl (Keep.cons (t:=3) rfl (Keep.cons (t:=6) rfl (Keep.cons (t:=7) rfl (Keep.cons (t:=8) rfl (Keep.cons (t:=11) rfl (Keep.cons (t:=13) rfl (Keep.cons (t:=55) rfl Keep.nil)))))))) ?_);refine Cp (M2:=Md) (L2:=(n,cE [Value.slice none 0 0] 79)::(Rd++(a7,cE [.int .i64 C.lv,.slice ea C.xs.length ec,.int .i64 C.at_] 368)::(a8,cE [.slice (some ⟨sb,so,none⟩) (AE s q b j).length a2] 365)::(b9,cE [.int .u8 y0.key.kind,.int .u32 y0.key.id,.int .u32 y0.key.off,.int .i64 y0.ref,.slice ya yn yc] 162)::(P,cE [Value.int .i64 0] 40)::(Q,cE [Value.int .i64 0] 3)::(X,cE [Value.slice none 0 0,Value.slice none 0 0,Value.slice none 0 0,Value.slice none 0 0] 28)::(b5,cE [.int .u8 q.kind,.int .u32 q.id,.int .u32 q.off] 92)::(b3,cE [bv,.slice wa s.waits.length wc,nv,lw] 28)::[])) (λw h=>h.perm BE) (f.trans o) (by simp) ?_;exact ac (Md,da,dc,Rd,n) ⟨f.trans o,k⟩
  refine sh rfl (AX rfl rfl) ?_;rintro _ _ _ ⟨n,rfl,rfl,rfl⟩;refine aG (by first|exact MLe.refl _|exact f|exact f.trans o) ?_;refine aO 9 ?_;refine sh rfl (BV rfl rfl rfl rfl rfl (by kernel_rfl) (by have:=MF aa C.at_ (by omega) ca cc Rc (by rw[K];exact g) (DD a4) Mc (by omega);rwa[K]at this)) ?_;rintro _ Md _ ⟨o,Rd,rfl,k⟩;refine aG (f.trans o) ?_;obtain⟨da,dc,ae⟩:=k.form;subst ae;refine B3 (listed':=#[true,true,true,true,true,true,true,true,true,true,true,false]) (by kernel_rfl) (BZ (Keep.cons (t:=1) rfl (Keep.cons (t:=3) rfl (Keep.cons (t:=6) rfl (Keep.cons (t:=7) rfl (Keep.cons (t:=8) rfl (Keep.cons (t:=11) rfl (Keep.cons (t:=13) rfl (Keep.cons (t:=55) rfl Keep.nil)))))))) ?_);refine Cp (M2:=Md) (L2:=(n,cE [Value.slice none 0 0] 79)::(Rd++(a7,cE [.int .i64 C.lv,.slice ea C.xs.length ec,.int .i64 C.at_] 368)::(a8,cE [.slice (some ⟨sb,so,none⟩) (AE s q b j).length a2] 365)::(b9,cE [.int .u8 y0.key.kind,.int .u32 y0.key.id,.int .u32 y0.key.off,.int .i64 y0.ref,.slice ya yn yc] 162)::(P,cE [Value.int .i64 0] 40)::(Q,cE [Value.int .i64 0] 3)::(X,cE [Value.slice none 0 0,Value.slice none 0 0,Value.slice none 0 0,Value.slice none 0 0] 28)::(b5,cE [.int .u8 q.kind,.int .u32 q.id,.int .u32 q.off] 92)::(b3,cE [bv,.slice wa s.waits.length wc,nv,lw] 28)::[])) (λw h=>h.perm BE) (f.trans o) (by simp) ?_;exact ac (Md,da,dc,Rd,n) ⟨f.trans o,k⟩
 refine sh rfl (AX rfl rfl) ?_;rintro _ _ _ ⟨n,rfl,rfl,rfl⟩;refine aG (by first|exact MLe.refl _|exact f|exact f.trans o) ?_;refine aO 3 ?_;refine sh rfl (BV rfl rfl rfl rfl rfl (by kernel_rfl) (by have:=E2 ea ec aa Mw c3 (DD a4) (by omega);rwa[K]at this)) ?_;rintro _ Mc _ ⟨f,Rc,rfl,g⟩;refine aG f ?_;obtain⟨ca,cc,af⟩:=g.form;subst af;refine aO 9 ?_;refine sh rfl (BV rfl rfl rfl rfl rfl (by kernel_rfl) (by have:=MF aa C.at_ (by omega) ca cc Rc (by rw[K];exact g) (DD a4) Mc (by omega);rwa[K]at this)) ?_;rintro _ Md _ ⟨o,Rd,rfl,k⟩;refine aG (f.trans o) ?_;obtain⟨da,dc,ae⟩:=k.form;subst ae;refine B3 (listed':=#[true,true,true,true,true,true,true,true,true,true,true,false]) (by kernel_rfl) (BZ (Keep.cons (t:=1) rfl (Keep.cons (t:=3) rfl (Keep.cons (t:=6) rfl (Keep.cons (t:=7) rfl (Keep.cons (t:=8) rfl (Keep.cons (t:=11) rfl (Keep.cons (t:=13) rfl (Keep.cons (t:=55) rfl Keep.nil)))))))) ?_);refine Cp (M2:=Md) (L2:=(n,cE [Value.slice none 0 0] 79)::(Rd++(a7,cE [.int .i64 C.lv,.slice ea C.xs.length ec,.int .i64 C.at_] 368)::(a8,cE [.slice (some ⟨sb,so,none⟩) (AE s q b j).length a2] 365)::(b9,cE [.int .u8 y0.key.kind,.int .u32 y0.key.id,.int .u32 y0.key.off,.int .i64 y0.ref,.slice ya yn yc] 162)::(P,cE [Value.int .i64 0] 40)::(Q,cE [Value.int .i64 0] 3)::(X,cE [Value.slice none 0 0,Value.slice none 0 0,Value.slice none 0 0,Value.slice none 0 0] 28)::(b5,cE [.int .u8 q.kind,.int .u32 q.id,.int .u32 q.off] 92)::(b3,cE [bv,.slice wa s.waits.length wc,nv,lw] 28)::[])) (λw h=>h.perm BE) (f.trans o) (by simp) ?_;exact ac (Md,da,dc,Rd,n) ⟨f.trans o,k⟩
end Go.Proofs.YtjheijhahehnmaaGreatDoor
