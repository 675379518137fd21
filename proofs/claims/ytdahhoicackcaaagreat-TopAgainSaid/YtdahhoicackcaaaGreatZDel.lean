/- Walks: an item taken out. No statement of the seat is proved here. -/
import Derived.Test.YtdahhoicackcaaaGreatZHn
import Derived.Test.YtdahhoicackcaaaGreatZDway
import Derived.Test.YtdahhoicackcaaaGreatZEn
namespace Go.Proofs.YtdahhoicackcaaaGreat
open Go.Proofs.Tryz
open List (length length_append length_singleton getElem_mem mem_of_mem_take mem_of_mem_drop length_take length_drop length_map length_nil map_append map_take map_drop)
set_option linter.unusedVariables false
set_option linter.unusedSectionVars false
set_option maxRecDepth 8000
set_option maxHeartbeats 40000000
set_option linter.unusedSimpArgs false
open Go.RowKit
variable{α:Type}{ps:List α}{y:α×Nat}
theorem wNv{pre:List (α×Nat)}(h:pre++[y]<+:bw ps 0):y.2=ps.length-1-pre.length:=by
 obtain⟨r,a⟩:=h
 have c:=congrArg length a
 rw[DO,length_append,length_append,length_singleton]at c
 have e:=congrArg (λl=>l[pre.length]?) a
 simp only[bw,List.drop_zero]at e
 rw[List.append_assoc,List.getElem?_append_right (by omega),List.getElem?_reverse (by rw[List.length_zipIdx];omega)]at e
 simp only[List.length_zipIdx,Nat.sub_self]at e
 have b:some y=(ps.zipIdx)[ps.length-1-pre.length]? :=e
 rw[List.getElem?_eq_getElem (by rw[List.length_zipIdx];omega)]at b
 have:=Option.some.inj b
 rw[this];simp
variable{s:Sto}
theorem Zq{q:Ky}:∀{l:Nat}{xs:List It}{i:Nat}(h:i<(Av s q l xs).length),(Av s q l xs)[i].lv=(l:Int)-i
 |0,xs,i,h=>by
  have:i=0:=by rw[EQ]at h;omega
  subst this;rfl
 |l+1,xs,0,h=>by show ((l+1:Nat):Int)=_;omega
 |l+1,xs,i+1,h=>by
  have a:i<(Av s q l (match xs[Bz xs q]? with|some x=>kid s x|none=>[])).length:=by rw[EQ]at h ⊢;omega
  have:=Zq a
  show (Av s q l (match xs[Bz xs q]? with|some x=>kid s x|none=>[]))[i].lv=_
  rw[this];omega
theorem Sc{q:Ky}:∀{l:Nat}{xs:List It}{k:Nat},Ai s k=some ((l:Int),xs)->AV s l xs->(∃y,Bg s q l xs=some y)->∃w,(Av s q l xs).getLast? =some w/\w.at_<w.xs.length
 |0,xs,k,g,m,⟨y,f⟩=>by
  refine⟨_,rfl,?_⟩
  rw[Bg]at f
  by_cases h:Fl xs q=true
  ·exact EU h
  rw[if_neg h]at f;cases f
 |l+1,xs,k,g,m,⟨y,f⟩=>by
  have i:=FH g (by omega)
  have d:=G6 (q:=q) i
  obtain⟨j,r,_,u⟩:=BA m (getElem_mem d)
  have c:kid s xs[Bz xs q]=j:=by unfold kid;rw[r]
  have o:=(Pr f d).1
  rw[c]at o
  obtain⟨w,n,t⟩:=Sc r u ⟨y,o⟩
  refine⟨w,?_,t⟩
  rw[Av,List.getElem?_eq_getElem d]
  show (_::Av s q l (kid s xs[Bz xs q])).getLast? =_
  rw[c]
  obtain⟨a,b,e⟩:=List.exists_cons_of_ne_nil (Uj s q l j)
  rw[e]at n⊢
  rw[List.getLast?_cons_cons];exact n
def Wh(l:List It):Prop:=∀y∈l,BP y.key
theorem WW(s:Sto)(y:It):Wh (kid s y):=λx a=>by
 unfold kid at a
 split at a
 ·rename_i lv b h;exact Hk h x a
 cases a
variable{l:List It}
theorem Yy{w:Stp}(t:w.at_<w.xs.length)(hk:Wh l)(h:l≠[])(z:l.length<=5):Wh (AA s w l).1/\(AA s w l).1≠[]/\(AA s w l).1.length<=5/\((AA s w l).2.2=1\/(AA s w l).2.2=2)/\(AA s w l).2.1+(AA s w l).2.2<=w.xs.length:=by
 have g:∀j,j=(l,w.at_,1)->Wh j.1/\j.1≠[]/\j.1.length<=5/\(j.2.2=1\/j.2.2=2)/\j.2.1+j.2.2<=w.xs.length:=by
  rintro j rfl;exact⟨hk,h,z,.inl rfl,by show w.at_+1<=_;omega⟩
 cases c:nxt w with
 |none=>exact g _ (WY c)
 |some i=>
  have o:i<w.xs.length/\(i=w.at_+1\/i+1=w.at_):=by
   unfold nxt at c
   split at c
   ·split at c
    ·cases c
    cases c;omega
   cases c;omega
  have f:=Ti (s:=s) (l:=l) c o.1
  by_cases m:5<(kid s w.xs[i]).length+l.length
  ·rw [if_pos m]at f;exact g _ f
  rw[if_neg m]at f
  have d:∀{a b:List It},Wh a->Wh b->Wh (a++b):=λu r y n=>(List.mem_append.1 n).elim (u y) (r y)
  by_cases k:i<w.at_
  ·rw [if_pos k]at f
   rw[f]
   exact⟨d (WW s _) hk,λe=>h (List.append_eq_nil_iff.1 e).2,by simp only[length_append];omega,.inr rfl,by show i+2<=_;omega⟩
  rw[if_neg k]at f
  rw[f]
  exact⟨d hk (WW s _),λe=>h (List.append_eq_nil_iff.1 e).1,by simp only[length_append];omega,.inr rfl,by show w.at_+2<=_;omega⟩
theorem TP{w:Stp}(b:w.at_<w.xs.length)(hk:Wh w.xs)(c:w.xs.length<=5):Wh (Gm w)/\(Gm w).length<=5/\(Gm w).length=w.xs.length-1:=by
 unfold Gm
 refine⟨λy a=>hk y ((List.mem_append.1 a).elim mem_of_mem_take mem_of_mem_drop),?_,?_⟩<;>simp only[length_append,length_take,length_drop]<;>omega
variable{a:Int}{j:List It×Nat×Nat}
theorem ZK{w:Stp}(hk:Wh w.xs)(d:Wh j.1)(c:j.1≠[])(g:w.xs.length<=5)(f:j.2.2=1\/j.2.2=2)(hp:j.2.1+j.2.2<=w.xs.length):Wh (PK w j a)/\(PK w j a).length<=5/\(PK w j a).length=w.xs.length-j.2.2+1:=by
 unfold PK
 refine⟨λy b=>?_,?_,?_⟩
 ·rcases List.mem_append.1 b with b|b
  ·rcases List.mem_append.1 b with b|b
   ·exact hk y (mem_of_mem_take b)
   rw[List.mem_singleton.1 b]
   obtain⟨z,zs,e⟩:=List.exists_cons_of_ne_nil c
   rw[e];exact d z (by rw[e];simp)
  exact hk y (mem_of_mem_drop b)
 ·simp only[length_append,length_take,length_drop,length_singleton];omega
 simp only[length_append,length_take,length_drop,length_singleton];omega
variable{e:Int}{l0:List It}
theorem wDr:∀{ws:List Stp}(k:Nat),dn s l0 (ws.drop k)=.error e->dn s l0 ws=.error e
 |ws,0,h=>by simpa using h
 |[],k+1,h=>by simpa using h
 |w::ws,k+1,h=>by
  rw[List.drop_succ_cons]at h
  rw[dn,wDr k h]
variable{lv:Int}
theorem UE{t:Sto}{held:Int}(b:Aq s)(h:Cb s lv l held=.ok (t,a)):8<=a/\a<256:=by
 unfold Cb at h
 by_cases c:mkE s lv l=0
 ·have d:=GE c b.1.2.1
  have e:8<=mkAt (Ag s l):=H5 _ _ _
  rw[if_pos c]at h
  split at h
  ·split at h
   ·cases h;omega
   cases h
  cases h;omega
 rw[if_neg c]at h;cases h
variable{M':Mem}{root:Int}{u:Value}
theorem wNp{q:Ky}(h:FdPost s root q u M'):∃(y:It)(e:Option Addr)(g d:Nat)(a:Int),u=.tuple #[.agg #[.int .u8 y.key.kind,.int .u32 y.key.id,.int .u32 y.key.off,.int .i64 y.ref,.slice e g d],.int .i64 a]/\
  ((a≠0/\GO s root q=.error a)\/(a=0/\(fchk s root).2=0/\∃y,fnd s root q=some y)):=by
 by_cases b:(fchk s root).2=0
 ·obtain ⟨y,k,a,j,⟨e,d,rfl,_⟩,i⟩:=wDk h
  refine⟨y,e,_,d,a,j,?_⟩
  rcases i b with⟨f,c⟩|⟨f,c,_⟩
  ·exact .inr ⟨c,b,y,f⟩
  exact .inl ⟨by rw[c];decide,by rw[c];exact RC b f⟩
 unfold FdPost at h
 rw[if_neg b]at h
 exact⟨PP,none,0,0,_,h,.inl ⟨b,wDu b⟩⟩
variable{M:Mem}{xs:List Value}
theorem SM.prx{a:Option Addr}{ys:List Value}(h:SM M a (xs++ys)):SM M a xs:=by
 rcases h with h|⟨b,c,f,e⟩
 ·exact .inl (List.append_eq_nil_iff.1 h).1
 exact .inr ⟨b,c,f,λi u d=>e i u (by rw[List.getElem?_append_left (List.getElem?_eq_some_iff.1 d).1];exact d)⟩
theorem wGx(ps:List Ir)(x:Ir)(i m:Nat)(l:m=1\/m=2)(o:i+m<=ps.length)(g:Option Addr)(f:Nat)(R:Lc)(a:Own (.slice g ps.length f) R IT 5 ps.length (ps.flatMap Ac))(d:∀x∈ps,x.2.oneCell'=true)(e:Nat)(h:TypeId)(M:Mem)(c:M e=some (cE (Ac x) h))(b:x.2.oneCell'=true)(j:ps.length<=1000):
  SpecL prog 111 #[.slice g ps.length f,.int .i64 i,.int .i64 ((i+m:Nat):Int),.slice (some ⟨e,0,none⟩) 1 1] M R λu _ n=>Own u n IT 5 (ps.length-m+1) ((ps.take i++[x]++ps.drop (i+m)).flatMap Ac):=by
 rcases l with rfl|rfl
 ·exact SE ps [x] i (by omega) g f R a d e 1 [] h M (by rw[c];simp) (λz k=>by rw[List.mem_singleton.1 k];exact b) (by simp) (by simp;omega)
 have:=X2 ps x i (by omega) g f R a d e 1 [] h M (by rw[c];simp) b (by omega)
 rwa[show ps.length-1=ps.length-2+1 by omega]at this
theorem Pd(a:Option Addr)(c:Nat)(xs:List It)(ps:List Ir)(d:ps.length=xs.length)(M:Mem)(hs:SM M a (ps.flatMap Ac))(e:∀p∈ps,BS M p.2 p.1.val)(b:ps.length<=1000000):
  SpecL prog 112 #[.slice a xs.length c] M [] λv _ f=>Own v f IT 5 xs.length (ps.flatMap Ac):=by
 rw[<-d];exact EH a c ps M hs (Dl e) b
theorem headI(h:0<l.length):Bt l=l[0].key:=by
 obtain⟨x,xs,rfl⟩:=List.exists_cons_of_length_pos h;rfl
theorem wDt(s:Sto)(C:Int)(q:Ky)(bv nv lw:Value)(wa:Option Addr)(wc:Nat)(ab:List (Wt×Value))(M:Mem)(h1:LS M bv s.blocks)(bW:s.waits.length<=wc)(bT:SM M wa (ab.flatMap AT))(aC:ab.map (·.1)=s.waits)(bj:∀p∈ab,BS M p.2 p.1.2)(h3:BS M nv s.now)(h4:BS M lw s.last):
  SpecL prog 67 #[.agg #[bv,.slice wa s.waits.length wc,nv,lw],.int .i64 C,.agg (AG q).toArray] M [] λu M' L'=>PtPost (GO s C q) u M'/\L'=[]:=by
 have h2:WS M (.slice wa s.waits.length wc) s.waits:=⟨wa,wc,ab,rfl,bW,bT,aC,bj⟩
 have cH:ST M (.agg #[bv,.slice wa s.waits.length wc,nv,lw]) s:=⟨_,_,_,_,rfl,h1,h2,h3,h4⟩
 refine sB func67 ntmps67 ?_;intro W
 refine gh ?_
 refine lh (Bf (cs:=[bv,.slice wa s.waits.length wc,nv,lw]) rfl rfl rfl rfl) ?_;rintro _ _ _ ⟨b3,rfl,rfl,rfl⟩
 refine lh (Bf (cs:=[.int .u8 q.kind,.int .u32 q.id,.int .u32 q.off]) rfl rfl rfl rfl) ?_;rintro _ _ _ ⟨b5,rfl,rfl,rfl⟩
 refine Rl λX Q P=>?_
 refine N6 ?_
 refine gc (Qv s _ C q M cH) ?_;rintro _ M1 cL d8
 obtain⟨y0,ya,yn,yc,ei,rfl,aP⟩:=wNp d8
 refine gA λb9=>?_
 refine gj (λbQ=>?_) λbQ=>?_
 ·refine gh ?_
  refine jN (λ_ h=>by cases h) ?_
  refine gr ?_
  refine⟨?_,rfl⟩
  obtain⟨aQ,dB⟩|⟨aQ,_⟩:=aP
  rotate_left
  ·exact absurd aQ bQ
  rw[dB];exact⟨aQ,rfl⟩
 refine gh ?_
 obtain⟨aQ,_⟩|⟨_,c4,y1,be⟩:=aP
 ·exfalso;exact aQ (Classical.not_not.1 bQ)
 obtain⟨bc,cg,aF,eB,b,j,J,a3,_⟩:=CT c4
 obtain⟨dA,⟨dw,_⟩,⟨d0,_⟩⟩:=id bc
 have e7:s.waits.length<=4096:=dA.2.1
 have ee:=(Ar J).lev
 have dY:=EQ (s:=s) (q:=q) b j
 have aM:∃y,Bg s q b j=some y:=⟨y1,by unfold fnd at be;rw[J]at be;exact be⟩
 have ak:=Xo c4 be J
 refine gc (YU s C q bv _ nv lw b j M1 (cH.mono cL) ⟨cg,aF⟩ bc J a3 aM) ?_;rintro _ Mw cI dr
 have cJ:=cL.trans cI
 obtain⟨es,a2,Z,rfl,dZ,bi,aD,bX⟩:=id dr
 have dV:Z.length=(Av s q b j).length:=by rw[<-aD,length_map]
 simp only[List.nil_append]
 refine lh (AM rfl rfl) ?_;rintro _ _ _ ⟨a8,rfl,rfl,rfl⟩
 refine Dz rfl (Ae rfl rfl rfl rfl rfl rfl rfl rfl) ?_;rintro _ _ _ ⟨rfl,rfl⟩
 refine Am (jT (Ao (Ah ?_)))
 refine lq (AE rfl rfl rfl rfl (CJ.loc rfl)) ?_
 refine lq (AE rfl rfl rfl rfl (CJ.loc rfl)) ?_
 refine lq (KZ rfl rfl rfl) ?_
 refine lq (Bc (qA rfl rfl rfl rfl rfl (by omega)) (v':=.int .i64 (((Av s q b j).length-1:Nat):Int)) (congrArg _ (by omega))) ?_
 have cw:(Av s q b j).length-1<(Av s q b j).length:=by omega
 obtain⟨sb,so,e0,hx⟩:=bi.open (by intro e;have:=congrArg length e;rw[Aj A0 3 Dc,length_nil]at this;have h2:=congrArg length aD;rw[length_map]at h2;omega)
 cases e0
 obtain⟨ea,ec,cD,cb⟩:=HL hx aD bX cw
 obtain⟨B,bF,bZ⟩:=Sc J a3 aM
 have bk:(Av s q b j)[(Av s q b j).length-1]=B:=by rw[List.getLast?_eq_getElem?,List.getElem?_eq_getElem cw]at bF;exact Option.some.inj bF
 rw[bk]at cD cb
 have bY:B∈Av s q b j:=by rw[<-bk];exact getElem_mem _
 obtain⟨eI,eH,aa,ev,eG,c5,c6,a4⟩:=id cb
 cases ev
 obtain⟨⟨j0,bq⟩,_⟩:=FY J a3 B bY
 have ck:=Ar bq
 have bS:=ck.len
 have ct:Wh B.xs:=Hk bq
 have cr:Dt (Av s q b j)=Gm B:=by unfold Dt;rw[bF]
 obtain⟨cB,cA,bu⟩:=TP bZ ct bS
 have K:aa.length=B.xs.length:=by rw[<-c6,length_map]
 refine gh ?_
 refine lq (Bb (cs:=[.int .i64 B.lv,.slice ea B.xs.length ec,.int .i64 B.at_]) rfl rfl rfl rfl rfl (λi v hv=>(cD i v hv).cj _)) ?_
 refine ga λa7=>?_
 refine Cg ([(a7,cE [.int .i64 B.lv,.slice ea B.xs.length ec,.int .i64 B.at_] 201)]) (by kernel_rfl) (by simp) ?_
 refine gk [0,1,2,4,5,6,7] ?_
 refine GJ (i:=8) rfl (by kernel_rfl) (by kernel_rfl) rfl rfl (Bc (qA rfl rfl rfl rfl rfl (by omega)) (v':=.int .i64 ((B.at_+1:Nat):Int)) (congrArg _ (by omega))) ?_
 refine Ch (α:=Mem×Option Addr×Nat×Lc×Nat) (λy=>MLe Mw y.1/\Own (.slice y.2.1 (B.xs.length-1) y.2.2.1) y.2.2.2.1 IT 5 (B.xs.length-1) ((aa.take B.at_++aa.drop (B.at_+1)).flatMap Ac)) (λy=>[(1,.int .i64 C),(3,pB b3),(6,pB X),(7,pB Q),(8,pB P),(11,pB a8),(13,.pointer (some ⟨y.2.2.2.2,0,none⟩)),(55,.slice y.2.1 (B.xs.length-1) y.2.2.1)]) (λy=>y.1) (λy=>(y.2.2.2.2,cE [Value.slice none 0 0] 133)::(y.2.2.2.1++(a7,cE [.int .i64 B.lv,.slice ea B.xs.length ec,.int .i64 B.at_] 201)::(a8,cE [.slice (some ⟨sb,so,none⟩) (Av s q b j).length a2] 198)::(b9,cE [.int .u8 y0.key.kind,.int .u32 y0.key.id,.int .u32 y0.key.off,.int .i64 y0.ref,.slice ya yn yc] 70)::(P,cE [Value.int .i64 0] 39)::(Q,cE [Value.int .i64 0] 3)::(X,cE [Value.slice none 0 0,Value.slice none 0 0,Value.slice none 0 0,Value.slice none 0 0] 32)::(b5,cE [.int .u8 q.kind,.int .u32 q.id,.int .u32 q.off] 43)::(b3,cE [bv,.slice wa s.waits.length wc,nv,lw] 32)::[])) 1 #[true,true,true,true,true,true,true,true,true,true,true,false] ?_ (λac=>?_)
 ·rintro ⟨Mf,da,dc,Rd,n⟩ ⟨V,k⟩
  try dsimp only at V k⊢
  refine aO 11 ?_
  refine My rfl rfl (Ae rfl rfl rfl rfl rfl rfl rfl rfl) ?_;rintro _ _ _ ⟨rfl,rfl⟩
  refine aG (V) ?_
  refine D3 (by kernel_rfl) ?_
  refine wJm (jT (Ao ?_))
  refine JF k (by simp) ?_
  intro Ml e3 ez dF el cq cp
  cases el
  have a0:=V.trans dF
  have cm:NS Ml (.slice da (Gm B).length dc) (Gm B):=by
   refine⟨da,dc,(aa.take B.at_++aa.drop (B.at_+1)),rfl,by rw[bu];exact cq,cp,?_,λp O=>?_⟩
   ·rw [map_append,map_take,map_drop,c6];rfl
   exact(a4 p ((List.mem_append.1 O).elim mem_of_mem_take mem_of_mem_drop)).mono a0
  rw[<-bu]
  refine ga λE=>?_
  refine gC (K2 s bv nv lw wa wc Ml bW (by omega) (h3.mono (cJ.trans a0)) (by omega)) ?_;rintro _ Mb _ bN ⟨bb,Rn,na,nc,rfl,rfl,ch⟩
  have a1:=cJ.trans (a0.trans bN)
  have dP:BOwn Mb bb ((bb,cE [bv,.slice wa s.waits.length s.waits.length,.slice na s.now.length nc,lw] Ee)::Rn) s:=by
   refine⟨bv,_,na,nc,lw,[],Rn,rfl,h1.mono a1,h4.mono a1,ch,ab,aC,λp O=>(bj p O).mono a1,?_⟩
   have c3:(ab.flatMap AT).length=s.waits.length*2:=by rw[Aj AT 2 Bl,<-aC,length_map]
   rcases bT with h0|⟨wb,wo,rfl,aB⟩
   ·have hz:s.waits.length=0:=by rw[h0,length_nil]at c3;omega
    rw[h0,hz]
    cases wa with
    |none=>exact .inl (Own.nil _ _)
    |some ba=>exact .inr ⟨rfl,rfl,ba,rfl,.inl rfl,λi u hu=>by cases hu⟩
   exact .inr ⟨rfl,c3,_,rfl,.inr rfl,λi u hu=>(aB i u hu).mono a1⟩
  refine ga λcO=>?_
  refine Pa ?_
  refine jT (Ao (Ao ?_))
  refine B1 cO (by simp) ?_
  intro Ma dG ao
  refine B1 a8 (by simp) ?_
  intro Me b0 bg
  have aU:=dG.trans b0
  replace ao:=b0 _ _ ao
  refine BU (M':=Me) (L':=(n,cE [.slice da (Gm B).length dc] 133)::(E,cE [.int .i64 (0)] 3)::(P,cE [Value.int .i64 (0)] 39)::(Q,cE [Value.int .i64 0] 3)::(X,cE [Value.slice none 0 0,Value.slice none 0 0,Value.slice none 0 0,Value.slice none 0 0] 32)::((bb,cE [bv,.slice wa s.waits.length s.waits.length,.slice na s.now.length nc,lw] Ee)::Rn)) (λw h=>((((h.perm (L':=(a7,cE [.int .i64 B.lv,.slice ea B.xs.length ec,.int .i64 B.at_] 201)::(b9,cE [.int .u8 y0.key.kind,.int .u32 y0.key.id,.int .u32 y0.key.off,.int .i64 y0.ref,.slice ya yn yc] 70)::(b5,cE [.int .u8 q.kind,.int .u32 q.id,.int .u32 q.off] 43)::(b3,cE [bv,.slice wa s.waits.length wc,nv,lw] 32)::(n,cE [.slice da (Gm B).length dc] 133)::(E,cE [.int .i64 (0)] 3)::(P,cE [Value.int .i64 (0)] 39)::(Q,cE [Value.int .i64 0] 3)::(X,cE [Value.slice none 0 0,Value.slice none 0 0,Value.slice none 0 0,Value.slice none 0 0] 32)::((bb,cE [bv,.slice wa s.waits.length s.waits.length,.slice na s.now.length nc,lw] Ee)::Rn)) BW).tl).tl).tl).tl) ?_
  have eh:((Av s q b j).dropLast).length=b:=by rw[List.length_dropLast];omega
  have aw:(Z.take b).length=b:=by rw[length_take];omega
  have dW:(Z.take b).map (·.1)=(Av s q b j).dropLast:=by rw[map_take,aD,List.dropLast_eq_take];congr 1;omega
  refine gh ?_
  refine lq (AE rfl rfl rfl rfl (CM.cj ⟨_,_,_,bg,rfl⟩ _)) ?_
  refine lq (AE rfl rfl rfl rfl (CM.cj ⟨_,_,_,bg,rfl⟩ _)) ?_
  refine gh ?_
  refine lq (Bc (C6 rfl rfl rfl (.no _) (.of (v:=b) rfl (by omega) (by omega)) (.no _) (by omega) (by simp)) (v':=.slice (some ⟨sb,so,none⟩) b a2) (by rw[AZ];exact FR rfl (by omega) (by omega))) ?_
  refine gC (bwd _ _ _ Me) ?_;rintro _ Mg _ F ⟨dQ,rfl,cN,rfl⟩
  rw[<-aw]at cN
  simp only[List.nil_append]
  have cK:MLe Mw Mg:=a0.trans (bN.trans (aU.trans F))
  have cf:SM Mg (some ⟨sb,so,none⟩) ((Z.take b).flatMap A0):=by
   have:=bi.mono cK
   rw[<-List.take_append_drop b Z,List.flatMap_append]at this
   exact this.prx
  refine gh ?_
  refine Qj (R:=(n,cE [.slice da (Gm B).length dc] 133)::(E,cE [.int .i64 (0)] 3)::(P,cE [Value.int .i64 (0)] 39)::(Q,cE [Value.int .i64 0] 3)::(X,cE [Value.slice none 0 0,Value.slice none 0 0,Value.slice none 0 0,Value.slice none 0 0] 32)::((bb,cE [bv,.slice wa s.waits.length s.waits.length,.slice na s.now.length nc,lw] Ee)::Rn)) (xs:=bw (Z.take b) 0) (enc:=(λp:(Stp×Value)×Nat=>[.int .i64 p.2,.agg (A0 p.1).toArray])) (ps:=[64,65]) rfl (by kernel_rfl) (wEv dQ (some ⟨sb,so,none⟩) a2 (Z.take b) Mg cN cf (by omega))
   (λpre M' R=>∃t l la lc m Lb,R=(n,cE [.slice la l.length lc] 133)::(E,cE [.int .i64 (m)] 3)::(P,cE [Value.int .i64 (0)] 39)::(Q,cE [Value.int .i64 0] 3)::(X,cE [Value.slice none 0 0,Value.slice none 0 0,Value.slice none 0 0,Value.slice none 0 0] 32)::Lb/\dn s (Dt (Av s q b j)) (((Av s q b j).dropLast).drop (b-pre.length))=.ok (t,l,m)/\BOwn M' bb Lb t/\Aq t/\NS M' (.slice la l.length lc) l/\Wh l/\l.length<=5/\(m=0\/8<=m/\m<256))
   (λc pre M' R=>∃(e m:Int)(lv:Value)(Lb:Lc),c=.ret/\e≠0/\R=(n,cE [lv] 133)::(E,cE [.int .i64 (m)] 3)::(P,cE [Value.int .i64 (e)] 39)::(Q,cE [Value.int .i64 0] 3)::(X,cE [Value.slice none 0 0,Value.slice none 0 0,Value.slice none 0 0,Value.slice none 0 0] 32)::Lb/\dn s (Dt (Av s q b j)) ((Av s q b j).dropLast)=.error e)
   (λ_=>rfl) (by decide) ⟨s,Gm B,da,dc,0,((bb,cE [bv,.slice wa s.waits.length s.waits.length,.slice na s.now.length nc,lw] Ee)::Rn),rfl,(by rw[length_nil,Nat.sub_zero,List.drop_eq_nil_of_le (by omega),cr];rfl),dP.mono (aU.trans F),bc,cm.mono (bN.trans (aU.trans F)),cB,cA,.inl rfl⟩ ?_ ?_ ?_
  ·intro l2 W2 pre y M2 R2 dC aV dK aH
   obtain⟨t,l,la,lc,m,aA,rfl,bK,bO,aZ,dv,d1,dz,d7⟩:=dK
   obtain⟨dx,hy⟩:=wLu aH
   have bC:=wNv aH
   rw[aw]at dx bC
   obtain⟨⟨w,wv⟩,yi⟩:=y
   dsimp only at hy bC
   subst bC
   have co:b-1-pre.length<(Av s q b j).length:=by omega
   have bE:w=(Av s q b j)[b-1-pre.length]:=by
    have e1:w=(Z.take b)[(Z.take b).length-1-pre.length].1:=by rw[<-hy]
    rw[e1];simp only[List.getElem_take,<-aD,List.getElem_map,aw]
   have de:(w,wv)∈Z:=by rw[hy];exact mem_of_mem_take (getElem_mem _)
   have db:w∈Av s q b j:=by rw[bE];exact getElem_mem _
   have bD:=(bX _ de).mono (cK.trans aV)
   dsimp only at bD
   obtain⟨ia,ic,S,dd,eF,aK,bJ,aL⟩:=id bD
   subst dd
   obtain⟨⟨jw,ci⟩,e6,bV⟩:=FY J a3 w db
   have az:=Ar ci
   have aB:=az.len
   have dX:=az.lev
   have cu:Wh w.xs:=Hk ci
   have ed:w.lv=(pre.length:Int)+1:=by rw[bE,Zq co];omega
   have bL:=bV (by omega)
   have bR:∀x∈w.xs,8<=x.ref/\x.ref<256:=λx hx=>by have:=az.ref x hx;have:=az.up (by omega) x hx;omega
   have av:((Av s q b j).dropLast).drop (b-(pre.length+1))=w::((Av s q b j).dropLast).drop (b-pre.length):=by
    have d2:b-(pre.length+1)<((Av s q b j).dropLast).length:=by omega
    rw[List.drop_eq_getElem_cons d2]
    congr 1
    ·rw [bE,List.getElem_dropLast];congr 1;omega
    congr 1;omega
   have T:S.length=w.xs.length:=by rw[<-bJ,length_map]
   simp only[A0]
   refine ga λap=>?_
   refine jKN λW' dD=>?_
   refine gg ?_
   have bf:∀x∈((n,cE [.slice la l.length lc] 133)::(E,cE [.int .i64 (m)] 3)::(P,cE [Value.int .i64 (0)] 39)::(Q,cE [Value.int .i64 0] 3)::(X,cE [Value.slice none 0 0,Value.slice none 0 0,Value.slice none 0 0,Value.slice none 0 0] 32)::aA:Lc).map (·.1),x<W'.heap.size:=by rw[dD];exact dC
   refine gj (λcM=>?_) λcM=>?_
   ·refine gh ?_
    refine LL [0,1,2,4,5,6,7,8,103,109,110,111] [(ap,cE [.int .i64 w.lv,.slice ia w.xs.length ic,.int .i64 w.at_] 201)] ?_
    refine gh ?_
    refine dq rfl (Bc (qA rfl rfl rfl rfl rfl (by omega)) (v':=.int .i64 ((w.at_+1:Nat):Int)) (congrArg _ (by omega))) ?_
    refine dh rfl (FT rfl rfl rfl rfl rfl (by kernel_rfl) (by have:=EH ia ic S M2 aK (Dl aL) (by omega);rwa[T]at this)) ?_;rintro _ Mc _ ⟨f,Rc,rfl,g,I⟩
    refine⟨f,by simp,?_⟩
    obtain⟨ca,cc,af⟩:=g.form
    subst af
    refine dh rfl (FT rfl rfl rfl rfl rfl (by kernel_rfl) (by have:=KC S w.at_ (by omega) ca cc Rc (by rw[T];exact g) (Dl aL) Mc (by omega);rwa[T]at this)) ?_;rintro _ Md _ ⟨o,Rd,rfl,k,aI⟩
    refine⟨o,by simp,?_⟩
    obtain⟨ah,ag,ae⟩:=k.form
    subst ae
    refine Df rfl rfl (Ae rfl rfl rfl rfl rfl rfl rfl rfl) ?_;rintro _ _ _ ⟨rfl,rfl⟩
    refine⟨_,_,MLe.refl _,(by first|exact MLe.refl _|assumption|exact f.trans o|exact f.trans (hMu.trans G)),λ_ h=>h,by simp,?_⟩
    refine Df rfl rfl (Ae rfl rfl rfl rfl rfl rfl rfl rfl) ?_;rintro _ _ _ ⟨rfl,rfl⟩
    refine⟨_,_,MLe.refl _,(by first|exact MLe.refl _|assumption|exact f.trans o|exact f.trans (hMu.trans G)),λ_ h=>h,by simp,?_⟩
    refine gh ?_
    have aJ:∀p∈Rd,W'.heap.size<=p.1:=λp O=>(aI p O).elim (λh=>by obtain⟨q,hq,e⟩:=List.mem_map.1 h;rw[<-e];exact(I q hq).elim (λh=>by cases h) id) id
    refine WX k (NP bf aJ) ?_
    intro Mr cR cQ a5 er bG au;cases er
    replace au:=au.mono (EF _ _)
    refine AK (M':=Mr) (L':=(n,cE [.slice ah (w.xs.length-1) ag] 133)::(E,cE [.int .i64 (0)] 3)::(P,cE [Value.int .i64 (0)] 39)::(Q,cE [Value.int .i64 0] 3)::(X,cE [Value.slice none 0 0,Value.slice none 0 0,Value.slice none 0 0,Value.slice none 0 0] 32)::aA) (λw9 h=>(h.perm (L':=(ap,cE [.int .i64 w.lv,.slice ia w.xs.length ic,.int .i64 w.at_] 201)::(n,cE [.slice ah (w.xs.length-1) ag] 133)::(E,cE [.int .i64 (0)] 3)::(P,cE [Value.int .i64 (0)] 39)::(Q,cE [Value.int .i64 0] 3)::(X,cE [Value.slice none 0 0,Value.slice none 0 0,Value.slice none 0 0,Value.slice none 0 0] 32)::aA) BW).tl) ?_
    refine Zj ?_
    obtain⟨c9,c8,bt⟩:=TP bL cu aB
    refine⟨t,Gm w,ah,ag,0,aA,by rw[bt],?_,bO.mono (f.trans (o.trans a5)),aZ,⟨ah,ag,S.take w.at_++S.drop (w.at_+1),rfl,by rw[bt];exact bG,au,by rw[map_append,map_take,map_drop,bJ];rfl,λp O=>(aL p ((List.mem_append.1 O).elim mem_of_mem_take mem_of_mem_drop)).mono (f.trans (o.trans a5))⟩,c9,c8,.inl rfl⟩
    rw[length_append,length_singleton,av,dn,bK]
    show wFm t w l m=_
    unfold wFm;rw[if_pos (List.eq_nil_of_length_eq_zero (by omega))]
   refine gh ?_
   refine lq (AE rfl rfl rfl rfl (CM.cj ⟨_,_,_,(F.trans aV) _ _ ao,rfl⟩ _)) ?_
   refine gh ?_
   have bI:l≠[]:=λe=>cM (by rw[e];rfl)
   refine gC (Yx t w l ia ic la lc bb M2 aA bO aZ bD dv bL aB (by omega) bR) ?_;rintro _ Mj Rj am ⟨cY,cX,rfl,cn,dI⟩
   rw[dI]
   obtain⟨c0,cz,eE,cy,d6⟩:=Yy (s:=t) bL d1 bI dz
   refine ga λa6=>?_
   refine lq (AE rfl rfl rfl rfl (CM.cj ⟨_,_,_,(F.trans (aV.trans am)) _ _ ao,rfl⟩ _)) ?_
   refine lq (AE rfl rfl rfl rfl (CM.cj ⟨_,_,_,(F.trans (aV.trans am)) _ _ bg,rfl⟩ _)) ?_
   refine lq (KZ rfl rfl rfl) ?_
   refine ja rfl (by omega) ?_
   refine jp rfl ?_
   refine lq (Bc (qA rfl rfl rfl rfl rfl (by omega)) (v':=.int .i64 (pre.length:Int)) (congrArg _ (by omega))) ?_
   refine gh ?_
   refine lh (FT rfl rfl rfl rfl rfl (by kernel_rfl) (LF t (pre.length:Int) (AA t w l).1 m cY cX bb Mj aA (bO.mono am) aZ cn (λy hy=>(c0 y hy).1) d7)) ?_;rintro _ Ms _ ⟨al,Rs,rfl,aE,eb⟩
   obtain⟨Y,e,rfl,ai⟩:=aE
   refine gj (λbP=>?_) λbP=>?_
   ·refine gh ?_
    obtain⟨U,aS⟩|⟨rfl,_⟩:=ai
    rotate_left
    ·exact absurd rfl bP
    refine AK (M':=Ms) (L':=(n,cE [.slice la l.length lc] 133)::(E,cE [.int .i64 (m)] 3)::(P,cE [Value.int .i64 (e)] 39)::(Q,cE [Value.int .i64 0] 3)::(X,cE [Value.slice none 0 0,Value.slice none 0 0,Value.slice none 0 0,Value.slice none 0 0] 32)::Rs) (λw9 h=>((h.perm (L':=(a6,cE [.int .i64 ((AA t w l).2.1:Int),.int .i64 ((AA t w l).2.2:Int)] 207)::(ap,cE [.int .i64 w.lv,.slice ia w.xs.length ic,.int .i64 w.at_] 201)::(n,cE [.slice la l.length lc] 133)::(E,cE [.int .i64 (m)] 3)::(P,cE [Value.int .i64 (e)] 39)::(Q,cE [Value.int .i64 0] 3)::(X,cE [Value.slice none 0 0,Value.slice none 0 0,Value.slice none 0 0,Value.slice none 0 0] 32)::Rs) BW).tl).tl) ?_
    refine jQr ?_
    refine⟨e,m,_,Rs,rfl,U,rfl,?_⟩
    refine wDr (b-(pre.length+1)) ?_
    rw[av,dn,bK]
    show wFm t w l m=_
    unfold wFm;rw[if_neg bI,show w.lv-1=(pre.length:Int)by omega,aS]
   refine gh ?_
   obtain⟨U,_⟩|⟨rfl,t9,ay,di,dL⟩:=ai
   ·exact absurd (Classical.not_not.1 bP) U
   have du:=UE aZ ay
   refine gh ?_
   obtain⟨_,_,e4,ej,eD,d4,cx,d5⟩:=id (cn.mono al)
   cases ej
   have c1:0<(AA t w l).1.length:=List.length_pos_iff.2 cz
   obtain⟨jb,jo,e0,d3⟩:=d4.open (by intro e;have:=congrArg length e;rw[Aj Ac 5 Ad,length_nil]at this;have h2:=congrArg length cx;rw[length_map]at h2;omega)
   cases e0
   obtain⟨va,vc,cC,eA,e8⟩:=Au d3 cx d5 c1
   refine gh ?_
   refine lq (Bb (cs:=AG (AA t w l).1[0].key) rfl rfl rfl rfl rfl (λi v hv=>(cC i v (MO hv)).cj _)) ?_
   refine jp rfl ?_
   refine lq (Bc (Bk (cs:=[_,_,_,_,_]) rfl rfl rfl (by rfl)) (v':=.agg #[.int .u8 (Bt (AA t w l).1).kind,.int .u32 (Bt (AA t w l).1).id,.int .u32 (Bt (AA t w l).1).off,.int .i64 Y,.slice none 0 0]) (by rw[headI c1];rfl)) ?_
   refine ga λaY=>?_
   have ad:=λp O=>(aL p O).mono (am.trans al)
   refine Cg ([(ap,cE [.int .i64 w.lv,.slice ia w.xs.length ic,.int .i64 w.at_] 201),(a6,cE [.int .i64 ((AA t w l).2.1:Int),.int .i64 ((AA t w l).2.2:Int)] 207),(aY,cE [.int .u8 (Bt (AA t w l).1).kind,.int .u32 (Bt (AA t w l).1).id,.int .u32 (Bt (AA t w l).1).off,.int .i64 Y,.slice none 0 0] 70)]) (by kernel_rfl) (by simp) ?_
   refine gk [0,1,2,4,5,6,7,8,9] ?_
   refine GJ (i:=10) rfl (by kernel_rfl) (by kernel_rfl) rfl rfl (Bc (qA rfl rfl rfl rfl rfl (by omega)) (v':=.int .i64 (((AA t w l).2.1+(AA t w l).2.2:Nat):Int)) (congrArg _ (by omega))) ?_
   refine gk [11,14] ?_
   refine Ch (α:=Mem×Option Addr×Nat×Lc×Nat) (λy=>MLe Ms y.1/\Own (.slice y.2.1 w.xs.length y.2.2.1) y.2.2.2.1 IT 5 w.xs.length (S.flatMap Ac)/\(∀p∈y.2.2.2.1,p.1∈([]:Lc).map (·.1)\/W'.heap.size<=p.1)/\y.1 y.2.2.2.2=some (cE [.int .u8 (Bt (AA t w l).1).kind,.int .u32 (Bt (AA t w l).1).id,.int .u32 (Bt (AA t w l).1).off,.int .i64 Y,.slice none 0 0] IT)) (λy=>[(13,pB n),(14,pB E),(20,.int .i64 Y),(111,.slice y.2.1 w.xs.length y.2.2.1),(113,.int .i64 ((AA t w l).2.1:Int)),(118,.int .i64 (((AA t w l).2.1+(AA t w l).2.2:Nat):Int)),(120,.slice (some ⟨y.2.2.2.2,0,none⟩) 1 1),(122,.int .i64 Y)]) (λy=>y.1) (λy=>y.2.2.2.1++(aY,cE [.int .u8 (Bt (AA t w l).1).kind,.int .u32 (Bt (AA t w l).1).id,.int .u32 (Bt (AA t w l).1).off,.int .i64 Y,.slice none 0 0] 70)::(a6,cE [.int .i64 ((AA t w l).2.1:Int),.int .i64 ((AA t w l).2.2:Int)] 207)::(ap,cE [.int .i64 w.lv,.slice ia w.xs.length ic,.int .i64 w.at_] 201)::(n,cE [.slice la l.length lc] 133)::(E,cE [.int .i64 (m)] 3)::(P,cE [Value.int .i64 (0)] 39)::(Q,cE [Value.int .i64 0] 3)::(X,cE [Value.slice none 0 0,Value.slice none 0 0,Value.slice none 0 0,Value.slice none 0 0] 32)::Rs) 3 #[true,true,true,true,true,true,true,true,true,true,true,true,true,false,true,false,false] ?_ (λac=>?_)
   ·rintro ⟨Mf,ca,cc,Rc,aq⟩ ⟨V,g,I,N⟩
    try dsimp only at V g I N⊢
    refine aO 13 ?_
    refine sh rfl (FT rfl rfl rfl rfl rfl (by kernel_rfl) (by have:=wGx S (⟨Bt (AA t w l).1,Y,[]⟩,.slice none 0 0) (AA t w l).2.1 (AA t w l).2.2 cy (by omega) ca cc Rc (by rw[T];exact g) (Dl aL) aq _ Mf N rfl (by omega);rwa[T]at this)) ?_;rintro _ Mp _ ⟨G,Rd,rfl,k,aI⟩
    refine aG (V.trans G) ?_
    obtain⟨ah,ag,ae⟩:=k.form
    subst ae
    refine aO 15 ?_
    refine My rfl rfl (Ae rfl rfl rfl rfl rfl rfl rfl rfl) ?_;rintro _ _ _ ⟨rfl,rfl⟩
    refine aG (V.trans G) ?_
    refine aO 16 ?_
    refine My rfl rfl (Ae rfl rfl rfl rfl rfl rfl rfl rfl) ?_;rintro _ _ _ ⟨rfl,rfl⟩
    refine aG (V.trans G) ?_
    refine D3 (by kernel_rfl) ?_
    refine gh ?_
    have aJ:∀p∈Rd,W'.heap.size<=p.1:=λp O=>(aI p O).elim (λh=>by obtain⟨q,hq,e⟩:=List.mem_map.1 h;rw[<-e];exact(I q hq).elim (λh=>by cases h) id) id
    refine WX k (NP bf aJ) ?_
    intro Mr cR cQ a5 er bG au;cases er
    replace au:=au.mono (EF _ _)
    refine AK (M':=Mr) (L':=(n,cE [.slice ah (w.xs.length-(AA t w l).2.2+1) ag] 133)::(E,cE [.int .i64 (Y)] 3)::(P,cE [Value.int .i64 (0)] 39)::(Q,cE [Value.int .i64 0] 3)::(X,cE [Value.slice none 0 0,Value.slice none 0 0,Value.slice none 0 0,Value.slice none 0 0] 32)::Rs) (λw9 h=>(((h.perm (L':=(aY,cE [.int .u8 (Bt (AA t w l).1).kind,.int .u32 (Bt (AA t w l).1).id,.int .u32 (Bt (AA t w l).1).off,.int .i64 Y,.slice none 0 0] 70)::(a6,cE [.int .i64 ((AA t w l).2.1:Int),.int .i64 ((AA t w l).2.2:Int)] 207)::(ap,cE [.int .i64 w.lv,.slice ia w.xs.length ic,.int .i64 w.at_] 201)::(n,cE [.slice ah (w.xs.length-(AA t w l).2.2+1) ag] 133)::(E,cE [.int .i64 (Y)] 3)::(P,cE [Value.int .i64 (0)] 39)::(Q,cE [Value.int .i64 0] 3)::(X,cE [Value.slice none 0 0,Value.slice none 0 0,Value.slice none 0 0,Value.slice none 0 0] 32)::Rs) BW).tl).tl).tl) ?_
    refine Zj ?_
    obtain⟨ce,cd,bo⟩:=ZK (a:=Y) cu c0 cz aB cy d6
    refine⟨t9,PK w (AA t w l) Y,ah,ag,Y,Rs,by rw[bo],?_,dL.mono (V.trans (G.trans a5)),di,⟨ah,ag,S.take (AA t w l).2.1++[(⟨Bt (AA t w l).1,Y,[]⟩,.slice none 0 0)]++S.drop ((AA t w l).2.1+(AA t w l).2.2),rfl,by rw[bo];exact bG,au,by rw[map_append,map_append,map_take,map_drop,bJ];rfl,λp O=>?_⟩,ce,cd,.inr du⟩
    ·rw [length_append,length_singleton,av,dn,bK]
     show wFm t w l m=_
     unfold wFm;rw[if_neg bI,show w.lv-1=(pre.length:Int)by omega,ay]
    rcases List.mem_append.1 O with O|O
    ·rcases List.mem_append.1 O with O|O
     ·exact (ad p (mem_of_mem_take O)).mono (V.trans (G.trans a5))
     rw[List.mem_singleton.1 O];exact BS.nil
    exact(ad p (mem_of_mem_drop O)).mono (V.trans (G.trans a5))
   refine AR [3,12] (by kernel_rfl) rfl ⟨?_,?_,trivial⟩
   ·refine sh rfl (FT rfl rfl rfl rfl rfl (by kernel_rfl) (Pd ia ic w.xs S T _ (by first|exact aK.mono (am.trans al)|exact aK.mono (am.trans (al.trans r))) (by first|exact ad|exact λp O=>(ad p O).mono r) (by omega))) ?_;rintro _ M3 _ ⟨D,Rc,rfl,g,I⟩
    refine aG (D) ?_
    obtain⟨ca,cc,af⟩:=g.form
    subst af
    refine aO 12 ?_
    refine sh rfl (Jf bf rfl rfl rfl (by rfl) (by rfl) (by rfl)) ?_;rintro _ dT _ ⟨aq,rfl,rfl,r,N⟩
    refine aG ((D).trans r) ?_
    refine Cr (listed':=#[true,true,true,true,true,true,true,true,true,true,true,true,true,false,true,false,false]) (by kernel_rfl) (Cq (Keep.cons (t:=13) rfl (Keep.cons (t:=14) rfl (Keep.cons (t:=20) rfl (Keep.cons (t:=111) rfl (Keep.cons (t:=113) rfl (Keep.cons (t:=118) rfl (Keep.cons (t:=120) rfl (Keep.cons (t:=122) rfl Keep.nil)))))))) ?_)
    refine D2 (M2:=_) (L2:=Rc++(aY,cE [.int .u8 (Bt (AA t w l).1).kind,.int .u32 (Bt (AA t w l).1).id,.int .u32 (Bt (AA t w l).1).off,.int .i64 Y,.slice none 0 0] 70)::(a6,cE [.int .i64 ((AA t w l).2.1:Int),.int .i64 ((AA t w l).2.2:Int)] 207)::(ap,cE [.int .i64 w.lv,.slice ia w.xs.length ic,.int .i64 w.at_] 201)::(n,cE [.slice la l.length lc] 133)::(E,cE [.int .i64 (m)] 3)::(P,cE [Value.int .i64 (0)] 39)::(Q,cE [Value.int .i64 0] 3)::(X,cE [Value.slice none 0 0,Value.slice none 0 0,Value.slice none 0 0,Value.slice none 0 0] 32)::Rs) (λw h=>h.perm BW) (by first|exact D.trans r|exact r.trans D) (by simp) ?_
    exact ac (_,ca,cc,Rc,aq) ⟨by first|exact D.trans r|exact r.trans D,g,I,by first|exact N|exact D _ _ N⟩
   refine sh rfl (Jf bf rfl rfl rfl (by rfl) (by rfl) (by rfl)) ?_;rintro _ dT _ ⟨aq,rfl,rfl,r,N⟩
   refine aG (r) ?_
   refine aO 3 ?_
   refine sh rfl (FT rfl rfl rfl rfl rfl (by kernel_rfl) (Pd ia ic w.xs S T _ (by first|exact aK.mono (am.trans al)|exact aK.mono (am.trans (al.trans r))) (by first|exact ad|exact λp O=>(ad p O).mono r) (by omega))) ?_;rintro _ M3 _ ⟨D,Rc,rfl,g,I⟩
   refine aG ((r).trans D) ?_
   obtain⟨ca,cc,af⟩:=g.form
   subst af
   refine Cr (listed':=#[true,true,true,true,true,true,true,true,true,true,true,true,true,false,true,false,false]) (by kernel_rfl) (Cq (Keep.cons (t:=13) rfl (Keep.cons (t:=14) rfl (Keep.cons (t:=20) rfl (Keep.cons (t:=111) rfl (Keep.cons (t:=113) rfl (Keep.cons (t:=118) rfl (Keep.cons (t:=120) rfl (Keep.cons (t:=122) rfl Keep.nil)))))))) ?_)
   refine D2 (M2:=_) (L2:=Rc++(aY,cE [.int .u8 (Bt (AA t w l).1).kind,.int .u32 (Bt (AA t w l).1).id,.int .u32 (Bt (AA t w l).1).off,.int .i64 Y,.slice none 0 0] 70)::(a6,cE [.int .i64 ((AA t w l).2.1:Int),.int .i64 ((AA t w l).2.2:Int)] 207)::(ap,cE [.int .i64 w.lv,.slice ia w.xs.length ic,.int .i64 w.at_] 201)::(n,cE [.slice la l.length lc] 133)::(E,cE [.int .i64 (m)] 3)::(P,cE [Value.int .i64 (0)] 39)::(Q,cE [Value.int .i64 0] 3)::(X,cE [Value.slice none 0 0,Value.slice none 0 0,Value.slice none 0 0,Value.slice none 0 0] 32)::Rs) (λw h=>h.perm BW) (by first|exact D.trans r|exact r.trans D) (by simp) ?_
   exact ac (_,ca,cc,Rc,aq) ⟨by first|exact D.trans r|exact r.trans D,g,I,by first|exact N|exact D _ _ N⟩
  ·intro d M3 R3 D dJ
   obtain⟨t3,l3,bA,b4,H,bh,rfl,aj,dO,dm,cl,cv,ef,c2⟩:=dJ
   rw[DO,aw,Nat.sub_self,List.drop_zero]at aj
   refine AK (M':=M3) (L':=(d,.deferred (some []))::(n,cE [.slice bA l3.length b4] 133)::(E,cE [.int .i64 (H)] 3)::(P,cE [Value.int .i64 (0)] 39)::(Q,cE [Value.int .i64 0] 3)::(X,cE [Value.slice none 0 0,Value.slice none 0 0,Value.slice none 0 0,Value.slice none 0 0] 32)::bh) (λw9 h=>by rw[List.append_nil]at h;exact h) ?_
   refine gh ?_
   refine lq (AE rfl rfl rfl rfl (CM.cj ⟨_,_,_,(F.trans D) _ _ bg,rfl⟩ _)) ?_
   refine lq (KZ rfl rfl rfl) ?_
   refine ja rfl (by omega) ?_
   refine jp rfl ?_
   refine Am (jT ?_)
   refine Du (α:=Int) (λz=>[(1,.int .i64 C),(6,pB X),(7,pB Q),(8,pB P),(13,pB n),(14,pB E),(15,pB cO),(23,.int .i64 z)]) (λ_=>M3) (λ_=>(d,.deferred (some []))::(n,cE [.slice bA l3.length b4] 133)::(E,cE [.int .i64 (H)] 3)::(P,cE [Value.int .i64 (0)] 39)::(Q,cE [Value.int .i64 0] 3)::(X,cE [Value.slice none 0 0,Value.slice none 0 0,Value.slice none 0 0,Value.slice none 0 0] 32)::bh) (λz=>z=if l3=[]then 0 else ((Av s q b j).length:Int)-1) ?_ ?_
   ·rintro z hz
    try dsimp only at hz⊢
    refine gh ?_
    refine lq (AE rfl rfl rfl rfl (CM.cj ⟨_,_,_,(F.trans D) _ _ ao,rfl⟩ _)) ?_
    refine gC (LF t3 z l3 H bA b4 bb M3 bh dO dm cl (λy hy=>(cv y hy).1) c2) ?_;rintro _ Mt Rs bM aE
    obtain⟨Y,e,rfl,ai⟩:=aE
    refine gj (λaX=>?_) λaX=>?_
    ·refine gh ?_
     refine Hr [4] [4] [0,1,102,103,104] _ ([(P,cE [Value.int .i64 e] 39)]) ([]) ?_
     refine dq rfl (Bk (cs:=[_,_,_,_]) rfl rfl rfl (by rfl)) ?_
     refine dq rfl (AE rfl rfl rfl rfl (CJ.loc rfl)) ?_
     refine Df rfl rfl (Ae rfl rfl rfl rfl rfl rfl rfl rfl) ?_;rintro _ _ _ ⟨rfl,rfl⟩
     refine⟨_,_,MLe.refl _,(by first|exact MLe.refl _|assumption|exact f.trans o|exact f.trans (hMu.trans G)),λ_ h=>h,by simp,?_⟩
     refine Df rfl rfl (Ae rfl rfl rfl rfl rfl rfl rfl rfl) ?_;rintro _ _ _ ⟨rfl,rfl⟩
     refine⟨_,_,MLe.refl _,(by first|exact MLe.refl _|assumption|exact f.trans o|exact f.trans (hMu.trans G)),λ_ h=>h,by simp,?_⟩
     refine gh ?_
     refine jN (λ_ h=>by cases h) ?_
     refine Bi (L2:=_) Rm.perm ?_
     refine gr ?_
     refine⟨?_,rfl⟩
     obtain⟨U,aS⟩|⟨rfl,_⟩:=ai
     rotate_left
     ·exact absurd rfl aX
     rw[ak];unfold Jh;rw[aj];show PtPost (HD C (Lq (Cb t3 (if l3=[]then 0 else ((Av s q b j).length:Int)-1) l3 H))) _ _;rw[<-hz,aS];exact⟨U,rfl⟩
    refine gh ?_
    obtain⟨U,_⟩|⟨rfl,t4,ay,dl,dN⟩:=ai
    ·exact absurd (Classical.not_not.1 aX) U
    have aN:HC (((Av s q b j).length:Int)-1) (dn s (Dt (Av s q b j)) ((Av s q b j).dropLast))=.ok (t4,Y):=by rw[aj];show Cb t3 (if l3=[]then 0 else ((Av s q b j).length:Int)-1) l3 H=_;rw[<-hz];exact ay
    obtain⟨y2,cZ⟩:=aM
    obtain⟨L9,l9,ax⟩:∃L9 l9,TopOk s t4 q b j C.toNat Y L9 l9:=by
     have aT:=Lp cZ
     rcases Wn (q:=q) bc J (Jn a3) (E6 a3) ⟨y2,aT.1,aT.2⟩with⟨e,k1,_⟩|⟨u,a,L,l,k1,k2⟩
     ·rw [aN]at k1;cases k1
     rw[aN]at k1;cases k1;exact⟨L,l,k2⟩
    refine gh ?_
    refine lq (AE rfl rfl rfl rfl (CM.cj ⟨_,_,_,(F.trans (D.trans bM)) _ _ ao,rfl⟩ _)) ?_
    refine gC (Vf t4 Y L9 7 l9 bb Mt Rs dN dl ax.rng ax.nd (wBi ax.shp) (by have:=ax.le;omega)) ?_;rintro _ dS dR bx aE
    obtain⟨r5,e5,rfl,bm⟩:=aE
    refine gj (λaW=>?_) λaW=>?_
    ·refine gh ?_
     refine Hr [4] [4] [0,1,102,103,104] _ ([(P,cE [Value.int .i64 e5] 39)]) ([]) ?_
     refine dq rfl (Bk (cs:=[_,_,_,_]) rfl rfl rfl (by rfl)) ?_
     refine dq rfl (AE rfl rfl rfl rfl (CJ.loc rfl)) ?_
     refine Df rfl rfl (Ae rfl rfl rfl rfl rfl rfl rfl rfl) ?_;rintro _ _ _ ⟨rfl,rfl⟩
     refine⟨_,_,MLe.refl _,(by first|exact MLe.refl _|assumption|exact f.trans o|exact f.trans (hMu.trans G)),λ_ h=>h,by simp,?_⟩
     refine Df rfl rfl (Ae rfl rfl rfl rfl rfl rfl rfl rfl) ?_;rintro _ _ _ ⟨rfl,rfl⟩
     refine⟨_,_,MLe.refl _,(by first|exact MLe.refl _|assumption|exact f.trans o|exact f.trans (hMu.trans G)),λ_ h=>h,by simp,?_⟩
     refine gh ?_
     refine jN (λ_ h=>by cases h) ?_
     refine Bi (L2:=_) Rm.perm ?_
     refine gr ?_
     refine⟨?_,rfl⟩
     obtain⟨U,aS⟩|⟨rfl,_⟩:=bm
     rotate_left
     ·exact absurd rfl aW
     rw[ak];unfold Jh;rw[aN];show PtPost (HD C (Ds 7 t4 Y)) _ _;rw[aS];exact⟨U,rfl⟩
    refine gh ?_
    obtain⟨U,_⟩|⟨rfl,t5,bs,dj,dM⟩:=bm
    ·exact absurd (Classical.not_not.1 aW) U
    refine gh ?_
    refine lq (AE rfl rfl rfl rfl (CM.cj ⟨_,_,_,(F.trans (D.trans (bM.trans bx))) _ _ ao,rfl⟩ _)) ?_
    refine gC (GG t5 C ⟨cg,aF⟩ dj bb dS dR dM) ?_;rintro _ Mv Rv dE dy
    obtain⟨e,rfl,br⟩:=LvPost.form dy
    refine gj (λb1=>?_) λb1=>?_
    ·refine gh ?_
     refine jN (λ_ h=>by cases h) ?_
     refine Bi (L2:=_) Rm.perm ?_
     refine gr ?_
     refine⟨?_,rfl⟩
     obtain⟨rfl,bH⟩|⟨rfl,_⟩:=br
     rotate_left
     ·exact absurd rfl b1
     rw[ak];unfold Jh;rw[aN];show PtPost (HD C (Ds 7 t4 Y)) _ _;rw[bs];show PtPost (match leave t5 C with|none=>.error 8|some u=>.ok (u,r5)) _ _;rw[bH];exact⟨by decide,rfl⟩
    refine gh ?_
    obtain⟨_,_⟩|⟨_,tv,bH,bp,cG⟩:=br
    ·exfalso;omega
    obtain⟨c7,⟨co,_⟩,⟨eC,_⟩⟩:=id bp
    refine Tm (s:=tv) cG (by simp) ?_
    intro M9 cW cS cU cV dH e9 k1 k2 k3 k4
    refine LL [0,2,101,103,104,105] [(Q,cE [Value.int .i64 r5] 3)] ?_
    refine dq rfl (AE rfl rfl rfl rfl (CM.cj ⟨_,_,_,(F.trans (D.trans (bM.trans (bx.trans (dE.trans dH))))) _ _ ao,rfl⟩ _)) ?_
    refine gh ?_
    refine dh rfl (hC (DP tv bb cW cS cU cV M9 e9 k1 k2 k3 k4 c7 (by omega) (by omega))) ?_;rintro _ Ms _ ⟨al,_,rfl,⟨bl,rfl⟩⟩
    refine⟨al,by simp,?_⟩
    obtain⟨q1,q2,q3,q4,rfl,f1,f2,f3,f4⟩:=bl.ex
    obtain⟨eK,eJ,ek,rfl,_⟩:=id f1
    obtain⟨eo,em,dU,rfl,_⟩:=id f2
    obtain⟨eu,et,rfl,_⟩:=id f3
    obtain⟨e2,ey,rfl,_⟩:=id f4
    refine Df rfl rfl (Ae rfl rfl rfl rfl rfl rfl rfl rfl) ?_;rintro _ _ _ ⟨rfl,rfl⟩
    refine⟨_,_,MLe.refl _,(by first|exact MLe.refl _|assumption|exact f.trans o|exact f.trans (hMu.trans G)),λ_ h=>h,by simp,?_⟩
    refine Df rfl rfl (Ae rfl rfl rfl rfl rfl rfl rfl rfl) ?_;rintro _ _ _ ⟨rfl,rfl⟩
    refine⟨_,_,MLe.refl _,(by first|exact MLe.refl _|assumption|exact f.trans o|exact f.trans (hMu.trans G)),λ_ h=>h,by simp,?_⟩
    refine Df rfl rfl (Ae rfl rfl rfl rfl rfl rfl rfl rfl) ?_;rintro _ _ _ ⟨rfl,rfl⟩
    refine⟨_,_,MLe.refl _,(by first|exact MLe.refl _|assumption|exact f.trans o|exact f.trans (hMu.trans G)),λ_ h=>h,by simp,?_⟩
    refine gh ?_
    refine jN (λ_ h=>by cases h) ?_
    refine Bi (L2:=_) Rm.perm ?_
    refine gr ?_
    refine⟨?_,rfl⟩
    rw[ak];unfold Jh;rw[aN];show PtPost (HD C (Ds 7 t4 Y)) _ _;rw[bs];show PtPost (match leave t5 C with|none=>.error 8|some u=>.ok (u,r5)) _ _;rw[bH]
    exact⟨_,rfl,bl,bp⟩
   refine gj (λb2=>?_) λb2=>?_
   ·refine gh ?_
    exact AS 0 (Keep.cons (t:=1) rfl (Keep.cons (t:=6) rfl (Keep.cons (t:=7) rfl (Keep.cons (t:=8) rfl (Keep.cons (t:=13) rfl (Keep.cons (t:=14) rfl (Keep.cons (t:=15) rfl (Keep.cons (t:=23) rfl Keep.nil)))))))) (by show 0=if l3=[]then 0 else _;rw[if_pos (List.eq_nil_of_length_eq_zero (by omega))]) (λw h=>h)
   refine gh ?_
   exact AS (((Av s q b j).length:Int)-1) (Keep.cons (t:=1) rfl (Keep.cons (t:=6) rfl (Keep.cons (t:=7) rfl (Keep.cons (t:=8) rfl (Keep.cons (t:=13) rfl (Keep.cons (t:=14) rfl (Keep.cons (t:=15) rfl (Keep.cons (t:=23) rfl Keep.nil)))))))) (by show _=if l3=[]then 0 else _;rw[if_neg (λe=>b2 (by rw[e];rfl))]) (λw h=>h)
  intro d c pre M2 R2 aV aH hI
  obtain⟨e,H,ew,bh,rfl,d9,rfl,aj⟩:=hI
  refine gh ?_
  refine jN (λ_ h=>by cases h) ?_
  refine Bi (L2:=_) Rm.perm ?_
  refine gr ?_
  refine⟨?_,rfl⟩
  rw[ak];unfold Jh;rw[aj];exact⟨d9,rfl⟩
 refine AR [3,10] (by kernel_rfl) rfl ⟨?_,?_,trivial⟩
 ·refine sh rfl (Bu rfl rfl rfl rfl rfl (by kernel_rfl) (by have:=EH ea ec aa Mw c5 (Dl a4) (by omega);rwa[K]at this)) ?_;rintro _ Mc _ ⟨f,Rc,rfl,g⟩
  refine aG f ?_
  obtain⟨ca,cc,af⟩:=g.form
  subst af
  refine AR [9,10] (by kernel_rfl) rfl ⟨?_,?_,trivial⟩
  ·refine sh rfl (Bu rfl rfl rfl rfl rfl (by kernel_rfl) (by have:=KC aa B.at_ (by omega) ca cc Rc (by rw[K];exact g) (Dl a4) Mc (by omega);rwa[K]at this)) ?_;rintro _ Md _ ⟨o,Rd,rfl,k⟩
   refine aG (f.trans o) ?_
   obtain⟨da,dc,ae⟩:=k.form
   subst ae
   refine aO 10 ?_
   refine sh rfl (AM rfl rfl) ?_;rintro _ _ _ ⟨n,rfl,rfl,rfl⟩
   refine aG (by first|exact MLe.refl _|exact f|exact f.trans o) ?_
   refine Cr (listed':=#[true,true,true,true,true,true,true,true,true,true,true,false]) (by kernel_rfl) (Cq (Keep.cons (t:=1) rfl (Keep.cons (t:=3) rfl (Keep.cons (t:=6) rfl (Keep.cons (t:=7) rfl (Keep.cons (t:=8) rfl (Keep.cons (t:=11) rfl (Keep.cons (t:=13) rfl (Keep.cons (t:=55) rfl Keep.nil)))))))) ?_)
   refine D2 (M2:=Md) (L2:=(n,cE [Value.slice none 0 0] 133)::(Rd++(a7,cE [.int .i64 B.lv,.slice ea B.xs.length ec,.int .i64 B.at_] 201)::(a8,cE [.slice (some ⟨sb,so,none⟩) (Av s q b j).length a2] 198)::(b9,cE [.int .u8 y0.key.kind,.int .u32 y0.key.id,.int .u32 y0.key.off,.int .i64 y0.ref,.slice ya yn yc] 70)::(P,cE [Value.int .i64 0] 39)::(Q,cE [Value.int .i64 0] 3)::(X,cE [Value.slice none 0 0,Value.slice none 0 0,Value.slice none 0 0,Value.slice none 0 0] 32)::(b5,cE [.int .u8 q.kind,.int .u32 q.id,.int .u32 q.off] 43)::(b3,cE [bv,.slice wa s.waits.length wc,nv,lw] 32)::[])) (λw h=>h.perm BW) (f.trans o) (by simp) ?_
   exact ac (Md,da,dc,Rd,n) ⟨f.trans o,k⟩
  refine sh rfl (AM rfl rfl) ?_;rintro _ _ _ ⟨n,rfl,rfl,rfl⟩
  refine aG (by first|exact MLe.refl _|exact f|exact f.trans o) ?_
  refine aO 9 ?_
  refine sh rfl (Bu rfl rfl rfl rfl rfl (by kernel_rfl) (by have:=KC aa B.at_ (by omega) ca cc Rc (by rw[K];exact g) (Dl a4) Mc (by omega);rwa[K]at this)) ?_;rintro _ Md _ ⟨o,Rd,rfl,k⟩
  refine aG (f.trans o) ?_
  obtain⟨da,dc,ae⟩:=k.form
  subst ae
  refine Cr (listed':=#[true,true,true,true,true,true,true,true,true,true,true,false]) (by kernel_rfl) (Cq (Keep.cons (t:=1) rfl (Keep.cons (t:=3) rfl (Keep.cons (t:=6) rfl (Keep.cons (t:=7) rfl (Keep.cons (t:=8) rfl (Keep.cons (t:=11) rfl (Keep.cons (t:=13) rfl (Keep.cons (t:=55) rfl Keep.nil)))))))) ?_)
  refine D2 (M2:=Md) (L2:=(n,cE [Value.slice none 0 0] 133)::(Rd++(a7,cE [.int .i64 B.lv,.slice ea B.xs.length ec,.int .i64 B.at_] 201)::(a8,cE [.slice (some ⟨sb,so,none⟩) (Av s q b j).length a2] 198)::(b9,cE [.int .u8 y0.key.kind,.int .u32 y0.key.id,.int .u32 y0.key.off,.int .i64 y0.ref,.slice ya yn yc] 70)::(P,cE [Value.int .i64 0] 39)::(Q,cE [Value.int .i64 0] 3)::(X,cE [Value.slice none 0 0,Value.slice none 0 0,Value.slice none 0 0,Value.slice none 0 0] 32)::(b5,cE [.int .u8 q.kind,.int .u32 q.id,.int .u32 q.off] 43)::(b3,cE [bv,.slice wa s.waits.length wc,nv,lw] 32)::[])) (λw h=>h.perm BW) (f.trans o) (by simp) ?_
  exact ac (Md,da,dc,Rd,n) ⟨f.trans o,k⟩
 refine sh rfl (AM rfl rfl) ?_;rintro _ _ _ ⟨n,rfl,rfl,rfl⟩
 refine aG (by first|exact MLe.refl _|exact f|exact f.trans o) ?_
 refine aO 3 ?_
 refine sh rfl (Bu rfl rfl rfl rfl rfl (by kernel_rfl) (by have:=EH ea ec aa Mw c5 (Dl a4) (by omega);rwa[K]at this)) ?_;rintro _ Mc _ ⟨f,Rc,rfl,g⟩
 refine aG f ?_
 obtain⟨ca,cc,af⟩:=g.form
 subst af
 refine aO 9 ?_
 refine sh rfl (Bu rfl rfl rfl rfl rfl (by kernel_rfl) (by have:=KC aa B.at_ (by omega) ca cc Rc (by rw[K];exact g) (Dl a4) Mc (by omega);rwa[K]at this)) ?_;rintro _ Md _ ⟨o,Rd,rfl,k⟩
 refine aG (f.trans o) ?_
 obtain⟨da,dc,ae⟩:=k.form
 subst ae
 refine Cr (listed':=#[true,true,true,true,true,true,true,true,true,true,true,false]) (by kernel_rfl) (Cq (Keep.cons (t:=1) rfl (Keep.cons (t:=3) rfl (Keep.cons (t:=6) rfl (Keep.cons (t:=7) rfl (Keep.cons (t:=8) rfl (Keep.cons (t:=11) rfl (Keep.cons (t:=13) rfl (Keep.cons (t:=55) rfl Keep.nil)))))))) ?_)
 refine D2 (M2:=Md) (L2:=(n,cE [Value.slice none 0 0] 133)::(Rd++(a7,cE [.int .i64 B.lv,.slice ea B.xs.length ec,.int .i64 B.at_] 201)::(a8,cE [.slice (some ⟨sb,so,none⟩) (Av s q b j).length a2] 198)::(b9,cE [.int .u8 y0.key.kind,.int .u32 y0.key.id,.int .u32 y0.key.off,.int .i64 y0.ref,.slice ya yn yc] 70)::(P,cE [Value.int .i64 0] 39)::(Q,cE [Value.int .i64 0] 3)::(X,cE [Value.slice none 0 0,Value.slice none 0 0,Value.slice none 0 0,Value.slice none 0 0] 32)::(b5,cE [.int .u8 q.kind,.int .u32 q.id,.int .u32 q.off] 43)::(b3,cE [bv,.slice wa s.waits.length wc,nv,lw] 32)::[])) (λw h=>h.perm BW) (f.trans o) (by simp) ?_
 exact ac (Md,da,dc,Rd,n) ⟨f.trans o,k⟩
end Go.Proofs.YtdahhoicackcaaaGreat
