/- Lemmas and walks on which the claims of this seat lean (names and blanks made short by a program): ODo7 ODo8 ORunJ. -/
import Derived.Test.YtbliehinagkldaaGreatDoorG07
import Derived.Test.YtbliehinagkldaaGreatDoorG09
import Derived.Test.YtbliehinagkldaaGreatDoorG11

set_option linter.all false
set_option maxRecDepth 100000
set_option maxHeartbeats 16000000
open Go.Lib renaming hid → fe6
open List renaming length_append → ff4, length_singleton → ff7, length_map → fg5, length_take → fg6
open Nat renaming le_refl → fh0, le_trans → fh1, add_zero → fh2, lt_of_lt_of_le → fh4
namespace Go.Proofs.YtbliehinagkldaaGreatDoor
section
open Go.RowKit
attribute [local go_sem] j4.drew j4.alloc j4.drewN WB.holds Oper.semAt_some Q9 O1 J7
theorem cV1 {He:j5} {base:Nat} {w:World} {D:Nat} {gm gb gt gu go' ga rv:Value} {g:D5} {recs:List Rec} (d:L8 He base w D gm gb gt gu go' ga rv g recs) (v:F6 g=true) (dr:Doors He) (line:Int) (hI:K8 line) (s:ByteArray) (hs:s.size≤10000) (hz:(J9 (C9 s)).size≤100000) (hq:(C9 s).length≤1000) (hr:∀r∈recs,0≤r.ln∧r.ln≤9999) (x b y z:ByteArray) (e':List ByteArray) (n:Int) (hsp:C9 s=x::b::y::z::e') (hk:(A7 (C9 s)).kind=0) (hnb:O5 b=some n) (hx:x=ad5) (hy:y=wIs) (hk2:(A7 (z::e')).kind=1):
 Calls Tryz.prog 76 #[.pointer (some ⟨D,0,none⟩),.int .i64 line,.string s] w (X8 He base w D gm gb gt gu go' ga rv g (aE2 recs n line (some (A7 (z::e')))) (bm6 g recs n line (some (A7 (z::e'))))):=by
 have hql:e'.length≤1000:=by rw[hsp]at hq;simp at hq;omega
 have hzz:z.size≤100000:=by have:=J6 s z (by rw[hsp];simp);omega
 have hjz:(J9 (z::e')).size≤100000:=by
  rw[hsp]at hz
  have h1:=N7 x (b::y::z::e')
  have h2:=N7 b (y::z::e')
  have h3:=N7 y (z::e')
  omega
 obtain⟨q',aC8⟩:∃q',z::e'=q':=⟨_,rfl⟩
 rw[aC8]at hsp
 obtain⟨q,hqe⟩:∃q,y::q'=q:=⟨_,rfl⟩
 rw[hqe]at hsp
 have J5:=ab4 s (by omega) He dr w d.h
 rw[hsp]at hk hz hq J5
 have hxs:x.size≤100000:=by have:=J6 s x (by rw[hsp];simp);omega
 have hre:=fun(va:Value) (H1:j5) (W:World) (hW:j4 H1 W) (hle:D8 He H1) (ha:Sl H1 va (x::b::q))=>aa0 va x (b::q) (by simp at hq ⊢<;>omega) H1 (dr.mono hle) W hW ha hz hxs
 unfold P9 at hre
 have hk1:¬(A7 (x::b::q)).kind=1:=by rw[hk];decide
 simp only[if_neg hk1]at hre
 have hrq:=fun(va:Value) (H1:j5) (W:World) (hW:j4 H1 W) (hle:D8 He H1) (ha:Sl H1 va (x::b::q))=>ab3 va x (b::q) (by simp at hq ⊢<;>omega) H1 (dr.mono hle) W hW ha hxs
 unfold R4 at hrq
 simp only[show ¬(A7 (x::b::q)).kind=2 by rw[hk];decide,if_false]at hrq
 replace hre:=fe6 hre
 replace hrq:=fe6 hrq
 replace J5:=fe6 J5
 clear hk1
 obtain⟨N,hN⟩:∃N,Hid ((x::b::q).length=N):=⟨_,rfl⟩
 go_enter Tryz.func76,Tryz.ntmps76
 go_upto_region 2 with(go_at_call 117;refine J5.out.mono ?_;rintro e w1 ⟨_,H1,rfl,x1,s1⟩;obtain⟨a1,c1,e1,_,_⟩:=s1.form;rw[hN.out]at e1;subst e1)
 have l1:=x1.le d.h
 go_upto_region 9 with(go_at_call 118;refine(hre.out _ _ _ x1.holds l1 s1).mono ?_;rintro e w2 ⟨rfl,hb2⟩;have x2:=x1.step (hb2.mono x1.below.size) (x1.holds.below hb2))
 have x3:=x2.alloc (.cells #[.string ⟨#[]⟩,.nilFunc] 145)
 generalize w2.alloc (.cells #[.string ⟨#[]⟩,.nilFunc] 145)=w3 at*
 clear x1 x2 hb2 hre J5
 have hbz:b.size≤1000000:=by have:=J6 s b (by rw[hsp];simp);omega
 have hlq:(N:Int)=(q.length:Int)+2:=by rw[←hN.out];simp;omega
 have hl2:¬(N:Int)<2:=by omega
 have hl3:(1:Int)<(N:Int):=by omega
 have hN2:(2:Int)≤(N:Int):=by omega
 have hN0:(0:Int)<(N:Int):=by omega
 obtain⟨b1,o1,c1',he1,hbs,rb⟩:=s1.str (show At (x::b::q) 1 b from rfl)
 rw[hN.out]at he1
 cases he1
 obtain⟨b1',o1',aQ8,he1,aQ9,rx⟩:=s1.str (show At (x::b::q) 0 x from rfl)
 rw[hN.out]at he1
 cases he1
 simp only[fh2]at rx
 have F5:=fun(W:World) (va:Value) (H':j5) (hW:j4 H' W) (hle:D8 He H') (ha:Sl H' va [b])=>U5 va [b] (by simp) H' (dr.mono hle) W hW ha
 unfold V9 at F5
 rw[ai2,hnb]at F5
 replace F5:=fe6 F5
 replace hlq:=fe6 hlq
 go_upto_region 12 with(go_at_call 121;refine(hrq.out _ _ _ x3.holds l1 s1).mono ?_;rintro e w4 ⟨rfl,hb4⟩;have x4:=x3.step (hb4.mono x3.below.size) (x3.holds.below hb4))
 clear x3 hb4 hrq
 have hw4:=x4.holds
 have hNM:N-2=q.length:=by have:=hlq.out;omega
 obtain⟨M,hM⟩:∃M,q.length=M:=⟨_,rfl⟩
 rw[hM]at hNM
 obtain⟨aT,Z7⟩:∃aT,(if c1=2 then some (⟨b1,o1,none⟩:Addr)else some ⟨b1,o1+2,none⟩)=aT:=⟨_,rfl⟩
 have sT:=ak1 rfl s1 Z7
 rw[hM]at sT
 replace hM:=fe6 hM
 go_upto_region 17 with(go_at_call 123;obtain⟨H5,l5,x5,s5⟩:=am4 x4 b hbz;go_must (refine(F5.out _ _ _ x5.holds (l1.trans l5) s5).mono ?_);rintro e w6 ⟨nv,H6,rfl,y6,o6⟩;obtain⟨H7,y7,l7,s7,_⟩:=o6.close y6;obtain⟨b7,o7,c7,rfl,_,_⟩:=s7.int (show At [n] 0 n from rfl);have x7:=x5.trans y7;have l57:=l5.trans (y7.le x5.holds))
 obtain⟨_,_,_,he7,hin,rn⟩:=s7.int (show At [n] 0 n from rfl)
 cases he7
 simp only[fh2]at rn
 have hw7:=x7.holds
 have rx7:=lift l57 rx
 have sT7:=sT.mono l57
 have s17:=s1.mono l57
 clear x4 x5 y6 y7 o6 l5 l7 F5 hw4 rb rx s1 sT s5
 refine E8 H7 (by kernel_rfl) (by kernel_rfl) hw7 (fun hne=> ?_)
 repeat go_big_quiet_step((first|fail))
 refine wpQuiet_nil ?_
 rintro⟨w2,hw2,hb2⟩
 clear hne
 have x8:=x7.step (hb2.mono x7.below.size) hw2
 clear x7 hw7
 have l8:=x8.le d.h
 have cu6:=hqe.symm
 subst cu6
 have bP4:=aC8.symm
 subst bP4
 have hM0:1<(M:Int):=by have:=hM.out;simp at this;omega
 have hM1:0<(M:Int):=by omega
 have hM2:(1:Int)≤(M:Int):=by omega
 have ei:=G8 (l:=[105,115]) hy
 clear hy hqe aC8
 obtain⟨by',oy,cy,hey,hys,ry⟩:=sT7.str (show At (y::z::e') 0 y from rfl)
 rw[hM.out]at hey
 cases hey
 simp only[fh2]at ry
 obtain⟨_,_,_,hey,hzs,rz⟩:=sT7.str (show At (y::z::e') 1 z from rfl)
 rw[hM.out]at hey
 cases hey
 obtain⟨aE,haE⟩:∃aE,(if c1-2=1 then some (⟨by',oy,none⟩:Addr)else some ⟨by',oy+1,none⟩)=aE:=⟨_,rfl⟩
 have sE:=ax8 rfl sT7 haE
 have hML:M-1=(z::e').length:=by have:=hM.out;simp at this ⊢;omega
 obtain⟨M2,aY1⟩:∃M2,(z::e').length=M2:=⟨_,rfl⟩
 rw[aY1]at hML sE
 have hM3:M=M2+1:=by omega
 replace aY1:=fe6 aY1
 replace hM3:=fe6 hM3
 have e1:=j6 (l:=[114,101,97,100,115]) (show x≠Z6 by rw[hx];decide)
 have e2:=j6 (l:=[97,116]) (show x≠wAt by rw[hx];decide)
 have e3:=G8 (l:=[108,105,110,101]) hx
 clear hx
 have as2:=fun(va:Value) (H':j5) (W:World) (hW:j4 H' W) (hle:D8 He H') (ha:Sl H' va (z::e'))=>aa0 va z e' hql H' (dr.mono hle) W hW ha hjz hzz
 unfold P9 at as2
 simp only[hk2,if_true]at as2
 replace as2:=fe6 as2
 dsimp only
 go_upto_region 35 with(go_at_call 118;refine(as2.out _ _ _ x8.holds l8 sE).mono ?_;rintro e w9 ⟨fv,H9,rfl,y9,hf⟩;have hf0:=fe6 hf;obtain⟨ff,cap,rfl,_,_⟩:=hf;have x9:=x8.trans y9)
 obtain⟨y10,_,hE⟩:=(Ext.refl x9.holds).newF #[.string (J9 (z::e')),.func (.func ff) #[] cap] 145
 have hEP:bv5 (H9.put w9.heap.size (.cells #[.string (J9 (z::e')),.func (.func ff) #[] cap] 145 (0,0))) w9.heap.size (A7 (z::e')):=⟨_,by rw[(av0 (p:=z::e') (by rw[hk2];decide)).1];exact hE,hf0.out.mono (y10.le x9.holds)⟩
 have x10:=x9.trans y10
 generalize H9.put w9.heap.size (.cells #[.string (J9 (z::e')),.func (.func ff) #[] cap] 145 (0,0))=H10 at*
 generalize w9.alloc (.cells #[.string (J9 (z::e')),.func (.func ff) #[] cap] 145)=w10 at*
 generalize w9.heap.size=E at*
 generalize A7 (z::e')=L at*
 have hco:=fe6 (bF8 (d.ext x10) v (dr.mono (x10.le d.h)) hr line n (some ⟨E,0,none⟩) (some L) ⟨E,rfl,hEP⟩)
 clear hE hEP hf0 y10 x9 x8 y9 as2 sE sT7 s17
 go_wp2_with(go_at_call 125;refine hco.out.mono ?_;rintro e w11 ⟨Hf,rvf,rfl,onf,cV2,df⟩)
 go_ret
 exact⟨Hf,_,rfl,(Only.of x10.below).trans onf (fun _ _ h=>h),fun b hb=>(cV2 b (fh4 hb x10.below.size)).trans (x10.same b hb),df⟩
theorem cD5 {He:j5} {base:Nat} {w:World} {D:Nat} {gm gb gt gu go' ga rv:Value} {g:D5} {recs:List Rec} (d:L8 He base w D gm gb gt gu go' ga rv g recs) (v:F6 g=true) (dr:Doors He) (line:Int) (hI:K8 line) (s:ByteArray) (hs:s.size≤10000) (hz:(J9 (C9 s)).size≤100000) (hq:(C9 s).length≤1000) (hr:∀r∈recs,0≤r.ln∧r.ln≤9999) (x b y z:ByteArray) (e':List ByteArray) (n:Int) (hsp:C9 s=x::b::y::z::e') (hk:(A7 (C9 s)).kind=0) (hnb:O5 b=some n) (hx:x=ad5) (hy:y=wIs) (hk2:¬(A7 (z::e')).kind=1) (hne:z::e'=[au8]):
 Calls Tryz.prog 76 #[.pointer (some ⟨D,0,none⟩),.int .i64 line,.string s] w (X8 He base w D gm gb gt gu go' ga rv g (aE2 recs n line none) (bm6 g recs n line none)):=by
 have hql:e'.length≤1000:=by rw[hsp]at hq;simp at hq;omega
 have hzz:z.size≤100000:=by have:=J6 s z (by rw[hsp];simp);omega
 have hjz:(J9 (z::e')).size≤100000:=by
  rw[hsp]at hz
  have h1:=N7 x (b::y::z::e')
  have h2:=N7 b (y::z::e')
  have h3:=N7 y (z::e')
  omega
 obtain⟨q',aC8⟩:∃q',z::e'=q':=⟨_,rfl⟩
 rw[aC8]at hsp
 obtain⟨q,hqe⟩:∃q,y::q'=q:=⟨_,rfl⟩
 rw[hqe]at hsp
 have J5:=ab4 s (by omega) He dr w d.h
 rw[hsp]at hk hz hq J5
 have hxs:x.size≤100000:=by have:=J6 s x (by rw[hsp];simp);omega
 have hre:=fun(va:Value) (H1:j5) (W:World) (hW:j4 H1 W) (hle:D8 He H1) (ha:Sl H1 va (x::b::q))=>aa0 va x (b::q) (by simp at hq ⊢<;>omega) H1 (dr.mono hle) W hW ha hz hxs
 unfold P9 at hre
 have hk1:¬(A7 (x::b::q)).kind=1:=by rw[hk];decide
 simp only[if_neg hk1]at hre
 have hrq:=fun(va:Value) (H1:j5) (W:World) (hW:j4 H1 W) (hle:D8 He H1) (ha:Sl H1 va (x::b::q))=>ab3 va x (b::q) (by simp at hq ⊢<;>omega) H1 (dr.mono hle) W hW ha hxs
 unfold R4 at hrq
 simp only[show ¬(A7 (x::b::q)).kind=2 by rw[hk];decide,if_false]at hrq
 replace hre:=fe6 hre
 replace hrq:=fe6 hrq
 replace J5:=fe6 J5
 clear hk1
 obtain⟨N,hN⟩:∃N,Hid ((x::b::q).length=N):=⟨_,rfl⟩
 go_enter Tryz.func76,Tryz.ntmps76
 go_upto_region 2 with(go_at_call 117;refine J5.out.mono ?_;rintro e w1 ⟨_,H1,rfl,x1,s1⟩;obtain⟨a1,c1,e1,_,_⟩:=s1.form;rw[hN.out]at e1;subst e1)
 have l1:=x1.le d.h
 go_upto_region 9 with(go_at_call 118;refine(hre.out _ _ _ x1.holds l1 s1).mono ?_;rintro e w2 ⟨rfl,hb2⟩;have x2:=x1.step (hb2.mono x1.below.size) (x1.holds.below hb2))
 have x3:=x2.alloc (.cells #[.string ⟨#[]⟩,.nilFunc] 145)
 generalize w2.alloc (.cells #[.string ⟨#[]⟩,.nilFunc] 145)=w3 at*
 clear x1 x2 hb2 hre J5
 have hbz:b.size≤1000000:=by have:=J6 s b (by rw[hsp];simp);omega
 have hlq:(N:Int)=(q.length:Int)+2:=by rw[←hN.out];simp;omega
 have hl2:¬(N:Int)<2:=by omega
 have hl3:(1:Int)<(N:Int):=by omega
 have hN2:(2:Int)≤(N:Int):=by omega
 have hN0:(0:Int)<(N:Int):=by omega
 obtain⟨b1,o1,c1',he1,hbs,rb⟩:=s1.str (show At (x::b::q) 1 b from rfl)
 rw[hN.out]at he1
 cases he1
 obtain⟨b1',o1',aQ8,he1,aQ9,rx⟩:=s1.str (show At (x::b::q) 0 x from rfl)
 rw[hN.out]at he1
 cases he1
 simp only[fh2]at rx
 have F5:=fun(W:World) (va:Value) (H':j5) (hW:j4 H' W) (hle:D8 He H') (ha:Sl H' va [b])=>U5 va [b] (by simp) H' (dr.mono hle) W hW ha
 unfold V9 at F5
 rw[ai2,hnb]at F5
 replace F5:=fe6 F5
 replace hlq:=fe6 hlq
 go_upto_region 12 with(go_at_call 121;refine(hrq.out _ _ _ x3.holds l1 s1).mono ?_;rintro e w4 ⟨rfl,hb4⟩;have x4:=x3.step (hb4.mono x3.below.size) (x3.holds.below hb4))
 clear x3 hb4 hrq
 have hw4:=x4.holds
 have hNM:N-2=q.length:=by have:=hlq.out;omega
 obtain⟨M,hM⟩:∃M,q.length=M:=⟨_,rfl⟩
 rw[hM]at hNM
 obtain⟨aT,Z7⟩:∃aT,(if c1=2 then some (⟨b1,o1,none⟩:Addr)else some ⟨b1,o1+2,none⟩)=aT:=⟨_,rfl⟩
 have sT:=ak1 rfl s1 Z7
 rw[hM]at sT
 replace hM:=fe6 hM
 go_upto_region 17 with(go_at_call 123;obtain⟨H5,l5,x5,s5⟩:=am4 x4 b hbz;go_must (refine(F5.out _ _ _ x5.holds (l1.trans l5) s5).mono ?_);rintro e w6 ⟨nv,H6,rfl,y6,o6⟩;obtain⟨H7,y7,l7,s7,_⟩:=o6.close y6;obtain⟨b7,o7,c7,rfl,_,_⟩:=s7.int (show At [n] 0 n from rfl);have x7:=x5.trans y7;have l57:=l5.trans (y7.le x5.holds))
 obtain⟨_,_,_,he7,hin,rn⟩:=s7.int (show At [n] 0 n from rfl)
 cases he7
 simp only[fh2]at rn
 have hw7:=x7.holds
 have rx7:=lift l57 rx
 have sT7:=sT.mono l57
 have s17:=s1.mono l57
 clear x4 x5 y6 y7 o6 l5 l7 F5 hw4 rb rx s1 sT s5
 refine E8 H7 (by kernel_rfl) (by kernel_rfl) hw7 (fun hne=> ?_)
 repeat go_big_quiet_step((first|fail))
 refine wpQuiet_nil ?_
 rintro⟨w2,hw2,hb2⟩
 clear hne
 have x8:=x7.step (hb2.mono x7.below.size) hw2
 clear x7 hw7
 have l8:=x8.le d.h
 have cu6:=hqe.symm
 subst cu6
 have bP4:=aC8.symm
 subst bP4
 have hM0:1<(M:Int):=by have:=hM.out;simp at this;omega
 have hM1:0<(M:Int):=by omega
 have hM2:(1:Int)≤(M:Int):=by omega
 have ei:=G8 (l:=[105,115]) hy
 clear hy hqe aC8
 obtain⟨by',oy,cy,hey,hys,ry⟩:=sT7.str (show At (y::z::e') 0 y from rfl)
 rw[hM.out]at hey
 cases hey
 simp only[fh2]at ry
 obtain⟨_,_,_,hey,hzs,rz⟩:=sT7.str (show At (y::z::e') 1 z from rfl)
 rw[hM.out]at hey
 cases hey
 obtain⟨aE,haE⟩:∃aE,(if c1-2=1 then some (⟨by',oy,none⟩:Addr)else some ⟨by',oy+1,none⟩)=aE:=⟨_,rfl⟩
 have sE:=ax8 rfl sT7 haE
 have hML:M-1=(z::e').length:=by have:=hM.out;simp at this ⊢;omega
 obtain⟨M2,aY1⟩:∃M2,(z::e').length=M2:=⟨_,rfl⟩
 rw[aY1]at hML sE
 have hM3:M=M2+1:=by omega
 replace aY1:=fe6 aY1
 replace hM3:=fe6 hM3
 have e1:=j6 (l:=[114,101,97,100,115]) (show x≠Z6 by rw[hx];decide)
 have e2:=j6 (l:=[97,116]) (show x≠wAt by rw[hx];decide)
 have e3:=G8 (l:=[108,105,110,101]) hx
 clear hx
 have as2:=fun(va:Value) (H':j5) (W:World) (hW:j4 H' W) (hle:D8 He H') (ha:Sl H' va (z::e'))=>aa0 va z e' hql H' (dr.mono hle) W hW ha hjz hzz
 unfold P9 at as2
 simp only[hk2,if_false]at as2
 replace as2:=fe6 as2
 dsimp only
 have hz':z=au8:=by cases hne;rfl
 have he':e'=[]:=by cases hne;rfl
 have ez:=G8 (l:=[110,111,116]) hz'
 have hM4:((M:Int)==2)=true:=beq_iff_eq.2 (by have h1:=hM.out;rw[he']at h1;simp at h1;omega)
 clear hne hz' he'
 go_upto_region 36 with(go_at_call 118;refine(as2.out _ _ _ x8.holds l8 sE).mono ?_;rintro e w9 ⟨rfl,hb9⟩;have x9:=x8.step (hb9.mono x8.below.size) (x8.holds.below hb9))
 have x10:=x9.alloc (.cells #[.string ⟨#[]⟩,.nilFunc] 145)
 generalize w9.alloc (.cells #[.string ⟨#[]⟩,.nilFunc] 145)=w10 at*
 have dW3:=x10.holds
 clear x9 x8 hb9 as2 sE sT7 s17
 have hco:=fe6 (bF8 (d.ext x10) v (dr.mono (x10.le d.h)) hr line n none none rfl)
 go_wp2_with(go_at_call 125;refine hco.out.mono ?_;rintro e w11 ⟨Hf,rvf,rfl,onf,cV2,df⟩)
 go_ret
 exact⟨Hf,_,rfl,(Only.of x10.below).trans onf (fun _ _ h=>h),fun b hb=>(cV2 b (fh4 hb x10.below.size)).trans (x10.same b hb),df⟩
theorem cu7 {He:j5} {base:Nat} {w:World} {D:Nat} {gm gb gt gu go' ga rv:Value} {g:D5} {recs:List Rec} (d:L8 He base w D gm gb gt gu go' ga rv g recs) (v:F6 g=true) (dr:Doors He) (line:Int) (hI:K8 line) (s:ByteArray) (hs:s.size≤10000) (hz:(J9 (C9 s)).size≤100000) (hq:(C9 s).length≤1000) (hr:∀r∈recs,0≤r.ln∧r.ln≤9999) (x b y z:ByteArray) (e':List ByteArray) (n:Int) (hsp:C9 s=x::b::y::z::e') (hk:(A7 (C9 s)).kind=0) (hnb:O5 b=some n) (hx:x=ad5) (hy:y=wIs) (hk2:¬(A7 (z::e')).kind=1) (hne:¬z::e'=[au8]):
 Calls Tryz.prog 76 #[.pointer (some ⟨D,0,none⟩),.int .i64 line,.string s] w (X8 He base w D gm gb gt gu go' ga rv g (recs) (ai7)):=by
 have hql:e'.length≤1000:=by rw[hsp]at hq;simp at hq;omega
 have hzz:z.size≤100000:=by have:=J6 s z (by rw[hsp];simp);omega
 have hjz:(J9 (z::e')).size≤100000:=by
  rw[hsp]at hz
  have h1:=N7 x (b::y::z::e')
  have h2:=N7 b (y::z::e')
  have h3:=N7 y (z::e')
  omega
 obtain⟨q',aC8⟩:∃q',z::e'=q':=⟨_,rfl⟩
 rw[aC8]at hsp
 obtain⟨q,hqe⟩:∃q,y::q'=q:=⟨_,rfl⟩
 rw[hqe]at hsp
 have J5:=ab4 s (by omega) He dr w d.h
 rw[hsp]at hk hz hq J5
 have hxs:x.size≤100000:=by have:=J6 s x (by rw[hsp];simp);omega
 have hre:=fun(va:Value) (H1:j5) (W:World) (hW:j4 H1 W) (hle:D8 He H1) (ha:Sl H1 va (x::b::q))=>aa0 va x (b::q) (by simp at hq ⊢<;>omega) H1 (dr.mono hle) W hW ha hz hxs
 unfold P9 at hre
 have hk1:¬(A7 (x::b::q)).kind=1:=by rw[hk];decide
 simp only[if_neg hk1]at hre
 have hrq:=fun(va:Value) (H1:j5) (W:World) (hW:j4 H1 W) (hle:D8 He H1) (ha:Sl H1 va (x::b::q))=>ab3 va x (b::q) (by simp at hq ⊢<;>omega) H1 (dr.mono hle) W hW ha hxs
 unfold R4 at hrq
 simp only[show ¬(A7 (x::b::q)).kind=2 by rw[hk];decide,if_false]at hrq
 replace hre:=fe6 hre
 replace hrq:=fe6 hrq
 replace J5:=fe6 J5
 clear hk1
 obtain⟨N,hN⟩:∃N,Hid ((x::b::q).length=N):=⟨_,rfl⟩
 go_enter Tryz.func76,Tryz.ntmps76
 go_upto_region 2 with(go_at_call 117;refine J5.out.mono ?_;rintro e w1 ⟨_,H1,rfl,x1,s1⟩;obtain⟨a1,c1,e1,_,_⟩:=s1.form;rw[hN.out]at e1;subst e1)
 have l1:=x1.le d.h
 go_upto_region 9 with(go_at_call 118;refine(hre.out _ _ _ x1.holds l1 s1).mono ?_;rintro e w2 ⟨rfl,hb2⟩;have x2:=x1.step (hb2.mono x1.below.size) (x1.holds.below hb2))
 have x3:=x2.alloc (.cells #[.string ⟨#[]⟩,.nilFunc] 145)
 generalize w2.alloc (.cells #[.string ⟨#[]⟩,.nilFunc] 145)=w3 at*
 clear x1 x2 hb2 hre J5
 have hbz:b.size≤1000000:=by have:=J6 s b (by rw[hsp];simp);omega
 have hlq:(N:Int)=(q.length:Int)+2:=by rw[←hN.out];simp;omega
 have hl2:¬(N:Int)<2:=by omega
 have hl3:(1:Int)<(N:Int):=by omega
 have hN2:(2:Int)≤(N:Int):=by omega
 have hN0:(0:Int)<(N:Int):=by omega
 obtain⟨b1,o1,c1',he1,hbs,rb⟩:=s1.str (show At (x::b::q) 1 b from rfl)
 rw[hN.out]at he1
 cases he1
 obtain⟨b1',o1',aQ8,he1,aQ9,rx⟩:=s1.str (show At (x::b::q) 0 x from rfl)
 rw[hN.out]at he1
 cases he1
 simp only[fh2]at rx
 have F5:=fun(W:World) (va:Value) (H':j5) (hW:j4 H' W) (hle:D8 He H') (ha:Sl H' va [b])=>U5 va [b] (by simp) H' (dr.mono hle) W hW ha
 unfold V9 at F5
 rw[ai2,hnb]at F5
 replace F5:=fe6 F5
 replace hlq:=fe6 hlq
 go_upto_region 12 with(go_at_call 121;refine(hrq.out _ _ _ x3.holds l1 s1).mono ?_;rintro e w4 ⟨rfl,hb4⟩;have x4:=x3.step (hb4.mono x3.below.size) (x3.holds.below hb4))
 clear x3 hb4 hrq
 have hw4:=x4.holds
 have hNM:N-2=q.length:=by have:=hlq.out;omega
 obtain⟨M,hM⟩:∃M,q.length=M:=⟨_,rfl⟩
 rw[hM]at hNM
 obtain⟨aT,Z7⟩:∃aT,(if c1=2 then some (⟨b1,o1,none⟩:Addr)else some ⟨b1,o1+2,none⟩)=aT:=⟨_,rfl⟩
 have sT:=ak1 rfl s1 Z7
 rw[hM]at sT
 replace hM:=fe6 hM
 go_upto_region 17 with(go_at_call 123;obtain⟨H5,l5,x5,s5⟩:=am4 x4 b hbz;go_must (refine(F5.out _ _ _ x5.holds (l1.trans l5) s5).mono ?_);rintro e w6 ⟨nv,H6,rfl,y6,o6⟩;obtain⟨H7,y7,l7,s7,_⟩:=o6.close y6;obtain⟨b7,o7,c7,rfl,_,_⟩:=s7.int (show At [n] 0 n from rfl);have x7:=x5.trans y7;have l57:=l5.trans (y7.le x5.holds))
 obtain⟨_,_,_,he7,hin,rn⟩:=s7.int (show At [n] 0 n from rfl)
 cases he7
 simp only[fh2]at rn
 have hw7:=x7.holds
 have rx7:=lift l57 rx
 have sT7:=sT.mono l57
 have s17:=s1.mono l57
 clear x4 x5 y6 y7 o6 l5 l7 F5 hw4 rb rx s1 sT s5
 refine E8 H7 (by kernel_rfl) (by kernel_rfl) hw7 (fun hne=> ?_)
 repeat go_big_quiet_step((first|fail))
 refine wpQuiet_nil ?_
 rintro⟨w2,hw2,hb2⟩
 clear hne
 have x8:=x7.step (hb2.mono x7.below.size) hw2
 clear x7 hw7
 have l8:=x8.le d.h
 have cu6:=hqe.symm
 subst cu6
 have bP4:=aC8.symm
 subst bP4
 have hM0:1<(M:Int):=by have:=hM.out;simp at this;omega
 have hM1:0<(M:Int):=by omega
 have hM2:(1:Int)≤(M:Int):=by omega
 have ei:=G8 (l:=[105,115]) hy
 clear hy hqe aC8
 obtain⟨by',oy,cy,hey,hys,ry⟩:=sT7.str (show At (y::z::e') 0 y from rfl)
 rw[hM.out]at hey
 cases hey
 simp only[fh2]at ry
 obtain⟨_,_,_,hey,hzs,rz⟩:=sT7.str (show At (y::z::e') 1 z from rfl)
 rw[hM.out]at hey
 cases hey
 obtain⟨aE,haE⟩:∃aE,(if c1-2=1 then some (⟨by',oy,none⟩:Addr)else some ⟨by',oy+1,none⟩)=aE:=⟨_,rfl⟩
 have sE:=ax8 rfl sT7 haE
 have hML:M-1=(z::e').length:=by have:=hM.out;simp at this ⊢;omega
 obtain⟨M2,aY1⟩:∃M2,(z::e').length=M2:=⟨_,rfl⟩
 rw[aY1]at hML sE
 have hM3:M=M2+1:=by omega
 replace aY1:=fe6 aY1
 replace hM3:=fe6 hM3
 have e1:=j6 (l:=[114,101,97,100,115]) (show x≠Z6 by rw[hx];decide)
 have e2:=j6 (l:=[97,116]) (show x≠wAt by rw[hx];decide)
 have e3:=G8 (l:=[108,105,110,101]) hx
 clear hx
 have as2:=fun(va:Value) (H':j5) (W:World) (hW:j4 H' W) (hle:D8 He H') (ha:Sl H' va (z::e'))=>aa0 va z e' hql H' (dr.mono hle) W hW ha hjz hzz
 unfold P9 at as2
 simp only[hk2,if_false]at as2
 replace as2:=fe6 as2
 dsimp only
 by_cases hM4:((M:Int)==2)=true
 ·have hzn:z≠au8:=fun e=>hne (by
   have h1:=hM.out
   have h2:=beq_iff_eq.1 hM4
   have:e'.length=0:=by simp at h1;omega
   rw[e,List.eq_nil_of_length_eq_zero this])
  have ez:=j6 (l:=[110,111,116]) hzn
  clear hne
  go_upto_region 36 with(go_at_call 118;refine(as2.out _ _ _ x8.holds l8 sE).mono ?_;rintro e w9 ⟨rfl,hb9⟩;have x9:=x8.step (hb9.mono x8.below.size) (x8.holds.below hb9))
  have x10:=x9.alloc (.cells #[.string ⟨#[]⟩,.nilFunc] 145)
  generalize w9.alloc (.cells #[.string ⟨#[]⟩,.nilFunc] 145)=w10 at*
  have dW3:=x10.holds
  clear x9 x8 hb9 as2 sE sT7 s17
  go_wp2
  go_ret
  exact⟨H7,rv,rfl,Only.of x10.below,fun b hb=>x10.same b hb,d.ext x10⟩
 ·have hM5:((M:Int)==2)=false:=by simpa using hM4
  clear hM4 hne
  go_upto_region 36 with(go_at_call 118;refine(as2.out _ _ _ x8.holds l8 sE).mono ?_;rintro e w9 ⟨rfl,hb9⟩;have x9:=x8.step (hb9.mono x8.below.size) (x8.holds.below hb9))
  have x10:=x9.alloc (.cells #[.string ⟨#[]⟩,.nilFunc] 145)
  generalize w9.alloc (.cells #[.string ⟨#[]⟩,.nilFunc] 145)=w10 at*
  have dW3:=x10.holds
  clear x9 x8 hb9 as2 sE sT7 s17
  go_wp2
  go_ret
  exact⟨H7,rv,rfl,Only.of x10.below,fun b hb=>x10.same b hb,d.ext x10⟩
end
section
open Go.RowKit
theorem bx5:∀s:List UInt8,(R9 s).length≤s.length+1:=ad1 (by decide) fun s b ih=>by
 rw[ap3,ff4,ff7]
 unfold U7
 split
 ·rw[ff4,ff7];omega
 ·rw[ff4,ff7,List.length_dropLast];omega
theorem aw8 (s:ByteArray):(C9 s).length≤s.size+1:=by
 unfold C9
 rw[fg5]
 exact bx5 (C8 s)
theorem dW4 {He:j5} {base:Nat} {w:World} {D:Nat} {gm gb gt gu go' ga rv:Value} {g:D5} {recs:List Rec} (d:L8 He base w D gm gb gt gu go' ga rv g recs) (v:F6 g=true) (dr:Doors He) (hl:recs.length<1000) (hr:∀r∈recs,0≤r.ln∧r.ln≤9999) (hbase:base≤w.heap.size) (line:Int) (hI:K8 line) (s:ByteArray) (hs:s.size≤900):
 Calls Tryz.prog 76 #[.pointer (some ⟨D,0,none⟩),.int .i64 line,.string s] w (X8 He base w D gm gb gt gu go' ga rv g (doR recs line (A8 s)) (doS g recs line (A8 s))):=by
 have hz:(J9 (C9 s)).size≤100000:=by rw[ay1];omega
 have hq:(C9 s).length≤1000:=by have:=aw8 s;omega
 have hs':s.size≤10000:=by omega
 have hw0:∀x:F7,x=E9→doR recs line x=recs∧doS g recs line x=ai7:=fun x e=>by subst e;exact⟨rfl,rfl⟩
 rcases bd6 (C9 s)with hk|hk|hk
 ·obtain⟨x,r,hsp⟩:=aF5 s
  cases r with
  |nil=>
   rw[bP0 hsp hk,(hw0 E9 rfl).1,(hw0 E9 rfl).2]
   exact dv4 d v dr line hI s hs' hz hq x hsp hk
  |cons b q=>
   cases hnb:O5 b with
   |none=>
    rw[bP1 hsp hk hnb,(hw0 E9 rfl).1,(hw0 E9 rfl).2]
    exact dv5 d v dr line hI s hs' hz hq x b q hsp hk hnb
   |some n=>
    rw[bG0 hsp hk hnb]
    have bb7:am6 n x q=E9→Calls Tryz.prog 76 #[.pointer (some ⟨D,0,none⟩),.int .i64 line,.string s] w (X8 He base w D gm gb gt gu go' ga rv g recs ai7)→Calls Tryz.prog 76 #[.pointer (some ⟨D,0,none⟩),.int .i64 line,.string s] w (X8 He base w D gm gb gt gu go' ga rv g (doR recs line (am6 n x q)) (doS g recs line (am6 n x q))):=fun e h=>by
     rw[e,(hw0 E9 rfl).1,(hw0 E9 rfl).2];exact h
    by_cases h1:x=Z6
    ·by_cases h0:q=[]
     ·have e:am6 n x q={E9 with kind:=4,of:=n}:=by unfold am6;rw[if_pos h1,if_pos h0]
      rw[e]
      exact dw0 d v dr line hI s hs' hz hq x b q n hsp hk hnb h1 h0
     ·refine bb7 (by unfold am6;rw[if_pos h1,if_neg h0]) ?_
      exact dv7 d v dr line hI s hs' hz hq x b q n hsp hk hnb h1 h0
    ·by_cases h2:x=wAt
     ·cases q with
      |nil=>
       refine bb7 (by unfold am6;rw[if_neg h1,if_pos h2,if_neg (by simp)]) ?_
       exact dv8 d v dr line hI s hs' hz hq x b [] n hsp hk hnb h2 rfl
      |cons y q'=>
       by_cases hk2:(A7 (y::q')).kind=2
       ·have e:am6 n x (y::q')={A7 (y::q')with kind:=3,of:=n}:=by unfold am6;rw[if_neg h1,if_pos h2,if_pos ⟨by simp,hk2⟩]
        rw[e]
        show Calls _ _ _ _ (X8 He base w D gm gb gt gu go' ga rv g recs (if 0≤n∧n≤line then U6 (U8 g (ahead recs n)) (A7 (y::q')).word (A7 (y::q')).nums else at0))
        by_cases hn:0≤n∧n≤line
        ·rw[if_pos hn]
         exact di3 d v dr line hI s hs' hz hq x b y q' n hsp hk hnb h2 hk2 hn
        ·rw[if_neg hn]
         exact cD4 d v dr line hI s hs' hz hq x b y q' n hsp hk hnb h2 hk2 hn
       ·refine bb7 (by unfold am6;rw[if_neg h1,if_pos h2,if_neg (fun h=>hk2 h.2)]) ?_
        exact dw1 d v dr line hI s hs' hz hq x b y q' n hsp hk hnb h2 hk2
     ·by_cases h3:x=ad5
      ·cases q with
       |nil=>
        refine bb7 (by unfold am6;rw[if_neg h1,if_neg h2,if_pos h3]) ?_
        exact cu5 d v dr line hI s hs' hz hq x b [] n hsp hk hnb h3 (by simp)
       |cons y q'=>
        cases q' with
        |nil=>
         refine bb7 (by unfold am6;rw[if_neg h1,if_neg h2,if_pos h3];exact if_pos (.inl rfl)) ?_
         exact cu5 d v dr line hI s hs' hz hq x b [y] n hsp hk hnb h3 (by simp)
        |cons z e'=>
         by_cases hy:y=wIs
         ·have hno:¬(z::e'=[]∨y≠wIs):=by rintro(h|h);cases h;exact h hy
          by_cases hne:z::e'=[au8]
          ·have hk2:¬(A7 (z::e')).kind=1:=by rw[hne];decide
           have e:am6 n x (y::z::e')={E9 with kind:=6,of:=n}:=by
            unfold am6
            rw[if_neg h1,if_neg h2,if_pos h3]
            show(if z::e'=[]∨y≠wIs then E9 else if z::e'=[au8]then _ else _)=_
            rw[if_neg hno,if_pos hne]
           rw[e]
           exact cD5 d v dr line hI s hs' hz hq hr x b y z e' n hsp hk hnb h3 hy hk2 hne
          ·by_cases hk2:(A7 (z::e')).kind=1
           ·have e:am6 n x (y::z::e')={A7 (z::e')with kind:=5,of:=n}:=by
             unfold am6
             rw[if_neg h1,if_neg h2,if_pos h3]
             show(if z::e'=[]∨y≠wIs then E9 else if z::e'=[au8]then _ else if(A7 (z::e')).kind=1 then _ else _)=_
             rw[if_neg hno,if_neg hne,if_pos hk2]
            rw[e]
            have hent:av1 {A7 (z::e')with kind:=5,of:=n}=A7 (z::e'):=dH1 hk2 (av0 (by rw[hk2];decide)).2.1
            show Calls _ _ _ _ (X8 He base w D gm gb gt gu go' ga rv g (aE2 recs n line (some (av1 {A7 (z::e')with kind:=5,of:=n}))) (bm6 g recs n line (some (av1 {A7 (z::e')with kind:=5,of:=n}))))
            rw[hent]
            exact cV1 d v dr line hI s hs' hz hq hr x b y z e' n hsp hk hnb h3 hy hk2
           ·refine bb7 (by
             unfold am6
             rw[if_neg h1,if_neg h2,if_pos h3]
             show(if z::e'=[]∨y≠wIs then E9 else if z::e'=[au8]then _ else if(A7 (z::e')).kind=1 then _ else _)=_
             rw[if_neg hno,if_neg hne,if_neg hk2]) ?_
            exact cu7 d v dr line hI s hs' hz hq hr x b y z e' n hsp hk hnb h3 hy hk2 hne
         ·refine bb7 (by
           unfold am6
           rw[if_neg h1,if_neg h2,if_pos h3]
           exact if_pos (.inr hy)) ?_
          exact dv9 d v dr line hI s hs' hz hq x b _ n hsp hk hnb y (z::e') rfl h3 (by simp) hy
      ·refine bb7 (by unfold am6;rw[if_neg h1,if_neg h2,if_neg h3]) ?_
       exact dv6 d v dr line hI s hs' hz hq x b q n hsp hk hnb h1 h2 h3
 ·have e:=aX7 (s:=s) (by rw[hk];decide)
  have hk':(A8 s).kind=1:=by rw[e];exact hk
  have h:=dv3 d v dr hl hbase line hI s hs' hz hq hk
  unfold doR doS
  rw[if_pos hk',if_neg (by omega),if_pos hk']
  exact h
 ·have e:=aX7 (s:=s) (by rw[hk];decide)
  have hk':(A8 s).kind=2:=by rw[e];exact hk
  have h:=dW0 d v dr line hI s hs' hz hq hk
  unfold doR doS
  rw[if_neg (by omega),if_neg (by omega),if_neg (by omega),if_neg (by omega),if_pos hk',e]
  exact h
end
section
open Go.RowKit
theorem cd9 {H H':j5}:∀{xs:List ByteArray} {cs:List Value},P6 H xs cs→P6 H' xs cs
 |[],_,h=>h
 |_::_,_,⟨c1,c2,e,h1,h2⟩=>⟨c1,c2,e,h1,cd9 h2⟩
theorem Own.bg7 {H H':j5} {base:Nat} {W:World} {e:TypeId} {v:Value} {xs:List ByteArray} (h:Own H base W e v xs) (hn:∀k,v.ownBlock=some k→H' k=none):Own H' base W e v xs:=by
 obtain⟨cells,ho,hr,_,hb⟩:=h
 exact⟨cells,ho,cd9 hr,hn,hb⟩
section
variable {α:Type} [Enc α] {H:j5} {base:Nat} {w w':World} {e:TypeId} {v:Value} {xs:List α}
theorem Own.move (o:Own H base w e v xs) (h:∀b,v.ownBlock=some b→w'.heap[b]? =w.heap[b]?):Own H base w' e v xs:=by
 obtain⟨cells,⟨hl,ho⟩,hr⟩:=o
 refine⟨cells,⟨hl, ?_⟩,hr⟩
 rcases ho with hn|⟨g,cap,cur,rfl,hbg,hg,rest⟩
 ·exact .inl hn
 ·exact .inr ⟨g,cap,cur,rfl,hbg,(h g rfl).trans hg,rest⟩
theorem Own.P8 (o:Own H base w e v xs) {R:Nat} {cs:Array Value} {T:TypeId} {fr:Nat × Nat} (hR:w.heap[R]? =some (.cells cs T fr)) (hne:e≠T):v.ownBlock≠some R:=fun h=>by
 obtain⟨cur,hr⟩:=o.X7 h
 rw[hR]at hr
 simp only[Option.some.injEq,Obj.cells.injEq]at hr
 exact hne hr.2.1.symm
end
structure ak2 (base CV:Nat) (Hc:j5) (W:World) (v:Value) (xs:List ByteArray):Prop where
 c:Cell Hc W base CV 33 v
 o:Own Hc base W 9 v xs
section
variable {base CV:Nat} {Hc Hc':j5} {W W':World} {v:Value} {xs:List ByteArray}
theorem ak2.turn {n0:Nat} (h:ak2 base CV Hc W v xs) (ht:Q6 n0 W Hc W' Hc'):ak2 base CV Hc' W' v xs:=by
 obtain⟨h1,h2⟩:=h.o.turn h.o.free ht
 exact⟨h.c.turn ht,h1.bg7 h2⟩
theorem ak2.below (h:ak2 base CV Hc W v xs) (hw:j4 Hc W) (hb:Below W.heap.size W W'):ak2 base CV Hc W' v xs:=h.turn (Q6.ext hw hb (fh0 _))
theorem ak2.ne (h:ak2 base CV Hc W v xs):v.ownBlock≠some CV:=h.o.aq0 h.c (by decide)
theorem ak2.alloc (h:ak2 base CV Hc W v xs) (o:Obj):ak2 base CV Hc (W.alloc o) v xs:=⟨h.c.alloc o,h.o.alloc o⟩
theorem ak2.snap (h:ak2 base CV Hc W v xs) (h1:Hc' CV=none) (h2:∀k,v.ownBlock=some k→Hc' k=none):ak2 base CV Hc' W v xs:=⟨h.c.snap h1,h.o.bg7 h2⟩
end
theorem L8.snap {He H2:j5} {base:Nat} {w:World} {D:Nat} {gm gb gt gu go' ga rv:Value} {g:D5} {recs:List Rec} (d:L8 He base w D gm gb gt gu go' ga rv g recs) (hw:j4 H2 w) (hle:D8 He H2) (hD:H2 D=none) (hr:∀b,rv.ownBlock=some b→H2 b=none):
 L8 H2 base w D gm gb gt gu go' ga rv g recs:=⟨hw,d.row,hD,d.t.mono hle,d.own.bz5 hle hr,d.l⟩
theorem L8.move {He:j5} {base:Nat} {w w':World} {D:Nat} {gm gb gt gu go' ga rv:Value} {g:D5} {recs:List Rec} (d:L8 He base w D gm gb gt gu go' ga rv g recs) (hw:j4 He w') (hD:w'.heap[D]? =w.heap[D]?) (hr:∀b,rv.ownBlock=some b→w'.heap[b]? =w.heap[b]?):
 L8 He base w' D gm gb gt gu go' ga rv g recs:=⟨hw,hD.trans d.row,d.nD,d.t,d.own.move hr,d.l⟩
theorem L8.ey0 {He:j5} {base:Nat} {w:World} {D:Nat} {gm gb gt gu go' ga rv:Value} {g:D5} {recs:List Rec} (d:L8 He base w D gm gb gt gu go' ga rv g recs):
 ∃HP,j4 HP w∧D8 He HP∧HP D=some (.cells #[gm,gb,gt,.int .i64 g.h.ch,gu,go',ga,.int .i64 g.s.fr,rv] 137 (0,0))∧bl7 HP He rv recs∧(∀b,b≠D→rv.ownBlock≠some b→HP b=He b)∧∀b,rv.ownBlock=some b→HP b=w.heap[b]? :=by
 obtain⟨cells,⟨hl,ho⟩,hr,hf,hb⟩:=d.own
 have hh:=d.h
 rcases ho with⟨rfl,hn⟩|⟨g0,cap,cur,he,hbg,hg,hnc,hcm,hcs,htake⟩
 ·have h0:recs=[]:=List.eq_nil_of_length_eq_zero hn
  subst h0
  refine⟨He.put D _,hh.put d.row,j5.L9 d.nD _,j5.G7 _ _ _,⟨⟨none,0,rfl⟩,fun k r hk=> ?_⟩,fun b h1 _=>j5.F3 _ _ h1,fun b e=>by cases e⟩
  have:=hk.lt;simp at this
 ·have hgD:g0≠D:=by
   rintro rfl
   rw[d.row]at hg
   simp only[Option.some.injEq,Obj.cells.injEq]at hg
   exact absurd hg.2.1 (by decide)
  have hg0:=hf g0 (by rw[he];rfl)
  have h1:=hh.put hg
  have hn1:(He.put g0 (.cells cur 142 (0,0))) D=none:=by rw[j5.F3 _ _ (Ne.symm hgD)];exact d.nD
  refine⟨(He.put g0 (.cells cur 142 (0,0))).put D _,h1.put d.row,(j5.L9 hg0 _).trans (j5.L9 hn1 _),j5.G7 _ _ _,⟨⟨_,cap,he⟩,fun k r hk=> ?_⟩,fun b k1 k2=> ?_,fun b e=> ?_⟩
  ·obtain⟨ds,⟨p,hds,hi,hp⟩,hj⟩:=P6.get hr hk
   have hP:((He.put g0 (.cells cur 142 (0,0))).put D (.cells #[gm,gb,gt,.int .i64 g.h.ch,gu,go',ga,.int .i64 g.s.fr,rv] 137 (0,0))) g0=some (.cells cur 142 (0,0)):=by
    rw[j5.F3 _ _ hgD,j5.G7]
   have hcell:∀(j:Nat) (u:Value),ds[j]? =some u→cur[k*2+j]? =some u:=fun j u hu=>by
    have h2:=hj j u hu
    rw[←htake,List.getElem?_take]at h2
    split at h2
    ·simpa [Enc.sz]using h2
    ·cases h2
   refine⟨g0,0,cap,p,he,hi,hp,fun W hW=> ?_,fun W hW=> ?_⟩
   ·rw[Nat.zero_add]
    exact(D7 hP hW _).trans (hcell 0 _ (by rw[hds];rfl))
   ·rw[Nat.zero_add]
    exact(D7 hP hW _).trans (hcell 1 _ (by rw[hds];rfl))
  ·rw[j5.F3 _ _ k1,j5.F3 _ _ (fun e=>k2 (by rw[he,e];rfl))]
  ·rw[he]at e
   have hb':g0=b:=by simpa [Value.ownBlock]using e
   subst hb'
   rw[j5.F3 _ _ hgD,j5.G7,hg]
theorem cD6 {A B:j5} {w:World} (hA:j4 A w) (h:∀b,b<w.heap.size→B b=A b):D8 A B:=fun b o e=>by rw[h b (hA.lt e)];exact e
structure aN4 (w:World) (H1:j5) (R5 B6 D:Nat) (vm vb vt um uo ua:Value) (t:D5) (l:List ByteArray) (k:Nat) (He:j5) (rv v:Value) (wr:World):Prop where
 d:L8 He w.heap.size wr D vm vb vt um uo ua rv t (I6 (M6 t (l.take k)).written (M6 t (l.take k)).now k)
 a:Own He w.heap.size wr 9 v (M6 t (l.take k)).ans
 r:M9 R5 32 wr (.slice none 0 0) (.slice none 0 0) (.slice none 0 0) (.int .i64 0) (.slice none 0 0) (.slice none 0 0) (.slice none 0 0) (.int .i64 0)
 rn:He R5=none
 b:wr.heap[B6]? =some (.cells #[.slice none 0 0] 33 (0,0))
 bn:He B6=none
 x:Below w.heap.size w wr
 same:∀b,b<w.heap.size→He b=H1 b
 le:D8 H1 He
 dB:w.heap.size≤D
section
variable {w wr w' w7:World} {H1 He He':j5} {R5 B6 D k:Nat} {vm vb vt um uo ua rv rv' v v7:Value} {t:D5} {l:List ByteArray} {s:ByteArray}
theorem aN4.dW5 (j:aN4 w H1 R5 B6 D vm vb vt um uo ua t l k He rv v wr) (hk:k≤l.length):(M6 t (l.take k)).written.length=k:=by rw[(ax9 t _).2.1,fg6];omega
theorem aN4.rows (j:aN4 w H1 R5 B6 D vm vb vt um uo ua t l k He rv v wr):(R5≠D∧rv.ownBlock≠some R5)∧(B6≠D∧rv.ownBlock≠some B6)∧(v.ownBlock≠some D∧v.ownBlock≠some R5∧v.ownBlock≠some B6)∧∀b,v.ownBlock=some b→rv.ownBlock≠some b:=by
 refine⟨⟨fun e=> ?_,j.d.own.P8 j.r.at_ (by decide)⟩,⟨fun e=> ?_,j.d.own.P8 j.b (by decide)⟩,⟨j.a.P8 j.d.row (by decide),j.a.P8 j.r.at_ (by decide),j.a.P8 j.b (by decide)⟩,fun b h1 h2=> ?_⟩
 ·have h:=j.r.at_
  rw[e,j.d.row]at h
  simp only[Option.some.injEq,Obj.cells.injEq]at h
  exact absurd h.2.1 (by decide)
 ·have h:=j.b
  rw[e,j.d.row]at h
  simp only[Option.some.injEq,Obj.cells.injEq]at h
  exact absurd h.2.1 (by decide)
 ·obtain⟨c1,e1⟩:=j.a.X7 h1
  exact j.d.own.P8 e1 (by decide) h2
theorem aN4.mid (j:aN4 w H1 R5 B6 D vm vb vt um uo ua t l k He rv v wr) (on:Only D rv wr w') (hs:∀b,b<wr.heap.size→He' b=He b):Own He' w.heap.size w' 9 v (M6 t (l.take k)).ans:=by
 obtain⟨_,_,h3,h4⟩:=j.rows
 refine(j.a.move fun b hb=>on.k b (j.a.lt b hb).2 (fun e=>h3.1 (by rw[hb,e])) (h4 b hb)).bg7 fun b hb=> ?_
 rw[hs b (j.a.lt b hb).2]
 exact j.a.free b hb
theorem aN4.step {o:Obj} (j:aN4 w H1 R5 B6 D vm vb vt um uo ua t l k He rv v wr) (hk:At l k s) (on:Only D rv wr w') (hs:∀b,b<wr.heap.size→He' b=He b)
 (d':L8 He' w.heap.size w' D vm vb vt um uo ua rv' t (doR (I6 (M6 t (l.take k)).written (M6 t (l.take k)).now k) (k:Int) (A8 s)))
 (a7:Own He' w.heap.size w7 9 v7 ((M6 t (l.take k)).ans++[doS t (I6 (M6 t (l.take k)).written (M6 t (l.take k)).now k) (k:Int) (A8 s)]))
 (g7:(w'.alloc o).grownBy w7 v.ownBlock) (h7:j4 He' w7):aN4 w H1 R5 B6 D vm vb vt um uo ua t l (k+1) He' rv' v7 w7:=by
 have hkl:=hk.lt
 have hW:=j.dW5 (Nat.le_of_lt hkl)
 obtain⟨⟨r1,r2⟩,⟨b1,b2⟩,⟨v1,v2,v3⟩,v4⟩:=j.rows
 have hd:=aU2 t (l.take k)
 have hrun:M6 t (l.take (k+1))=bz9 t (M6 t (l.take k)) s:=by rw[hk.take,aP2]
 have hrec:doR (I6 (M6 t (l.take k)).written (M6 t (l.take k)).now k) (k:Int) (A8 s)=I6 (M6 t (l.take (k+1))).written (M6 t (l.take (k+1))).now (k+1):=by
  have:=dv1 hd (A8 s)
  rw[hW]at this
  rw[this,hrun];rfl
 have aC6:(M6 t (l.take k)).ans++[doS t (I6 (M6 t (l.take k)).written (M6 t (l.take k)).now k) (k:Int) (A8 s)]=(M6 t (l.take (k+1))).ans:=by
  have:=cu0 hd t (A8 s)
  rw[hW]at this
  rw[this,hrun];rfl
 rw[hrec]at d'
 rw[aC6]at a7
 have dW6:R5<wr.heap.size:=(Array.getElem?_eq_some_iff.1 j.r.at_).1
 have hBlt:B6<wr.heap.size:=(Array.getElem?_eq_some_iff.1 j.b).1
 have hsz:=on.b.size
 have hgrow:∀b,b<w'.heap.size→v.ownBlock≠some b→w7.heap[b]? =w'.heap[b]? :=fun b hb hne=>(g7.block b (by rw[World.size_alloc];omega) (fun e=>hne e.symm)).trans (heap_alloc_old w' o hb)
 have hDlt:D<w'.heap.size:=d'.lt
 have hvD:v.ownBlock≠some D:=v1
 have hbase:=j.x.size
 have hle:=cD6 j.d.h hs
 refine⟨d'.move h7 (hgrow D hDlt hvD) (fun b hb=>hgrow b (d'.own.lt b hb).2 fun e=> ?_),a7,⟨(hgrow R5 (by omega) v2).trans ((on.k R5 dW6 r1 r2).trans j.r.at_)⟩,(hs R5 dW6).trans j.rn,(hgrow B6 (by omega) v3).trans ((on.k B6 hBlt b1 b2).trans j.b),(hs B6 hBlt).trans j.bn, ?_,fun b hb=>(hs b (by omega)).trans (j.same b hb),j.le.trans hle,j.dB⟩
 ·have hm:=j.mid on hs
  obtain⟨c1,e1⟩:=hm.X7 e
  exact d'.own.P8 e1 (by decide) hb
 ·have hb1:Below w.heap.size wr w':=on.below hbase j.dB fun g hg=>(j.d.own.lt g hg).1
  exact(j.x.trans hb1).trans ((((Below.refl w.heap.size w').alloc (fh1 hbase hsz) o)).grown g7 (by rw[World.size_alloc];omega) fun g hg=>(j.a.lt g hg).1)
end
theorem dw2 {written now:List F7} {k:Nat} (hk:k≤9999):∀r∈I6 written now k,0≤r.ln∧r.ln≤9999:=fun r hr=>by
 obtain⟨i,hi,_,rfl⟩:=aU1 hr
 show 0≤(i:Int)∧(i:Int)≤9999
 omega
theorem ce0 (written now:List F7) (k:Nat):(I6 written now k).length≤k:=by
 rw[aE3]
 unfold bw9
 exact fh1 (List.length_filter_le _ _) (by simp)
def R3 (pre:List (Rec × Bool)):List ByteArray:=(pre.filter fun x=>x.2).map fun x=>match x.1.en with|some y=>y.text|none=>⟨#[]⟩
theorem dw3 (pre:List (Rec × Bool)) (r:Rec):R3 (pre++[(r,false)])=R3 pre:=by unfold R3;rw[List.filter_append];simp
theorem di6 (pre:List (Rec × Bool)) (i:Int) (y:F7):R3 (pre++[(⟨i,some y⟩,true)])=R3 pre++[y.text]:=by unfold R3;rw[List.filter_append];simp
theorem di7 (pre:List (Rec × Bool)):(R3 pre).length≤pre.length:=by unfold R3;rw[fg5];exact List.length_filter_le _ _
theorem av2 {P:Program} {fn:Func} {p q r s:Tmp} {ty tz:TypeId} (h:fn.results= #[.tmp p,.cell q ty,.cell r tz,.tmp s]) (tmps:Array Value) (w:World) (g k:Nat) (t:TypeId) (cs:Array Value) (fr:Nat × Nat) (d:TypeDesc) (u:Value)
 (hq:tmps.getD q undef= .pointer (some ⟨g,0,none⟩)) (hr:tmps.getD r undef= .pointer (some ⟨k,0,none⟩)) (hg:w.heap[g]? =some (.cells cs t fr)) (hc:w.cell? ⟨k,0,none⟩=some u)
 (hu:P.underlying ty=some d) (hd:(match d with| .struct _| .array _ _=>true|_=>false)=true) (hi:(P.info? ty).map (·.size)=some cs.size) (hna:(isAgg tz).run P w= .ok false w):
 (results fn tmps).run P w= .ok (.tuple #[tmps.getD p undef,.agg cs,u,tmps.getD s undef]) w:=by
 have hq':tmps[q]?.getD undef= .pointer (some ⟨g,0,none⟩):=by simpa using hq
 have hr':tmps[r]?.getD undef= .pointer (some ⟨k,0,none⟩):=by simpa using hr
 have hl:=run_loadVar_row (P:=P) w g t ty cs fr d hg hu hd hi
 simp[results,h,hq',hr',asAddr,Sem.run_bind,hl]
 simp[loadVar,Sem.run_bind,hna,go_sem,hc]
theorem aF6 {w:World} {a:Addr} {v:Value} (h:w.cell? a=some v):w.setCell a v=w:=by
 have e:(w.setCell a v).heap=w.heap:=by
  apply Array.ext_getElem?
  intro i
  show(w.heap.modify a.block _)[i]? =_
  rw[Array.getElem?_modify]
  split
  ·rename_i hi
   subst hi
   unfold World.cell? at h
   cases hb:w.heap[a.block]? with
   |none=>rfl
   |some o=>
    rw[hb]at h
    cases o with
    |cells cs t fr=>
     simp only at h
     split at h
     ·cases h
     ·rename_i hs
      have hs':a.spot.isSome=false:=by simpa using hs
      simp only[Option.map_some,hs',Bool.false_eq_true,if_false,Option.some.injEq]
      congr 1
      apply Array.ext_getElem?
      intro j
      rw[Array.getElem?_setIfInBounds]
      split
      ·rename_i hj;subst hj
       split
       ·exact h.symm
       ·rename_i hlt;rw[Array.getElem?_eq_none (by omega)]at h;cases h
      ·rfl
    |_=>rfl
  ·rfl
 calc w.setCell a v={w with heap:=(w.setCell a v).heap}:=rfl
  _={w with heap:=w.heap}:=by rw[e]
  _=w:=rfl
theorem M9.drw {R:Nat} {T:TypeId} {w:World} {a b c d e f g h:Value} (r:M9 R T w a b c d e f g h):M9 R T w.drew a b c d e f g h:=⟨r.at_⟩
theorem M9.eg5 {R:Nat} {T:TypeId} {w:World} {a b c d e f g h:Value} (r:M9 R T w a b c d e f g h) (o:Obj):M9 R T (w.drew.alloc o) a b c d e f g h:=⟨(heap_alloc_old w.drew o r.lt).trans r.at_⟩
def noP (Q:Exit→Act→World→Prop):Exit→Act→World→Prop:=fun x a w=>match x with
 | .panic _=>False
 |x=>Q x a w
theorem dW8 {P:Program} {c:Code} {Q:Exit→Act→World→Prop} {a:Act} {w:World} (h:c.wp P (noP Q) a w):c.wp P Q a w:=Code.wp_mono (fun e a w=>by cases e<;>first|exact False.elim|exact fun h=>h) h
theorem cu8 (H:j5):Twn H (.slice none 0 0) (.slice none 0 0) (.slice none 0 0) (.slice none 0 0) (.slice none 0 0) (.slice none 0 0) cM4:=⟨⟨Sl.Y9 H,Sl.Y9 H,Sl.Y9 H,⟨by decide,by decide⟩⟩,⟨Sl.Y9 H,Sl.Y9 H,Sl.Y9 H,⟨by decide,by decide⟩⟩⟩
end
end Go.Proofs.YtbliehinagkldaaGreatDoor
