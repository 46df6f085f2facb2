/- Lemmas and walks on which the claims of this seat lean (names and blanks made short by a program): ODo4 ODo5 ODo6. -/
import Derived.Test.YtbliehinagkldaaGreatDoorG10

set_option linter.all false
set_option maxRecDepth 100000
set_option maxHeartbeats 16000000
open Go.Lib renaming hid → fe6
open Nat renaming add_zero → fh2
namespace Go.Proofs.YtbliehinagkldaaGreatDoor
section
open Go.RowKit
attribute [local go_sem] j4.drew j4.alloc j4.drewN WB.holds Oper.semAt_some Q9 O1 J7
theorem dv6 {He:j5} {base:Nat} {w:World} {D:Nat} {gm gb gt gu go' ga rv:Value} {g:D5} {recs:List Rec} (d:L8 He base w D gm gb gt gu go' ga rv g recs) (v:F6 g=true) (dr:Doors He) (line:Int) (hI:K8 line) (s:ByteArray) (hs:s.size≤10000) (hz:(J9 (C9 s)).size≤100000) (hq:(C9 s).length≤1000) (x b:ByteArray) (q:List ByteArray) (n:Int) (hsp:C9 s=x::b::q) (hk:(A7 (C9 s)).kind=0) (hnb:O5 b=some n) (h1:x≠Z6) (h2:x≠wAt) (h3:x≠ad5):
 Calls Tryz.prog 76 #[.pointer (some ⟨D,0,none⟩),.int .i64 line,.string s] w (X8 He base w D gm gb gt gu go' ga rv g (recs) (ai7)):=by
 have J5:=ab4 s (by omega) He dr w d.h
 rw[hsp]at hk hz hq J5
 have hxs:x.size≤100000:=by have:=J6 s x (by rw[hsp];simp);omega
 have hre:=fun(va:Value) (H1:j5) (W:World) (hW:j4 H1 W) (hle:D8 He H1) (ha:Sl H1 va (x::b::q))=>aa0 va x (b::q) (by simp at hq ⊢<;>omega) H1 (dr.mono hle) W hW ha hz hxs
 unfold P9 at hre
 have hk1:¬(A7 (x::b::q)).kind=1:=by rw[hk];decide
 simp only[if_neg hk1]at hre
 have hrq:=fun(va:Value) (H1:j5) (W:World) (hW:j4 H1 W) (hle:D8 He H1) (ha:Sl H1 va (x::b::q))=>ab3 va x (b::q) (by simp at hq ⊢<;>omega) H1 (dr.mono hle) W hW ha hxs
 unfold R4 at hrq
 simp only[show ¬(A7 (x::b::q)).kind=2 by rw[hk];decide,if_false]at hrq
 replace hre:=fe6 hre
 replace hrq:=fe6 hrq
 replace J5:=fe6 J5
 clear hk1
 obtain⟨N,hN⟩:∃N,Hid ((x::b::q).length=N):=⟨_,rfl⟩
 go_enter Tryz.func76,Tryz.ntmps76
 go_upto_region 2 with(go_at_call 117;refine J5.out.mono ?_;rintro e w1 ⟨_,H1,rfl,x1,s1⟩;obtain⟨a1,c1,e1,_,_⟩:=s1.form;rw[hN.out]at e1;subst e1)
 have l1:=x1.le d.h
 go_upto_region 9 with(go_at_call 118;refine(hre.out _ _ _ x1.holds l1 s1).mono ?_;rintro e w2 ⟨rfl,hb2⟩;have x2:=x1.step (hb2.mono x1.below.size) (x1.holds.below hb2))
 have x3:=x2.alloc (.cells #[.string ⟨#[]⟩,.nilFunc] 145)
 generalize w2.alloc (.cells #[.string ⟨#[]⟩,.nilFunc] 145)=w3 at*
 clear x1 x2 hb2 hre J5
 have hbz:b.size≤1000000:=by have:=J6 s b (by rw[hsp];simp);omega
 have hlq:(N:Int)=(q.length:Int)+2:=by rw[←hN.out];simp;omega
 have hl2:¬(N:Int)<2:=by omega
 have hl3:(1:Int)<(N:Int):=by omega
 have hN2:(2:Int)≤(N:Int):=by omega
 have hN0:(0:Int)<(N:Int):=by omega
 obtain⟨b1,o1,c1',he1,hbs,rb⟩:=s1.str (show At (x::b::q) 1 b from rfl)
 rw[hN.out]at he1
 cases he1
 obtain⟨b1',o1',aQ8,he1,aQ9,rx⟩:=s1.str (show At (x::b::q) 0 x from rfl)
 rw[hN.out]at he1
 cases he1
 simp only[fh2]at rx
 have F5:=fun(W:World) (va:Value) (H':j5) (hW:j4 H' W) (hle:D8 He H') (ha:Sl H' va [b])=>U5 va [b] (by simp) H' (dr.mono hle) W hW ha
 unfold V9 at F5
 rw[ai2,hnb]at F5
 replace F5:=fe6 F5
 replace hlq:=fe6 hlq
 go_upto_region 12 with(go_at_call 121;refine(hrq.out _ _ _ x3.holds l1 s1).mono ?_;rintro e w4 ⟨rfl,hb4⟩;have x4:=x3.step (hb4.mono x3.below.size) (x3.holds.below hb4))
 clear x3 hb4 hrq
 have hw4:=x4.holds
 have hNM:N-2=q.length:=by have:=hlq.out;omega
 obtain⟨M,hM⟩:∃M,q.length=M:=⟨_,rfl⟩
 rw[hM]at hNM
 obtain⟨aT,Z7⟩:∃aT,(if c1=2 then some (⟨b1,o1,none⟩:Addr)else some ⟨b1,o1+2,none⟩)=aT:=⟨_,rfl⟩
 have sT:=ak1 rfl s1 Z7
 rw[hM]at sT
 replace hM:=fe6 hM
 go_upto_region 17 with(go_at_call 123;obtain⟨H5,l5,x5,s5⟩:=am4 x4 b hbz;go_must (refine(F5.out _ _ _ x5.holds (l1.trans l5) s5).mono ?_);rintro e w6 ⟨nv,H6,rfl,y6,o6⟩;obtain⟨H7,y7,l7,s7,_⟩:=o6.close y6;obtain⟨b7,o7,c7,rfl,_,_⟩:=s7.int (show At [n] 0 n from rfl);have x7:=x5.trans y7;have l57:=l5.trans (y7.le x5.holds))
 obtain⟨_,_,_,he7,hin,rn⟩:=s7.int (show At [n] 0 n from rfl)
 cases he7
 simp only[fh2]at rn
 have hw7:=x7.holds
 have rx7:=lift l57 rx
 have sT7:=sT.mono l57
 have s17:=s1.mono l57
 clear x4 x5 y6 y7 o6 l5 l7 F5 hw4 rb rx s1 sT s5
 refine E8 H7 (by kernel_rfl) (by kernel_rfl) hw7 (fun hne=> ?_)
 repeat go_big_quiet_step((first|fail))
 refine wpQuiet_nil ?_
 rintro⟨w2,hw2,hb2⟩
 clear hne
 have x8:=x7.step (hb2.mono x7.below.size) hw2
 clear x7 hw7
 have e1:=j6 (l:=[114,101,97,100,115]) h1
 have e2:=j6 (l:=[97,116]) h2
 have e3:=j6 (l:=[108,105,110,101]) h3
 clear h1 h2 h3
 go_wp2
 go_ret
 exact⟨H7,rv,rfl,Only.of x8.below,fun b hb=>x8.same b hb,d.ext x8⟩
theorem dv7 {He:j5} {base:Nat} {w:World} {D:Nat} {gm gb gt gu go' ga rv:Value} {g:D5} {recs:List Rec} (d:L8 He base w D gm gb gt gu go' ga rv g recs) (v:F6 g=true) (dr:Doors He) (line:Int) (hI:K8 line) (s:ByteArray) (hs:s.size≤10000) (hz:(J9 (C9 s)).size≤100000) (hq:(C9 s).length≤1000) (x b:ByteArray) (q:List ByteArray) (n:Int) (hsp:C9 s=x::b::q) (hk:(A7 (C9 s)).kind=0) (hnb:O5 b=some n) (hx:x=Z6) (hq0:q≠[]):
 Calls Tryz.prog 76 #[.pointer (some ⟨D,0,none⟩),.int .i64 line,.string s] w (X8 He base w D gm gb gt gu go' ga rv g (recs) (ai7)):=by
 have J5:=ab4 s (by omega) He dr w d.h
 rw[hsp]at hk hz hq J5
 have hxs:x.size≤100000:=by have:=J6 s x (by rw[hsp];simp);omega
 have hre:=fun(va:Value) (H1:j5) (W:World) (hW:j4 H1 W) (hle:D8 He H1) (ha:Sl H1 va (x::b::q))=>aa0 va x (b::q) (by simp at hq ⊢<;>omega) H1 (dr.mono hle) W hW ha hz hxs
 unfold P9 at hre
 have hk1:¬(A7 (x::b::q)).kind=1:=by rw[hk];decide
 simp only[if_neg hk1]at hre
 have hrq:=fun(va:Value) (H1:j5) (W:World) (hW:j4 H1 W) (hle:D8 He H1) (ha:Sl H1 va (x::b::q))=>ab3 va x (b::q) (by simp at hq ⊢<;>omega) H1 (dr.mono hle) W hW ha hxs
 unfold R4 at hrq
 simp only[show ¬(A7 (x::b::q)).kind=2 by rw[hk];decide,if_false]at hrq
 replace hre:=fe6 hre
 replace hrq:=fe6 hrq
 replace J5:=fe6 J5
 clear hk1
 obtain⟨N,hN⟩:∃N,Hid ((x::b::q).length=N):=⟨_,rfl⟩
 go_enter Tryz.func76,Tryz.ntmps76
 go_upto_region 2 with(go_at_call 117;refine J5.out.mono ?_;rintro e w1 ⟨_,H1,rfl,x1,s1⟩;obtain⟨a1,c1,e1,_,_⟩:=s1.form;rw[hN.out]at e1;subst e1)
 have l1:=x1.le d.h
 go_upto_region 9 with(go_at_call 118;refine(hre.out _ _ _ x1.holds l1 s1).mono ?_;rintro e w2 ⟨rfl,hb2⟩;have x2:=x1.step (hb2.mono x1.below.size) (x1.holds.below hb2))
 have x3:=x2.alloc (.cells #[.string ⟨#[]⟩,.nilFunc] 145)
 generalize w2.alloc (.cells #[.string ⟨#[]⟩,.nilFunc] 145)=w3 at*
 clear x1 x2 hb2 hre J5
 have hbz:b.size≤1000000:=by have:=J6 s b (by rw[hsp];simp);omega
 have hlq:(N:Int)=(q.length:Int)+2:=by rw[←hN.out];simp;omega
 have hl2:¬(N:Int)<2:=by omega
 have hl3:(1:Int)<(N:Int):=by omega
 have hN2:(2:Int)≤(N:Int):=by omega
 have hN0:(0:Int)<(N:Int):=by omega
 obtain⟨b1,o1,c1',he1,hbs,rb⟩:=s1.str (show At (x::b::q) 1 b from rfl)
 rw[hN.out]at he1
 cases he1
 obtain⟨b1',o1',aQ8,he1,aQ9,rx⟩:=s1.str (show At (x::b::q) 0 x from rfl)
 rw[hN.out]at he1
 cases he1
 simp only[fh2]at rx
 have F5:=fun(W:World) (va:Value) (H':j5) (hW:j4 H' W) (hle:D8 He H') (ha:Sl H' va [b])=>U5 va [b] (by simp) H' (dr.mono hle) W hW ha
 unfold V9 at F5
 rw[ai2,hnb]at F5
 replace F5:=fe6 F5
 replace hlq:=fe6 hlq
 go_upto_region 12 with(go_at_call 121;refine(hrq.out _ _ _ x3.holds l1 s1).mono ?_;rintro e w4 ⟨rfl,hb4⟩;have x4:=x3.step (hb4.mono x3.below.size) (x3.holds.below hb4))
 clear x3 hb4 hrq
 have hw4:=x4.holds
 have hNM:N-2=q.length:=by have:=hlq.out;omega
 obtain⟨M,hM⟩:∃M,q.length=M:=⟨_,rfl⟩
 rw[hM]at hNM
 obtain⟨aT,Z7⟩:∃aT,(if c1=2 then some (⟨b1,o1,none⟩:Addr)else some ⟨b1,o1+2,none⟩)=aT:=⟨_,rfl⟩
 have sT:=ak1 rfl s1 Z7
 rw[hM]at sT
 replace hM:=fe6 hM
 go_upto_region 17 with(go_at_call 123;obtain⟨H5,l5,x5,s5⟩:=am4 x4 b hbz;go_must (refine(F5.out _ _ _ x5.holds (l1.trans l5) s5).mono ?_);rintro e w6 ⟨nv,H6,rfl,y6,o6⟩;obtain⟨H7,y7,l7,s7,_⟩:=o6.close y6;obtain⟨b7,o7,c7,rfl,_,_⟩:=s7.int (show At [n] 0 n from rfl);have x7:=x5.trans y7;have l57:=l5.trans (y7.le x5.holds))
 obtain⟨_,_,_,he7,hin,rn⟩:=s7.int (show At [n] 0 n from rfl)
 cases he7
 simp only[fh2]at rn
 have hw7:=x7.holds
 have rx7:=lift l57 rx
 have sT7:=sT.mono l57
 have s17:=s1.mono l57
 clear x4 x5 y6 y7 o6 l5 l7 F5 hw4 rb rx s1 sT s5
 refine E8 H7 (by kernel_rfl) (by kernel_rfl) hw7 (fun hne=> ?_)
 repeat go_big_quiet_step((first|fail))
 refine wpQuiet_nil ?_
 rintro⟨w2,hw2,hb2⟩
 clear hne
 have x8:=x7.step (hb2.mono x7.below.size) hw2
 clear x7 hw7
 have e1:=G8 (l:=[114,101,97,100,115]) hx
 have e2:=j6 (l:=[97,116]) (show x≠wAt by rw[hx];decide)
 have e3:=j6 (l:=[108,105,110,101]) (show x≠ad5 by rw[hx];decide)
 clear hx
 have hM0:((M:Int)==0)=false:=beq_eq_false_iff_ne.2 fun e=>hq0 (List.eq_nil_of_length_eq_zero (by have:=hM.out;omega))
 go_wp2
 go_ret
 exact⟨H7,rv,rfl,Only.of x8.below,fun b hb=>x8.same b hb,d.ext x8⟩
theorem dv8 {He:j5} {base:Nat} {w:World} {D:Nat} {gm gb gt gu go' ga rv:Value} {g:D5} {recs:List Rec} (d:L8 He base w D gm gb gt gu go' ga rv g recs) (v:F6 g=true) (dr:Doors He) (line:Int) (hI:K8 line) (s:ByteArray) (hs:s.size≤10000) (hz:(J9 (C9 s)).size≤100000) (hq:(C9 s).length≤1000) (x b:ByteArray) (q:List ByteArray) (n:Int) (hsp:C9 s=x::b::q) (hk:(A7 (C9 s)).kind=0) (hnb:O5 b=some n) (hx:x=wAt) (hq0:q=[]):
 Calls Tryz.prog 76 #[.pointer (some ⟨D,0,none⟩),.int .i64 line,.string s] w (X8 He base w D gm gb gt gu go' ga rv g (recs) (ai7)):=by
 have J5:=ab4 s (by omega) He dr w d.h
 rw[hsp]at hk hz hq J5
 have hxs:x.size≤100000:=by have:=J6 s x (by rw[hsp];simp);omega
 have hre:=fun(va:Value) (H1:j5) (W:World) (hW:j4 H1 W) (hle:D8 He H1) (ha:Sl H1 va (x::b::q))=>aa0 va x (b::q) (by simp at hq ⊢<;>omega) H1 (dr.mono hle) W hW ha hz hxs
 unfold P9 at hre
 have hk1:¬(A7 (x::b::q)).kind=1:=by rw[hk];decide
 simp only[if_neg hk1]at hre
 have hrq:=fun(va:Value) (H1:j5) (W:World) (hW:j4 H1 W) (hle:D8 He H1) (ha:Sl H1 va (x::b::q))=>ab3 va x (b::q) (by simp at hq ⊢<;>omega) H1 (dr.mono hle) W hW ha hxs
 unfold R4 at hrq
 simp only[show ¬(A7 (x::b::q)).kind=2 by rw[hk];decide,if_false]at hrq
 replace hre:=fe6 hre
 replace hrq:=fe6 hrq
 replace J5:=fe6 J5
 clear hk1
 obtain⟨N,hN⟩:∃N,Hid ((x::b::q).length=N):=⟨_,rfl⟩
 go_enter Tryz.func76,Tryz.ntmps76
 go_upto_region 2 with(go_at_call 117;refine J5.out.mono ?_;rintro e w1 ⟨_,H1,rfl,x1,s1⟩;obtain⟨a1,c1,e1,_,_⟩:=s1.form;rw[hN.out]at e1;subst e1)
 have l1:=x1.le d.h
 go_upto_region 9 with(go_at_call 118;refine(hre.out _ _ _ x1.holds l1 s1).mono ?_;rintro e w2 ⟨rfl,hb2⟩;have x2:=x1.step (hb2.mono x1.below.size) (x1.holds.below hb2))
 have x3:=x2.alloc (.cells #[.string ⟨#[]⟩,.nilFunc] 145)
 generalize w2.alloc (.cells #[.string ⟨#[]⟩,.nilFunc] 145)=w3 at*
 clear x1 x2 hb2 hre J5
 have hbz:b.size≤1000000:=by have:=J6 s b (by rw[hsp];simp);omega
 have hlq:(N:Int)=(q.length:Int)+2:=by rw[←hN.out];simp;omega
 have hl2:¬(N:Int)<2:=by omega
 have hl3:(1:Int)<(N:Int):=by omega
 have hN2:(2:Int)≤(N:Int):=by omega
 have hN0:(0:Int)<(N:Int):=by omega
 obtain⟨b1,o1,c1',he1,hbs,rb⟩:=s1.str (show At (x::b::q) 1 b from rfl)
 rw[hN.out]at he1
 cases he1
 obtain⟨b1',o1',aQ8,he1,aQ9,rx⟩:=s1.str (show At (x::b::q) 0 x from rfl)
 rw[hN.out]at he1
 cases he1
 simp only[fh2]at rx
 have F5:=fun(W:World) (va:Value) (H':j5) (hW:j4 H' W) (hle:D8 He H') (ha:Sl H' va [b])=>U5 va [b] (by simp) H' (dr.mono hle) W hW ha
 unfold V9 at F5
 rw[ai2,hnb]at F5
 replace F5:=fe6 F5
 replace hlq:=fe6 hlq
 go_upto_region 12 with(go_at_call 121;refine(hrq.out _ _ _ x3.holds l1 s1).mono ?_;rintro e w4 ⟨rfl,hb4⟩;have x4:=x3.step (hb4.mono x3.below.size) (x3.holds.below hb4))
 clear x3 hb4 hrq
 have hw4:=x4.holds
 have hNM:N-2=q.length:=by have:=hlq.out;omega
 obtain⟨M,hM⟩:∃M,q.length=M:=⟨_,rfl⟩
 rw[hM]at hNM
 obtain⟨aT,Z7⟩:∃aT,(if c1=2 then some (⟨b1,o1,none⟩:Addr)else some ⟨b1,o1+2,none⟩)=aT:=⟨_,rfl⟩
 have sT:=ak1 rfl s1 Z7
 rw[hM]at sT
 replace hM:=fe6 hM
 go_upto_region 17 with(go_at_call 123;obtain⟨H5,l5,x5,s5⟩:=am4 x4 b hbz;go_must (refine(F5.out _ _ _ x5.holds (l1.trans l5) s5).mono ?_);rintro e w6 ⟨nv,H6,rfl,y6,o6⟩;obtain⟨H7,y7,l7,s7,_⟩:=o6.close y6;obtain⟨b7,o7,c7,rfl,_,_⟩:=s7.int (show At [n] 0 n from rfl);have x7:=x5.trans y7;have l57:=l5.trans (y7.le x5.holds))
 obtain⟨_,_,_,he7,hin,rn⟩:=s7.int (show At [n] 0 n from rfl)
 cases he7
 simp only[fh2]at rn
 have hw7:=x7.holds
 have rx7:=lift l57 rx
 have sT7:=sT.mono l57
 have s17:=s1.mono l57
 clear x4 x5 y6 y7 o6 l5 l7 F5 hw4 rb rx s1 sT s5
 refine E8 H7 (by kernel_rfl) (by kernel_rfl) hw7 (fun hne=> ?_)
 repeat go_big_quiet_step((first|fail))
 refine wpQuiet_nil ?_
 rintro⟨w2,hw2,hb2⟩
 clear hne
 have x8:=x7.step (hb2.mono x7.below.size) hw2
 clear x7 hw7
 have e1:=j6 (l:=[114,101,97,100,115]) (show x≠Z6 by rw[hx];decide)
 have e2:=G8 (l:=[97,116]) hx
 have e3:=j6 (l:=[108,105,110,101]) (show x≠ad5 by rw[hx];decide)
 clear hx
 have hM0:¬0<(M:Int):=by have:=hM.out;rw[hq0]at this;simp at this;omega
 go_wp2
 go_ret
 exact⟨H7,rv,rfl,Only.of x8.below,fun b hb=>x8.same b hb,d.ext x8⟩
theorem cu5 {He:j5} {base:Nat} {w:World} {D:Nat} {gm gb gt gu go' ga rv:Value} {g:D5} {recs:List Rec} (d:L8 He base w D gm gb gt gu go' ga rv g recs) (v:F6 g=true) (dr:Doors He) (line:Int) (hI:K8 line) (s:ByteArray) (hs:s.size≤10000) (hz:(J9 (C9 s)).size≤100000) (hq:(C9 s).length≤1000) (x b:ByteArray) (q:List ByteArray) (n:Int) (hsp:C9 s=x::b::q) (hk:(A7 (C9 s)).kind=0) (hnb:O5 b=some n) (hx:x=ad5) (hq0:q.length≤1):
 Calls Tryz.prog 76 #[.pointer (some ⟨D,0,none⟩),.int .i64 line,.string s] w (X8 He base w D gm gb gt gu go' ga rv g (recs) (ai7)):=by
 have J5:=ab4 s (by omega) He dr w d.h
 rw[hsp]at hk hz hq J5
 have hxs:x.size≤100000:=by have:=J6 s x (by rw[hsp];simp);omega
 have hre:=fun(va:Value) (H1:j5) (W:World) (hW:j4 H1 W) (hle:D8 He H1) (ha:Sl H1 va (x::b::q))=>aa0 va x (b::q) (by simp at hq ⊢<;>omega) H1 (dr.mono hle) W hW ha hz hxs
 unfold P9 at hre
 have hk1:¬(A7 (x::b::q)).kind=1:=by rw[hk];decide
 simp only[if_neg hk1]at hre
 have hrq:=fun(va:Value) (H1:j5) (W:World) (hW:j4 H1 W) (hle:D8 He H1) (ha:Sl H1 va (x::b::q))=>ab3 va x (b::q) (by simp at hq ⊢<;>omega) H1 (dr.mono hle) W hW ha hxs
 unfold R4 at hrq
 simp only[show ¬(A7 (x::b::q)).kind=2 by rw[hk];decide,if_false]at hrq
 replace hre:=fe6 hre
 replace hrq:=fe6 hrq
 replace J5:=fe6 J5
 clear hk1
 obtain⟨N,hN⟩:∃N,Hid ((x::b::q).length=N):=⟨_,rfl⟩
 go_enter Tryz.func76,Tryz.ntmps76
 go_upto_region 2 with(go_at_call 117;refine J5.out.mono ?_;rintro e w1 ⟨_,H1,rfl,x1,s1⟩;obtain⟨a1,c1,e1,_,_⟩:=s1.form;rw[hN.out]at e1;subst e1)
 have l1:=x1.le d.h
 go_upto_region 9 with(go_at_call 118;refine(hre.out _ _ _ x1.holds l1 s1).mono ?_;rintro e w2 ⟨rfl,hb2⟩;have x2:=x1.step (hb2.mono x1.below.size) (x1.holds.below hb2))
 have x3:=x2.alloc (.cells #[.string ⟨#[]⟩,.nilFunc] 145)
 generalize w2.alloc (.cells #[.string ⟨#[]⟩,.nilFunc] 145)=w3 at*
 clear x1 x2 hb2 hre J5
 have hbz:b.size≤1000000:=by have:=J6 s b (by rw[hsp];simp);omega
 have hlq:(N:Int)=(q.length:Int)+2:=by rw[←hN.out];simp;omega
 have hl2:¬(N:Int)<2:=by omega
 have hl3:(1:Int)<(N:Int):=by omega
 have hN2:(2:Int)≤(N:Int):=by omega
 have hN0:(0:Int)<(N:Int):=by omega
 obtain⟨b1,o1,c1',he1,hbs,rb⟩:=s1.str (show At (x::b::q) 1 b from rfl)
 rw[hN.out]at he1
 cases he1
 obtain⟨b1',o1',aQ8,he1,aQ9,rx⟩:=s1.str (show At (x::b::q) 0 x from rfl)
 rw[hN.out]at he1
 cases he1
 simp only[fh2]at rx
 have F5:=fun(W:World) (va:Value) (H':j5) (hW:j4 H' W) (hle:D8 He H') (ha:Sl H' va [b])=>U5 va [b] (by simp) H' (dr.mono hle) W hW ha
 unfold V9 at F5
 rw[ai2,hnb]at F5
 replace F5:=fe6 F5
 replace hlq:=fe6 hlq
 go_upto_region 12 with(go_at_call 121;refine(hrq.out _ _ _ x3.holds l1 s1).mono ?_;rintro e w4 ⟨rfl,hb4⟩;have x4:=x3.step (hb4.mono x3.below.size) (x3.holds.below hb4))
 clear x3 hb4 hrq
 have hw4:=x4.holds
 have hNM:N-2=q.length:=by have:=hlq.out;omega
 obtain⟨M,hM⟩:∃M,q.length=M:=⟨_,rfl⟩
 rw[hM]at hNM
 obtain⟨aT,Z7⟩:∃aT,(if c1=2 then some (⟨b1,o1,none⟩:Addr)else some ⟨b1,o1+2,none⟩)=aT:=⟨_,rfl⟩
 have sT:=ak1 rfl s1 Z7
 rw[hM]at sT
 replace hM:=fe6 hM
 go_upto_region 17 with(go_at_call 123;obtain⟨H5,l5,x5,s5⟩:=am4 x4 b hbz;go_must (refine(F5.out _ _ _ x5.holds (l1.trans l5) s5).mono ?_);rintro e w6 ⟨nv,H6,rfl,y6,o6⟩;obtain⟨H7,y7,l7,s7,_⟩:=o6.close y6;obtain⟨b7,o7,c7,rfl,_,_⟩:=s7.int (show At [n] 0 n from rfl);have x7:=x5.trans y7;have l57:=l5.trans (y7.le x5.holds))
 obtain⟨_,_,_,he7,hin,rn⟩:=s7.int (show At [n] 0 n from rfl)
 cases he7
 simp only[fh2]at rn
 have hw7:=x7.holds
 have rx7:=lift l57 rx
 have sT7:=sT.mono l57
 have s17:=s1.mono l57
 clear x4 x5 y6 y7 o6 l5 l7 F5 hw4 rb rx s1 sT s5
 refine E8 H7 (by kernel_rfl) (by kernel_rfl) hw7 (fun hne=> ?_)
 repeat go_big_quiet_step((first|fail))
 refine wpQuiet_nil ?_
 rintro⟨w2,hw2,hb2⟩
 clear hne
 have x8:=x7.step (hb2.mono x7.below.size) hw2
 clear x7 hw7
 have e1:=j6 (l:=[114,101,97,100,115]) (show x≠Z6 by rw[hx];decide)
 have e2:=j6 (l:=[97,116]) (show x≠wAt by rw[hx];decide)
 have e3:=G8 (l:=[108,105,110,101]) hx
 clear hx
 have hM0:¬1<(M:Int):=by have:=hM.out;omega
 go_wp2
 go_ret
 exact⟨H7,rv,rfl,Only.of x8.below,fun b hb=>x8.same b hb,d.ext x8⟩
theorem dv9 {He:j5} {base:Nat} {w:World} {D:Nat} {gm gb gt gu go' ga rv:Value} {g:D5} {recs:List Rec} (d:L8 He base w D gm gb gt gu go' ga rv g recs) (v:F6 g=true) (dr:Doors He) (line:Int) (hI:K8 line) (s:ByteArray) (hs:s.size≤10000) (hz:(J9 (C9 s)).size≤100000) (hq:(C9 s).length≤1000) (x b:ByteArray) (q:List ByteArray) (n:Int) (hsp:C9 s=x::b::q) (hk:(A7 (C9 s)).kind=0) (hnb:O5 b=some n) (y:ByteArray) (q':List ByteArray) (hq':q=y::q') (hx:x=ad5) (hq0:1<q.length) (hy:y≠wIs):
 Calls Tryz.prog 76 #[.pointer (some ⟨D,0,none⟩),.int .i64 line,.string s] w (X8 He base w D gm gb gt gu go' ga rv g (recs) (ai7)):=by
 have J5:=ab4 s (by omega) He dr w d.h
 rw[hsp]at hk hz hq J5
 have hxs:x.size≤100000:=by have:=J6 s x (by rw[hsp];simp);omega
 have hre:=fun(va:Value) (H1:j5) (W:World) (hW:j4 H1 W) (hle:D8 He H1) (ha:Sl H1 va (x::b::q))=>aa0 va x (b::q) (by simp at hq ⊢<;>omega) H1 (dr.mono hle) W hW ha hz hxs
 unfold P9 at hre
 have hk1:¬(A7 (x::b::q)).kind=1:=by rw[hk];decide
 simp only[if_neg hk1]at hre
 have hrq:=fun(va:Value) (H1:j5) (W:World) (hW:j4 H1 W) (hle:D8 He H1) (ha:Sl H1 va (x::b::q))=>ab3 va x (b::q) (by simp at hq ⊢<;>omega) H1 (dr.mono hle) W hW ha hxs
 unfold R4 at hrq
 simp only[show ¬(A7 (x::b::q)).kind=2 by rw[hk];decide,if_false]at hrq
 replace hre:=fe6 hre
 replace hrq:=fe6 hrq
 replace J5:=fe6 J5
 clear hk1
 obtain⟨N,hN⟩:∃N,Hid ((x::b::q).length=N):=⟨_,rfl⟩
 go_enter Tryz.func76,Tryz.ntmps76
 go_upto_region 2 with(go_at_call 117;refine J5.out.mono ?_;rintro e w1 ⟨_,H1,rfl,x1,s1⟩;obtain⟨a1,c1,e1,_,_⟩:=s1.form;rw[hN.out]at e1;subst e1)
 have l1:=x1.le d.h
 go_upto_region 9 with(go_at_call 118;refine(hre.out _ _ _ x1.holds l1 s1).mono ?_;rintro e w2 ⟨rfl,hb2⟩;have x2:=x1.step (hb2.mono x1.below.size) (x1.holds.below hb2))
 have x3:=x2.alloc (.cells #[.string ⟨#[]⟩,.nilFunc] 145)
 generalize w2.alloc (.cells #[.string ⟨#[]⟩,.nilFunc] 145)=w3 at*
 clear x1 x2 hb2 hre J5
 have hbz:b.size≤1000000:=by have:=J6 s b (by rw[hsp];simp);omega
 have hlq:(N:Int)=(q.length:Int)+2:=by rw[←hN.out];simp;omega
 have hl2:¬(N:Int)<2:=by omega
 have hl3:(1:Int)<(N:Int):=by omega
 have hN2:(2:Int)≤(N:Int):=by omega
 have hN0:(0:Int)<(N:Int):=by omega
 obtain⟨b1,o1,c1',he1,hbs,rb⟩:=s1.str (show At (x::b::q) 1 b from rfl)
 rw[hN.out]at he1
 cases he1
 obtain⟨b1',o1',aQ8,he1,aQ9,rx⟩:=s1.str (show At (x::b::q) 0 x from rfl)
 rw[hN.out]at he1
 cases he1
 simp only[fh2]at rx
 have F5:=fun(W:World) (va:Value) (H':j5) (hW:j4 H' W) (hle:D8 He H') (ha:Sl H' va [b])=>U5 va [b] (by simp) H' (dr.mono hle) W hW ha
 unfold V9 at F5
 rw[ai2,hnb]at F5
 replace F5:=fe6 F5
 replace hlq:=fe6 hlq
 go_upto_region 12 with(go_at_call 121;refine(hrq.out _ _ _ x3.holds l1 s1).mono ?_;rintro e w4 ⟨rfl,hb4⟩;have x4:=x3.step (hb4.mono x3.below.size) (x3.holds.below hb4))
 clear x3 hb4 hrq
 have hw4:=x4.holds
 have hNM:N-2=q.length:=by have:=hlq.out;omega
 obtain⟨M,hM⟩:∃M,q.length=M:=⟨_,rfl⟩
 rw[hM]at hNM
 obtain⟨aT,Z7⟩:∃aT,(if c1=2 then some (⟨b1,o1,none⟩:Addr)else some ⟨b1,o1+2,none⟩)=aT:=⟨_,rfl⟩
 have sT:=ak1 rfl s1 Z7
 rw[hM]at sT
 replace hM:=fe6 hM
 go_upto_region 17 with(go_at_call 123;obtain⟨H5,l5,x5,s5⟩:=am4 x4 b hbz;go_must (refine(F5.out _ _ _ x5.holds (l1.trans l5) s5).mono ?_);rintro e w6 ⟨nv,H6,rfl,y6,o6⟩;obtain⟨H7,y7,l7,s7,_⟩:=o6.close y6;obtain⟨b7,o7,c7,rfl,_,_⟩:=s7.int (show At [n] 0 n from rfl);have x7:=x5.trans y7;have l57:=l5.trans (y7.le x5.holds))
 obtain⟨_,_,_,he7,hin,rn⟩:=s7.int (show At [n] 0 n from rfl)
 cases he7
 simp only[fh2]at rn
 have hw7:=x7.holds
 have rx7:=lift l57 rx
 have sT7:=sT.mono l57
 have s17:=s1.mono l57
 clear x4 x5 y6 y7 o6 l5 l7 F5 hw4 rb rx s1 sT s5
 refine E8 H7 (by kernel_rfl) (by kernel_rfl) hw7 (fun hne=> ?_)
 repeat go_big_quiet_step((first|fail))
 refine wpQuiet_nil ?_
 rintro⟨w2,hw2,hb2⟩
 clear hne
 have x8:=x7.step (hb2.mono x7.below.size) hw2
 clear x7 hw7
 have e1:=j6 (l:=[114,101,97,100,115]) (show x≠Z6 by rw[hx];decide)
 have e2:=j6 (l:=[97,116]) (show x≠wAt by rw[hx];decide)
 have e3:=G8 (l:=[108,105,110,101]) hx
 clear hx
 subst hq'
 have hM0:1<(M:Int):=by have:=hM.out;omega
 have hM1:0<(M:Int):=by omega
 have ei:=j6 (l:=[105,115]) hy
 obtain⟨by',oy,cy,hey,hys,ry⟩:=sT7.str (show At (y::q') 0 y from rfl)
 rw[hM.out]at hey
 cases hey
 simp only[fh2]at ry
 go_wp2
 go_ret
 exact⟨H7,rv,rfl,Only.of x8.below,fun b hb=>x8.same b hb,d.ext x8⟩
end
section
open Go.RowKit
attribute [local go_sem] j4.drew j4.alloc j4.drewN WB.holds Oper.semAt_some Q9 O1 J7
theorem dw0 {He:j5} {base:Nat} {w:World} {D:Nat} {gm gb gt gu go' ga rv:Value} {g:D5} {recs:List Rec} (d:L8 He base w D gm gb gt gu go' ga rv g recs) (v:F6 g=true) (dr:Doors He) (line:Int) (hI:K8 line) (s:ByteArray) (hs:s.size≤10000) (hz:(J9 (C9 s)).size≤100000) (hq:(C9 s).length≤1000) (x b:ByteArray) (q:List ByteArray) (n:Int) (hsp:C9 s=x::b::q) (hk:(A7 (C9 s)).kind=0) (hnb:O5 b=some n) (hx:x=Z6) (hq0:q=[]):
 Calls Tryz.prog 76 #[.pointer (some ⟨D,0,none⟩),.int .i64 line,.string s] w (X8 He base w D gm gb gt gu go' ga rv g (recs) (bg5 recs n line)):=by
 obtain⟨S,hS⟩:∃S,Hid (bg5 recs n line=S):=⟨_,rfl⟩
 rw[hS.out]
 have J5:=ab4 s (by omega) He dr w d.h
 rw[hsp]at hk hz hq J5
 have hxs:x.size≤100000:=by have:=J6 s x (by rw[hsp];simp);omega
 have hre:=fun(va:Value) (H1:j5) (W:World) (hW:j4 H1 W) (hle:D8 He H1) (ha:Sl H1 va (x::b::q))=>aa0 va x (b::q) (by simp at hq ⊢<;>omega) H1 (dr.mono hle) W hW ha hz hxs
 unfold P9 at hre
 have hk1:¬(A7 (x::b::q)).kind=1:=by rw[hk];decide
 simp only[if_neg hk1]at hre
 have hrq:=fun(va:Value) (H1:j5) (W:World) (hW:j4 H1 W) (hle:D8 He H1) (ha:Sl H1 va (x::b::q))=>ab3 va x (b::q) (by simp at hq ⊢<;>omega) H1 (dr.mono hle) W hW ha hxs
 unfold R4 at hrq
 simp only[show ¬(A7 (x::b::q)).kind=2 by rw[hk];decide,if_false]at hrq
 replace hre:=fe6 hre
 replace hrq:=fe6 hrq
 replace J5:=fe6 J5
 clear hk1
 obtain⟨N,hN⟩:∃N,Hid ((x::b::q).length=N):=⟨_,rfl⟩
 go_enter Tryz.func76,Tryz.ntmps76
 go_upto_region 2 with(go_at_call 117;refine J5.out.mono ?_;rintro e w1 ⟨_,H1,rfl,x1,s1⟩;obtain⟨a1,c1,e1,_,_⟩:=s1.form;rw[hN.out]at e1;subst e1)
 have l1:=x1.le d.h
 go_upto_region 9 with(go_at_call 118;refine(hre.out _ _ _ x1.holds l1 s1).mono ?_;rintro e w2 ⟨rfl,hb2⟩;have x2:=x1.step (hb2.mono x1.below.size) (x1.holds.below hb2))
 have x3:=x2.alloc (.cells #[.string ⟨#[]⟩,.nilFunc] 145)
 generalize w2.alloc (.cells #[.string ⟨#[]⟩,.nilFunc] 145)=w3 at*
 clear x1 x2 hb2 hre J5
 have hbz:b.size≤1000000:=by have:=J6 s b (by rw[hsp];simp);omega
 have hlq:(N:Int)=(q.length:Int)+2:=by rw[←hN.out];simp;omega
 have hl2:¬(N:Int)<2:=by omega
 have hl3:(1:Int)<(N:Int):=by omega
 have hN2:(2:Int)≤(N:Int):=by omega
 have hN0:(0:Int)<(N:Int):=by omega
 obtain⟨b1,o1,c1',he1,hbs,rb⟩:=s1.str (show At (x::b::q) 1 b from rfl)
 rw[hN.out]at he1
 cases he1
 obtain⟨b1',o1',aQ8,he1,aQ9,rx⟩:=s1.str (show At (x::b::q) 0 x from rfl)
 rw[hN.out]at he1
 cases he1
 simp only[fh2]at rx
 have F5:=fun(W:World) (va:Value) (H':j5) (hW:j4 H' W) (hle:D8 He H') (ha:Sl H' va [b])=>U5 va [b] (by simp) H' (dr.mono hle) W hW ha
 unfold V9 at F5
 rw[ai2,hnb]at F5
 replace F5:=fe6 F5
 replace hlq:=fe6 hlq
 go_upto_region 12 with(go_at_call 121;refine(hrq.out _ _ _ x3.holds l1 s1).mono ?_;rintro e w4 ⟨rfl,hb4⟩;have x4:=x3.step (hb4.mono x3.below.size) (x3.holds.below hb4))
 clear x3 hb4 hrq
 have hw4:=x4.holds
 have hNM:N-2=q.length:=by have:=hlq.out;omega
 obtain⟨M,hM⟩:∃M,q.length=M:=⟨_,rfl⟩
 rw[hM]at hNM
 obtain⟨aT,Z7⟩:∃aT,(if c1=2 then some (⟨b1,o1,none⟩:Addr)else some ⟨b1,o1+2,none⟩)=aT:=⟨_,rfl⟩
 have sT:=ak1 rfl s1 Z7
 rw[hM]at sT
 replace hM:=fe6 hM
 go_upto_region 17 with(go_at_call 123;obtain⟨H5,l5,x5,s5⟩:=am4 x4 b hbz;go_must (refine(F5.out _ _ _ x5.holds (l1.trans l5) s5).mono ?_);rintro e w6 ⟨nv,H6,rfl,y6,o6⟩;obtain⟨H7,y7,l7,s7,_⟩:=o6.close y6;obtain⟨b7,o7,c7,rfl,_,_⟩:=s7.int (show At [n] 0 n from rfl);have x7:=x5.trans y7;have l57:=l5.trans (y7.le x5.holds))
 obtain⟨_,_,_,he7,hin,rn⟩:=s7.int (show At [n] 0 n from rfl)
 cases he7
 simp only[fh2]at rn
 have hw7:=x7.holds
 have rx7:=lift l57 rx
 have sT7:=sT.mono l57
 have s17:=s1.mono l57
 clear x4 x5 y6 y7 o6 l5 l7 F5 hw4 rb rx s1 sT s5
 refine E8 H7 (by kernel_rfl) (by kernel_rfl) hw7 (fun hne=> ?_)
 repeat go_big_quiet_step((first|fail))
 refine wpQuiet_nil ?_
 rintro⟨w2,hw2,hb2⟩
 clear hne
 have x8:=x7.step (hb2.mono x7.below.size) hw2
 clear x7 hw7
 have e1:=G8 (l:=[114,101,97,100,115]) hx
 have e2:=j6 (l:=[97,116]) (show x≠wAt by rw[hx];decide)
 have e3:=j6 (l:=[108,105,110,101]) (show x≠ad5 by rw[hx];decide)
 clear hx
 have hM0:((M:Int)==0)=true:=beq_iff_eq.2 (by have:=hM.out;rw[hq0]at this;simp at this;omega)
 have d8:=d.ext x8
 dsimp only
 have hfind:=cs3 d8 n line
 cases hf:av8 recs n line with
 |none=>
  rw[hf]at hfind
  replace hfind:=fe6 hfind
  have aC6:Hid (S=at0):=by show _=_;rw[←hS.out];unfold bg5;rw[hf]
  clear hf hS
  go_wp2_with(first|((go_at_call 124;refine hfind.out.mono ?_;rintro e w9 ⟨hb9,_,rfl,rfl⟩;have x9:=x8.step (hb9.mono x8.below.size) (x8.holds.below hb9))))
  go_ret
  rw[aC6.out]
  exact⟨H7,rv,rfl,Only.of x9.below,fun b hb=>x9.same b hb,d.ext x9⟩
 |some k=>
  rw[hf]at hfind
  obtain⟨r,hrk,_,_⟩:=bI6 hf
  have hrd:=hrk.du8
  have aC6:Hid (S=match r.en with|none=>au8|some x=>x.text):=by
   show _=_
   rw[←hS.out]
   unfold bg5
   rw[hf]
   show(match (recs.getD k default).en with|none=>au8|some x=>x.text)=_
   rw[hrd]
  replace hfind:=fe6 hfind
  clear hf hS
  go_upto_region 20 with(go_at_call 124;refine hfind.out.mono ?_;rintro e w9 ⟨hb9,_,rfl,hk9,br,or',cr,hrv,rfl⟩;have x9:=x8.step (hb9.mono x8.below.size) (x8.holds.below hb9))
  have d9:=d8.below hb9
  subst hrv
  obtain⟨gr,hgr⟩:=d9.own.addr rfl (by have:=hrk.lt;omega)
  cases hgr
  obtain⟨ds,⟨pj,hds,hij,hpj⟩,_,_,_,hcr,_⟩:=d9.own.as9 hrk
  have du9:=hcr 1 _ (by rw[hds];rfl)
  simp only[Enc.sz,Nat.zero_add]at du9
  have hw9:=x9.holds
  clear hcr hds x8 hb9 d8 hfind
  cases hen:r.en with
  |none=>
   rw[hen]at hpj aC6
   obtain rfl:pj= .pointer none:=hpj
   go_wp2
   go_ret
   rw[aC6.out]
   exact⟨H7,_,rfl,Only.of x9.below,fun b hb=>x9.same b hb,d.ext x9⟩
  |some en=>
   rw[hen]at hpj aC6
   obtain⟨E,rfl,fv,hE,_⟩:=hpj
   have he0:=D7 hE hw9 0
   simp at he0
   go_wp2
   go_ret
   rw[aC6.out]
   exact⟨H7,_,rfl,Only.of x9.below,fun b hb=>x9.same b hb,d.ext x9⟩
end
section
open Go.RowKit
attribute [local go_sem] j4.drew j4.alloc j4.drewN WB.holds Oper.semAt_some Q9 O1 J7
theorem dw1 {He:j5} {base:Nat} {w:World} {D:Nat} {gm gb gt gu go' ga rv:Value} {g:D5} {recs:List Rec} (d:L8 He base w D gm gb gt gu go' ga rv g recs) (v:F6 g=true) (dr:Doors He) (line:Int) (hI:K8 line) (s:ByteArray) (hs:s.size≤10000) (hz:(J9 (C9 s)).size≤100000) (hq:(C9 s).length≤1000) (x b y:ByteArray) (q':List ByteArray) (n:Int) (hsp:C9 s=x::b::y::q') (hk:(A7 (C9 s)).kind=0) (hnb:O5 b=some n) (hx:x=wAt) (hk2:¬(A7 (y::q')).kind=2):
 Calls Tryz.prog 76 #[.pointer (some ⟨D,0,none⟩),.int .i64 line,.string s] w (X8 He base w D gm gb gt gu go' ga rv g (recs) (ai7)):=by
 have hql:q'.length≤1000:=by rw[hsp]at hq;simp at hq;omega
 have hyz:y.size≤100000:=by have:=J6 s y (by rw[hsp];simp);omega
 obtain⟨q,hqe⟩:∃q,y::q'=q:=⟨_,rfl⟩
 rw[hqe]at hsp
 have J5:=ab4 s (by omega) He dr w d.h
 rw[hsp]at hk hz hq J5
 have hxs:x.size≤100000:=by have:=J6 s x (by rw[hsp];simp);omega
 have hre:=fun(va:Value) (H1:j5) (W:World) (hW:j4 H1 W) (hle:D8 He H1) (ha:Sl H1 va (x::b::q))=>aa0 va x (b::q) (by simp at hq ⊢<;>omega) H1 (dr.mono hle) W hW ha hz hxs
 unfold P9 at hre
 have hk1:¬(A7 (x::b::q)).kind=1:=by rw[hk];decide
 simp only[if_neg hk1]at hre
 have hrq:=fun(va:Value) (H1:j5) (W:World) (hW:j4 H1 W) (hle:D8 He H1) (ha:Sl H1 va (x::b::q))=>ab3 va x (b::q) (by simp at hq ⊢<;>omega) H1 (dr.mono hle) W hW ha hxs
 unfold R4 at hrq
 simp only[show ¬(A7 (x::b::q)).kind=2 by rw[hk];decide,if_false]at hrq
 replace hre:=fe6 hre
 replace hrq:=fe6 hrq
 replace J5:=fe6 J5
 clear hk1
 obtain⟨N,hN⟩:∃N,Hid ((x::b::q).length=N):=⟨_,rfl⟩
 go_enter Tryz.func76,Tryz.ntmps76
 go_upto_region 2 with(go_at_call 117;refine J5.out.mono ?_;rintro e w1 ⟨_,H1,rfl,x1,s1⟩;obtain⟨a1,c1,e1,_,_⟩:=s1.form;rw[hN.out]at e1;subst e1)
 have l1:=x1.le d.h
 go_upto_region 9 with(go_at_call 118;refine(hre.out _ _ _ x1.holds l1 s1).mono ?_;rintro e w2 ⟨rfl,hb2⟩;have x2:=x1.step (hb2.mono x1.below.size) (x1.holds.below hb2))
 have x3:=x2.alloc (.cells #[.string ⟨#[]⟩,.nilFunc] 145)
 generalize w2.alloc (.cells #[.string ⟨#[]⟩,.nilFunc] 145)=w3 at*
 clear x1 x2 hb2 hre J5
 have hbz:b.size≤1000000:=by have:=J6 s b (by rw[hsp];simp);omega
 have hlq:(N:Int)=(q.length:Int)+2:=by rw[←hN.out];simp;omega
 have hl2:¬(N:Int)<2:=by omega
 have hl3:(1:Int)<(N:Int):=by omega
 have hN2:(2:Int)≤(N:Int):=by omega
 have hN0:(0:Int)<(N:Int):=by omega
 obtain⟨b1,o1,c1',he1,hbs,rb⟩:=s1.str (show At (x::b::q) 1 b from rfl)
 rw[hN.out]at he1
 cases he1
 obtain⟨b1',o1',aQ8,he1,aQ9,rx⟩:=s1.str (show At (x::b::q) 0 x from rfl)
 rw[hN.out]at he1
 cases he1
 simp only[fh2]at rx
 have F5:=fun(W:World) (va:Value) (H':j5) (hW:j4 H' W) (hle:D8 He H') (ha:Sl H' va [b])=>U5 va [b] (by simp) H' (dr.mono hle) W hW ha
 unfold V9 at F5
 rw[ai2,hnb]at F5
 replace F5:=fe6 F5
 replace hlq:=fe6 hlq
 go_upto_region 12 with(go_at_call 121;refine(hrq.out _ _ _ x3.holds l1 s1).mono ?_;rintro e w4 ⟨rfl,hb4⟩;have x4:=x3.step (hb4.mono x3.below.size) (x3.holds.below hb4))
 clear x3 hb4 hrq
 have hw4:=x4.holds
 have hNM:N-2=q.length:=by have:=hlq.out;omega
 obtain⟨M,hM⟩:∃M,q.length=M:=⟨_,rfl⟩
 rw[hM]at hNM
 obtain⟨aT,Z7⟩:∃aT,(if c1=2 then some (⟨b1,o1,none⟩:Addr)else some ⟨b1,o1+2,none⟩)=aT:=⟨_,rfl⟩
 have sT:=ak1 rfl s1 Z7
 rw[hM]at sT
 replace hM:=fe6 hM
 go_upto_region 17 with(go_at_call 123;obtain⟨H5,l5,x5,s5⟩:=am4 x4 b hbz;go_must (refine(F5.out _ _ _ x5.holds (l1.trans l5) s5).mono ?_);rintro e w6 ⟨nv,H6,rfl,y6,o6⟩;obtain⟨H7,y7,l7,s7,_⟩:=o6.close y6;obtain⟨b7,o7,c7,rfl,_,_⟩:=s7.int (show At [n] 0 n from rfl);have x7:=x5.trans y7;have l57:=l5.trans (y7.le x5.holds))
 obtain⟨_,_,_,he7,hin,rn⟩:=s7.int (show At [n] 0 n from rfl)
 cases he7
 simp only[fh2]at rn
 have hw7:=x7.holds
 have rx7:=lift l57 rx
 have sT7:=sT.mono l57
 have s17:=s1.mono l57
 clear x4 x5 y6 y7 o6 l5 l7 F5 hw4 rb rx s1 sT s5
 refine E8 H7 (by kernel_rfl) (by kernel_rfl) hw7 (fun hne=> ?_)
 repeat go_big_quiet_step((first|fail))
 refine wpQuiet_nil ?_
 rintro⟨w2,hw2,hb2⟩
 clear hne
 have x8:=x7.step (hb2.mono x7.below.size) hw2
 clear x7 hw7
 have l8:=x8.le d.h
 have aC8:=hqe.symm
 subst aC8
 have hM0:0<(M:Int):=by have:=hM.out;simp at this;omega
 have e1:=j6 (l:=[114,101,97,100,115]) (show x≠Z6 by rw[hx];decide)
 have e2:=G8 (l:=[97,116]) hx
 have e3:=j6 (l:=[108,105,110,101]) (show x≠ad5 by rw[hx];decide)
 clear hx
 have aw7:=fun(va:Value) (H':j5) (W:World) (hW:j4 H' W) (hle:D8 He H') (ha:Sl H' va (y::q'))=>ab3 va y q' hql H' (dr.mono hle) W hW ha hyz
 unfold R4 at aw7
 simp only[hk2,if_false]at aw7
 replace aw7:=fe6 aw7
 dsimp only
 go_wp2_with(first|((go_at_call 121;refine(aw7.out _ _ _ x8.holds l8 sT7).mono ?_;rintro e w9 ⟨rfl,hb9⟩;have x9:=x8.step (hb9.mono x8.below.size) (x8.holds.below hb9))))
 go_ret
 exact⟨H7,rv,rfl,Only.of x9.below,fun b hb=>x9.same b hb,d.ext x9⟩
theorem cD4 {He:j5} {base:Nat} {w:World} {D:Nat} {gm gb gt gu go' ga rv:Value} {g:D5} {recs:List Rec} (d:L8 He base w D gm gb gt gu go' ga rv g recs) (v:F6 g=true) (dr:Doors He) (line:Int) (hI:K8 line) (s:ByteArray) (hs:s.size≤10000) (hz:(J9 (C9 s)).size≤100000) (hq:(C9 s).length≤1000) (x b y:ByteArray) (q':List ByteArray) (n:Int) (hsp:C9 s=x::b::y::q') (hk:(A7 (C9 s)).kind=0) (hnb:O5 b=some n) (hx:x=wAt) (hk2:(A7 (y::q')).kind=2) (hn:¬(0≤n∧n≤line)):
 Calls Tryz.prog 76 #[.pointer (some ⟨D,0,none⟩),.int .i64 line,.string s] w (X8 He base w D gm gb gt gu go' ga rv g (recs) (at0)):=by
 have hql:q'.length≤1000:=by rw[hsp]at hq;simp at hq;omega
 have hyz:y.size≤100000:=by have:=J6 s y (by rw[hsp];simp);omega
 obtain⟨q,hqe⟩:∃q,y::q'=q:=⟨_,rfl⟩
 rw[hqe]at hsp
 have J5:=ab4 s (by omega) He dr w d.h
 rw[hsp]at hk hz hq J5
 have hxs:x.size≤100000:=by have:=J6 s x (by rw[hsp];simp);omega
 have hre:=fun(va:Value) (H1:j5) (W:World) (hW:j4 H1 W) (hle:D8 He H1) (ha:Sl H1 va (x::b::q))=>aa0 va x (b::q) (by simp at hq ⊢<;>omega) H1 (dr.mono hle) W hW ha hz hxs
 unfold P9 at hre
 have hk1:¬(A7 (x::b::q)).kind=1:=by rw[hk];decide
 simp only[if_neg hk1]at hre
 have hrq:=fun(va:Value) (H1:j5) (W:World) (hW:j4 H1 W) (hle:D8 He H1) (ha:Sl H1 va (x::b::q))=>ab3 va x (b::q) (by simp at hq ⊢<;>omega) H1 (dr.mono hle) W hW ha hxs
 unfold R4 at hrq
 simp only[show ¬(A7 (x::b::q)).kind=2 by rw[hk];decide,if_false]at hrq
 replace hre:=fe6 hre
 replace hrq:=fe6 hrq
 replace J5:=fe6 J5
 clear hk1
 obtain⟨N,hN⟩:∃N,Hid ((x::b::q).length=N):=⟨_,rfl⟩
 go_enter Tryz.func76,Tryz.ntmps76
 go_upto_region 2 with(go_at_call 117;refine J5.out.mono ?_;rintro e w1 ⟨_,H1,rfl,x1,s1⟩;obtain⟨a1,c1,e1,_,_⟩:=s1.form;rw[hN.out]at e1;subst e1)
 have l1:=x1.le d.h
 go_upto_region 9 with(go_at_call 118;refine(hre.out _ _ _ x1.holds l1 s1).mono ?_;rintro e w2 ⟨rfl,hb2⟩;have x2:=x1.step (hb2.mono x1.below.size) (x1.holds.below hb2))
 have x3:=x2.alloc (.cells #[.string ⟨#[]⟩,.nilFunc] 145)
 generalize w2.alloc (.cells #[.string ⟨#[]⟩,.nilFunc] 145)=w3 at*
 clear x1 x2 hb2 hre J5
 have hbz:b.size≤1000000:=by have:=J6 s b (by rw[hsp];simp);omega
 have hlq:(N:Int)=(q.length:Int)+2:=by rw[←hN.out];simp;omega
 have hl2:¬(N:Int)<2:=by omega
 have hl3:(1:Int)<(N:Int):=by omega
 have hN2:(2:Int)≤(N:Int):=by omega
 have hN0:(0:Int)<(N:Int):=by omega
 obtain⟨b1,o1,c1',he1,hbs,rb⟩:=s1.str (show At (x::b::q) 1 b from rfl)
 rw[hN.out]at he1
 cases he1
 obtain⟨b1',o1',aQ8,he1,aQ9,rx⟩:=s1.str (show At (x::b::q) 0 x from rfl)
 rw[hN.out]at he1
 cases he1
 simp only[fh2]at rx
 have F5:=fun(W:World) (va:Value) (H':j5) (hW:j4 H' W) (hle:D8 He H') (ha:Sl H' va [b])=>U5 va [b] (by simp) H' (dr.mono hle) W hW ha
 unfold V9 at F5
 rw[ai2,hnb]at F5
 replace F5:=fe6 F5
 replace hlq:=fe6 hlq
 go_upto_region 12 with(go_at_call 121;refine(hrq.out _ _ _ x3.holds l1 s1).mono ?_;rintro e w4 ⟨rfl,hb4⟩;have x4:=x3.step (hb4.mono x3.below.size) (x3.holds.below hb4))
 clear x3 hb4 hrq
 have hw4:=x4.holds
 have hNM:N-2=q.length:=by have:=hlq.out;omega
 obtain⟨M,hM⟩:∃M,q.length=M:=⟨_,rfl⟩
 rw[hM]at hNM
 obtain⟨aT,Z7⟩:∃aT,(if c1=2 then some (⟨b1,o1,none⟩:Addr)else some ⟨b1,o1+2,none⟩)=aT:=⟨_,rfl⟩
 have sT:=ak1 rfl s1 Z7
 rw[hM]at sT
 replace hM:=fe6 hM
 go_upto_region 17 with(go_at_call 123;obtain⟨H5,l5,x5,s5⟩:=am4 x4 b hbz;go_must (refine(F5.out _ _ _ x5.holds (l1.trans l5) s5).mono ?_);rintro e w6 ⟨nv,H6,rfl,y6,o6⟩;obtain⟨H7,y7,l7,s7,_⟩:=o6.close y6;obtain⟨b7,o7,c7,rfl,_,_⟩:=s7.int (show At [n] 0 n from rfl);have x7:=x5.trans y7;have l57:=l5.trans (y7.le x5.holds))
 obtain⟨_,_,_,he7,hin,rn⟩:=s7.int (show At [n] 0 n from rfl)
 cases he7
 simp only[fh2]at rn
 have hw7:=x7.holds
 have rx7:=lift l57 rx
 have sT7:=sT.mono l57
 have s17:=s1.mono l57
 clear x4 x5 y6 y7 o6 l5 l7 F5 hw4 rb rx s1 sT s5
 refine E8 H7 (by kernel_rfl) (by kernel_rfl) hw7 (fun hne=> ?_)
 repeat go_big_quiet_step((first|fail))
 refine wpQuiet_nil ?_
 rintro⟨w2,hw2,hb2⟩
 clear hne
 have x8:=x7.step (hb2.mono x7.below.size) hw2
 clear x7 hw7
 have l8:=x8.le d.h
 have aC8:=hqe.symm
 subst aC8
 have hM0:0<(M:Int):=by have:=hM.out;simp at this;omega
 have e1:=j6 (l:=[114,101,97,100,115]) (show x≠Z6 by rw[hx];decide)
 have e2:=G8 (l:=[97,116]) hx
 have e3:=j6 (l:=[108,105,110,101]) (show x≠ad5 by rw[hx];decide)
 clear hx
 have aw7:=fun(va:Value) (H':j5) (W:World) (hW:j4 H' W) (hle:D8 He H') (ha:Sl H' va (y::q'))=>ab3 va y q' hql H' (dr.mono hle) W hW ha hyz
 unfold R4 at aw7
 simp only[hk2,if_true]at aw7
 replace aw7:=fe6 aw7
 dsimp only
 by_cases hn0:n<0
 ·go_wp2_with(first|((go_at_call 121;refine(aw7.out _ _ _ x8.holds l8 sT7).mono ?_;rintro e w9 ⟨fv,H9,rfl,y9,hf9⟩;have x9:=x8.trans y9)))
  go_ret
  exact⟨H9,rv,rfl,Only.of x9.below,fun b hb=>x9.same b hb,d.ext x9⟩
 ·have hn1:line<n:=by omega
  go_wp2_with(first|((go_at_call 121;refine(aw7.out _ _ _ x8.holds l8 sT7).mono ?_;rintro e w9 ⟨fv,H9,rfl,y9,hf9⟩;have x9:=x8.trans y9)))
  go_ret
  exact⟨H9,rv,rfl,Only.of x9.below,fun b hb=>x9.same b hb,d.ext x9⟩
theorem di3 {He:j5} {base:Nat} {w:World} {D:Nat} {gm gb gt gu go' ga rv:Value} {g:D5} {recs:List Rec} (d:L8 He base w D gm gb gt gu go' ga rv g recs) (v:F6 g=true) (dr:Doors He) (line:Int) (hI:K8 line) (s:ByteArray) (hs:s.size≤10000) (hz:(J9 (C9 s)).size≤100000) (hq:(C9 s).length≤1000) (x b y:ByteArray) (q':List ByteArray) (n:Int) (hsp:C9 s=x::b::y::q') (hk:(A7 (C9 s)).kind=0) (hnb:O5 b=some n) (hx:x=wAt) (hk2:(A7 (y::q')).kind=2) (hn:0≤n∧n≤line):
 Calls Tryz.prog 76 #[.pointer (some ⟨D,0,none⟩),.int .i64 line,.string s] w (X8 He base w D gm gb gt gu go' ga rv g (recs) (U6 (U8 g (ahead recs n)) (A7 (y::q')).word (A7 (y::q')).nums)):=by
 have vt:=aF3 v (ahead recs n)
 have htw:=fun(H':j5) (W:World) (d':L8 H' base W D gm gb gt gu go' ga rv g recs)=>bm4 d' v n
 replace htw:=fe6 htw
 generalize hT:U8 g (ahead recs n)=T at*
 generalize hL:A7 (y::q')=L at*
 obtain⟨S,hS⟩:∃S,Hid (U6 T L.word L.nums=S):=⟨_,rfl⟩
 rw[hS.out]
 clear hT
 replace hL:=fe6 hL
 have hql:q'.length≤1000:=by rw[hsp]at hq;simp at hq;omega
 have hyz:y.size≤100000:=by have:=J6 s y (by rw[hsp];simp);omega
 obtain⟨q,hqe⟩:∃q,y::q'=q:=⟨_,rfl⟩
 rw[hqe]at hsp
 have J5:=ab4 s (by omega) He dr w d.h
 rw[hsp]at hk hz hq J5
 have hxs:x.size≤100000:=by have:=J6 s x (by rw[hsp];simp);omega
 have hre:=fun(va:Value) (H1:j5) (W:World) (hW:j4 H1 W) (hle:D8 He H1) (ha:Sl H1 va (x::b::q))=>aa0 va x (b::q) (by simp at hq ⊢<;>omega) H1 (dr.mono hle) W hW ha hz hxs
 unfold P9 at hre
 have hk1:¬(A7 (x::b::q)).kind=1:=by rw[hk];decide
 simp only[if_neg hk1]at hre
 have hrq:=fun(va:Value) (H1:j5) (W:World) (hW:j4 H1 W) (hle:D8 He H1) (ha:Sl H1 va (x::b::q))=>ab3 va x (b::q) (by simp at hq ⊢<;>omega) H1 (dr.mono hle) W hW ha hxs
 unfold R4 at hrq
 simp only[show ¬(A7 (x::b::q)).kind=2 by rw[hk];decide,if_false]at hrq
 replace hre:=fe6 hre
 replace hrq:=fe6 hrq
 replace J5:=fe6 J5
 clear hk1
 obtain⟨N,hN⟩:∃N,Hid ((x::b::q).length=N):=⟨_,rfl⟩
 go_enter Tryz.func76,Tryz.ntmps76
 go_upto_region 2 with(go_at_call 117;refine J5.out.mono ?_;rintro e w1 ⟨_,H1,rfl,x1,s1⟩;obtain⟨a1,c1,e1,_,_⟩:=s1.form;rw[hN.out]at e1;subst e1)
 have l1:=x1.le d.h
 go_upto_region 9 with(go_at_call 118;refine(hre.out _ _ _ x1.holds l1 s1).mono ?_;rintro e w2 ⟨rfl,hb2⟩;have x2:=x1.step (hb2.mono x1.below.size) (x1.holds.below hb2))
 have x3:=x2.alloc (.cells #[.string ⟨#[]⟩,.nilFunc] 145)
 generalize w2.alloc (.cells #[.string ⟨#[]⟩,.nilFunc] 145)=w3 at*
 clear x1 x2 hb2 hre J5
 have hbz:b.size≤1000000:=by have:=J6 s b (by rw[hsp];simp);omega
 have hlq:(N:Int)=(q.length:Int)+2:=by rw[←hN.out];simp;omega
 have hl2:¬(N:Int)<2:=by omega
 have hl3:(1:Int)<(N:Int):=by omega
 have hN2:(2:Int)≤(N:Int):=by omega
 have hN0:(0:Int)<(N:Int):=by omega
 obtain⟨b1,o1,c1',he1,hbs,rb⟩:=s1.str (show At (x::b::q) 1 b from rfl)
 rw[hN.out]at he1
 cases he1
 obtain⟨b1',o1',aQ8,he1,aQ9,rx⟩:=s1.str (show At (x::b::q) 0 x from rfl)
 rw[hN.out]at he1
 cases he1
 simp only[fh2]at rx
 have F5:=fun(W:World) (va:Value) (H':j5) (hW:j4 H' W) (hle:D8 He H') (ha:Sl H' va [b])=>U5 va [b] (by simp) H' (dr.mono hle) W hW ha
 unfold V9 at F5
 rw[ai2,hnb]at F5
 replace F5:=fe6 F5
 replace hlq:=fe6 hlq
 go_upto_region 12 with(go_at_call 121;refine(hrq.out _ _ _ x3.holds l1 s1).mono ?_;rintro e w4 ⟨rfl,hb4⟩;have x4:=x3.step (hb4.mono x3.below.size) (x3.holds.below hb4))
 clear x3 hb4 hrq
 have hw4:=x4.holds
 have hNM:N-2=q.length:=by have:=hlq.out;omega
 obtain⟨M,hM⟩:∃M,q.length=M:=⟨_,rfl⟩
 rw[hM]at hNM
 obtain⟨aT,Z7⟩:∃aT,(if c1=2 then some (⟨b1,o1,none⟩:Addr)else some ⟨b1,o1+2,none⟩)=aT:=⟨_,rfl⟩
 have sT:=ak1 rfl s1 Z7
 rw[hM]at sT
 replace hM:=fe6 hM
 go_upto_region 17 with(go_at_call 123;obtain⟨H5,l5,x5,s5⟩:=am4 x4 b hbz;go_must (refine(F5.out _ _ _ x5.holds (l1.trans l5) s5).mono ?_);rintro e w6 ⟨nv,H6,rfl,y6,o6⟩;obtain⟨H7,y7,l7,s7,_⟩:=o6.close y6;obtain⟨b7,o7,c7,rfl,_,_⟩:=s7.int (show At [n] 0 n from rfl);have x7:=x5.trans y7;have l57:=l5.trans (y7.le x5.holds))
 obtain⟨_,_,_,he7,hin,rn⟩:=s7.int (show At [n] 0 n from rfl)
 cases he7
 simp only[fh2]at rn
 have hw7:=x7.holds
 have rx7:=lift l57 rx
 have sT7:=sT.mono l57
 have s17:=s1.mono l57
 clear x4 x5 y6 y7 o6 l5 l7 F5 hw4 rb rx s1 sT s5
 refine E8 H7 (by kernel_rfl) (by kernel_rfl) hw7 (fun hne=> ?_)
 repeat go_big_quiet_step((first|fail))
 refine wpQuiet_nil ?_
 rintro⟨w2,hw2,hb2⟩
 clear hne
 have x8:=x7.step (hb2.mono x7.below.size) hw2
 clear x7 hw7
 have l8:=x8.le d.h
 have aC8:=hqe.symm
 subst aC8
 have hM0:0<(M:Int):=by have:=hM.out;simp at this;omega
 have e1:=j6 (l:=[114,101,97,100,115]) (show x≠Z6 by rw[hx];decide)
 have e2:=G8 (l:=[97,116]) hx
 have e3:=j6 (l:=[108,105,110,101]) (show x≠ad5 by rw[hx];decide)
 clear hx
 have aw7:=fun(va:Value) (H':j5) (W:World) (hW:j4 H' W) (hle:D8 He H') (ha:Sl H' va (y::q'))=>ab3 va y q' hql H' (dr.mono hle) W hW ha hyz
 unfold R4 at aw7
 rw[hL.out]at aw7
 simp only[hk2,if_true]at aw7
 replace aw7:=fe6 aw7
 dsimp only
 have hn0:¬n<0:=by omega
 have hn1:¬line<n:=by omega
 clear hn hk2 hL
 go_upto_region 27 with(go_at_call 121;refine(aw7.out _ _ _ x8.holds l8 sT7).mono ?_;rintro e w9 ⟨fv,H9,rfl,y9,hf9⟩;have x9:=x8.trans y9)
 have ex9:=fe6 (htw.out _ _ (d.ext x9))
 clear x8 y9 aw7 htw
 go_wp2_with(first
  |(have hgd:=x10;clear hgd;go_at_call 122;go_must (refine(cu3 (hf9.mono (y10.le x9.holds)) (dr.mono (x10.le d.h)) _ _ _ _ _ _ T vt _ x10.holds tw).mono ?_);rintro e w11 ⟨_,H11,rfl,y11,rfl⟩;have x11:=x10.trans y11)
  |(go_at_call 79;refine ex9.out.mono ?_;rintro e w10 ⟨_,H10,rfl,y10,um,ub,ut,uu,uo,ua,rfl,tw⟩;have x10:=x9.trans y10))
 go_ret
 rw[hS.out]
 exact⟨H11,rv,rfl,Only.of x11.below,fun b hb=>x11.same b hb,d.ext x11⟩
end
end Go.Proofs.YtbliehinagkldaaGreatDoor
