/- Lemmas and walks on which the claims of this seat lean (names and blanks made short by a program): ORef12e. -/
import Derived.Test.YtbliehinagkldaaGreatDoorG12
import Derived.Test.YtbliehinagkldaaGreatDoorG14

set_option linter.all false
set_option maxRecDepth 100000
set_option maxHeartbeats 16000000
open Go.Lib renaming hid → fe6
open List renaming setIfInBounds_toArray → fe7, set_cons_zero → ff1, set_cons_succ → ff2
open Nat renaming add_zero → fh2, ne_of_lt → fh5
namespace Go.Proofs.YtbliehinagkldaaGreatDoor
section
open Go.RowKit
attribute [local go_sem] j4.drew j4.alloc j4.drewN WB.holds Oper.semAt_some Q9 O1 J7
theorem cw1 (s:ByteArray) (hs:s.size≤1100000) (H:j5) (w:World) (hw:j4 H w) (x:ByteArray) (r:List ByteArray) (hsp:C9 s=x::r) (hk:(A7 (x::r)).kind≠0):
 Calls Tryz.prog 44 #[.string s] w (Post w H fun u H'=>bY2 H' u (A7 (x::r))):=by
 have hjz:(J9 (x::r)).size≤2000000:=by rw[←hsp,ay1];omega
 have hcn:=aw8 s
 have hpz:∀u∈(x::r),u.size≤1100000:=fun u hu=>by have:=J6 s u (by rw[hsp];exact hu);omega
 rw[hsp]at hcn
 obtain⟨N,hN⟩:∃N,Hid ((x::r).length=N):=⟨_,rfl⟩
 have hsplit:=fun(W:World) (hW:j4 H W)=>aF7 s (by omega) H W hW
 rw[hsp]at hsplit
 have ak3:=fun(va:Value) (H1:j5) (W:World) (hW:j4 H1 W) (ha:Sl H1 va (x::r))=>aj3 va x (r) hjz (by simp at hcn ⊢<;>omega) H1 W hW ha
 replace hsplit:=fe6 hsplit
 obtain⟨z,hz⟩:∃z,Hid (A7 (x::r)=z):=⟨_,rfl⟩
 rw[hz.out]at ak3 hk ⊢
 replace ak3:=fe6 ak3
 go_enter Tryz.func44,Tryz.ntmps44
 go_upto_region 1 with fail
 have cR:=J4.new (Ext.refl hw) #[.int .i64 0,.int .i64 0,.string ⟨#[]⟩,.string ⟨#[]⟩,.slice none 0 0] 82
 generalize w.alloc (.cells #[.int .i64 0,.int .i64 0,.string ⟨#[]⟩,.string ⟨#[]⟩,.slice none 0 0] 82)=wA at*
 obtain⟨R,hR⟩:∃R,w.heap.size=R:=⟨_,rfl⟩
 replace cR:J4 w H R 82 wA H #[.int .i64 0,.int .i64 0,.string ⟨#[]⟩,.string ⟨#[]⟩,.slice none 0 0]:=by rw[←hR];exact cR
 rw[hR]
 clear hR
 go_upto_region 2 with(go_at_call 28;refine(hsplit.out _ cR.x.holds).mono ?_;rintro e w2 ⟨v2,HH2,rfl,y2,o2⟩;obtain⟨H2,z2,_,s2,_⟩:=o2.close y2;obtain⟨a2,c2,e2,_,_⟩:=o2.form;rw[hN.out]at e2;subst e2;have cR2:=cR.ext z2)
 clear y2 o2 z2 cR hsplit
 go_upto_region 3 with(go_at_call 71;refine(ak3.out _ _ _ cR2.x.holds s2).mono ?_;rintro e w3 ⟨_,H3,rfl,y3,v3,rfl,s3⟩;have cR3:=cR2.ext y3;obtain⟨a3,c3,rfl,_,_⟩:=s3.form)
 have cX:=J4.new cR3.x #[.int .i64 z.kind,.int .i64 z.of,.string z.word,.string z.text,.slice a3 z.nums.length c3] 82
 have cR4:=cR3.alloc (.cells #[.int .i64 z.kind,.int .i64 z.of,.string z.word,.string z.text,.slice a3 z.nums.length c3] 82)
 have hRX:R≠w3.heap.size:=fh5 cR3.lt
 generalize w3.alloc (.cells #[.int .i64 z.kind,.int .i64 z.of,.string z.word,.string z.text,.slice a3 z.nums.length c3] 82)=w4 at*
 generalize w3.heap.size=X at*
 have hne:(z.kind != 0)=true:=bne_iff_ne.2 hk
 have d0:=cX.cell 0
 have d1:=cX.cell 1
 have d2:=cX.cell 2
 have d3:=cX.cell 3
 have d4:=cX.cell 4
 simp at d0 d1 d2 d3 d4
 clear hk
 have c9:=((((cR4.set 0 (.int .i64 z.kind)).set 1 (.int .i64 z.of)).set 2 (.string z.word)).set 3 (.string z.text)).set 4 (.slice a3 z.nums.length c3)
 simp only[fe7,ff1,ff2]at c9
 have e0:=cR4.cell 0
 have e1:=cR4.cell 1
 have e2:=cR4.cell 2
 have e3:=cR4.cell 3
 have e4:=cR4.cell 4
 have ef:=cR4.fz
 simp at e0 e1 e2 e3 e4
 go_wp2_with fail
 refine bodyPost_ret (results_cell_row rfl _ _ R 82 _ (0,0) _ rfl (by first|exact c9.at_|exact cR4.at_) Tryz.underlying82 rfl (by kernel_rfl)) rfl ?_
 first|exact⟨_,H3,rfl,c9.x,_,rfl,s3⟩|exact⟨_,H3,rfl,cR4.x,_,rfl,s3⟩
theorem cV5 (s:ByteArray) (hs:s.size≤1100000) (H:j5) (w:World) (hw:j4 H w) (x:ByteArray) (hsp:C9 s=x::[]) (hk:(A7 (x::[])).kind=0):
 Calls Tryz.prog 44 #[.string s] w (Post w H fun u H'=>bY2 H' u (E9)):=by
 have hjz:(J9 (x::[])).size≤2000000:=by rw[←hsp,ay1];omega
 have hcn:=aw8 s
 have hpz:∀u∈(x::[]),u.size≤1100000:=fun u hu=>by have:=J6 s u (by rw[hsp];exact hu);omega
 rw[hsp]at hcn
 obtain⟨N,hN⟩:∃N,Hid ((x::[]).length=N):=⟨_,rfl⟩
 have hsplit:=fun(W:World) (hW:j4 H W)=>aF7 s (by omega) H W hW
 rw[hsp]at hsplit
 have ak3:=fun(va:Value) (H1:j5) (W:World) (hW:j4 H1 W) (ha:Sl H1 va (x::[]))=>aj3 va x ([]) hjz (by simp at hcn ⊢<;>omega) H1 W hW ha
 rw[bd7 hk]at ak3
 replace hsplit:=fe6 hsplit
 replace ak3:=fe6 ak3
 go_enter Tryz.func44,Tryz.ntmps44
 go_upto_region 1 with fail
 have cR:=J4.new (Ext.refl hw) #[.int .i64 0,.int .i64 0,.string ⟨#[]⟩,.string ⟨#[]⟩,.slice none 0 0] 82
 generalize w.alloc (.cells #[.int .i64 0,.int .i64 0,.string ⟨#[]⟩,.string ⟨#[]⟩,.slice none 0 0] 82)=wA at*
 obtain⟨R,hR⟩:∃R,w.heap.size=R:=⟨_,rfl⟩
 replace cR:J4 w H R 82 wA H #[.int .i64 0,.int .i64 0,.string ⟨#[]⟩,.string ⟨#[]⟩,.slice none 0 0]:=by rw[←hR];exact cR
 rw[hR]
 clear hR
 go_upto_region 2 with(go_at_call 28;refine(hsplit.out _ cR.x.holds).mono ?_;rintro e w2 ⟨v2,HH2,rfl,y2,o2⟩;obtain⟨H2,z2,_,s2,_⟩:=o2.close y2;obtain⟨a2,c2,e2,_,_⟩:=o2.form;rw[hN.out]at e2;subst e2;have cR2:=cR.ext z2)
 clear y2 o2 z2 cR hsplit
 go_upto_region 3 with(go_at_call 71;refine(ak3.out _ _ _ cR2.x.holds s2).mono ?_;rintro e w3 ⟨_,H3,rfl,y3,v3,rfl,s3⟩;have cR3:=cR2.ext y3;obtain⟨a3,c3,rfl,_,_⟩:=s3.form)
 have cX:=J4.new cR3.x #[.int .i64 E9.kind,.int .i64 E9.of,.string E9.word,.string E9.text,.slice a3 E9.nums.length c3] 82
 have cR4:=cR3.alloc (.cells #[.int .i64 E9.kind,.int .i64 E9.of,.string E9.word,.string E9.text,.slice a3 E9.nums.length c3] 82)
 have hRX:R≠w3.heap.size:=fh5 cR3.lt
 generalize w3.alloc (.cells #[.int .i64 E9.kind,.int .i64 E9.of,.string E9.word,.string E9.text,.slice a3 E9.nums.length c3] 82)=w4 at*
 generalize w3.heap.size=X at*
 have hne:(E9.kind != 0)=false:=by decide
 have d0:=cX.cell 0
 simp at d0
 have hl2:(N:Int)<2:=by rw[←hN.out];simp
 have c9:=((((cR4.set 0 (.int .i64 0)).set 1 (.int .i64 0)).set 2 (.string ⟨#[]⟩)).set 3 (.string ⟨#[]⟩)).set 4 (.slice none 0 0)
 simp only[fe7,ff1,ff2]at c9
 have e0:=cR4.cell 0
 have e1:=cR4.cell 1
 have e2:=cR4.cell 2
 have e3:=cR4.cell 3
 have e4:=cR4.cell 4
 have ef:=cR4.fz
 simp at e0 e1 e2 e3 e4
 go_wp2_with fail
 refine bodyPost_ret (results_cell_row rfl _ _ R 82 _ (0,0) _ rfl (by first|exact c9.at_|exact cR4.at_) Tryz.underlying82 rfl (by kernel_rfl)) rfl ?_
 first|exact⟨_,H3,rfl,c9.x,_,rfl,Sl.Y9 H3⟩|exact⟨_,H3,rfl,cR4.x,_,rfl,Sl.Y9 H3⟩
theorem cV6 (s:ByteArray) (hs:s.size≤1100000) (H:j5) (w:World) (hw:j4 H w) (x b:ByteArray) (q:List ByteArray) (hsp:C9 s=x::b::q) (hk:(A7 (x::b::q)).kind=0) (hnb:O5 b=none):
 Calls Tryz.prog 44 #[.string s] w (Post w H fun u H'=>bY2 H' u (E9)):=by
 have hjz:(J9 (x::b::q)).size≤2000000:=by rw[←hsp,ay1];omega
 have hcn:=aw8 s
 have hpz:∀u∈(x::b::q),u.size≤1100000:=fun u hu=>by have:=J6 s u (by rw[hsp];exact hu);omega
 rw[hsp]at hcn
 obtain⟨N,hN⟩:∃N,Hid ((x::b::q).length=N):=⟨_,rfl⟩
 have hsplit:=fun(W:World) (hW:j4 H W)=>aF7 s (by omega) H W hW
 rw[hsp]at hsplit
 have ak3:=fun(va:Value) (H1:j5) (W:World) (hW:j4 H1 W) (ha:Sl H1 va (x::b::q))=>aj3 va x (b::q) hjz (by simp at hcn ⊢<;>omega) H1 W hW ha
 rw[bd7 hk]at ak3
 replace hsplit:=fe6 hsplit
 replace ak3:=fe6 ak3
 go_enter Tryz.func44,Tryz.ntmps44
 go_upto_region 1 with fail
 have cR:=J4.new (Ext.refl hw) #[.int .i64 0,.int .i64 0,.string ⟨#[]⟩,.string ⟨#[]⟩,.slice none 0 0] 82
 generalize w.alloc (.cells #[.int .i64 0,.int .i64 0,.string ⟨#[]⟩,.string ⟨#[]⟩,.slice none 0 0] 82)=wA at*
 obtain⟨R,hR⟩:∃R,w.heap.size=R:=⟨_,rfl⟩
 replace cR:J4 w H R 82 wA H #[.int .i64 0,.int .i64 0,.string ⟨#[]⟩,.string ⟨#[]⟩,.slice none 0 0]:=by rw[←hR];exact cR
 rw[hR]
 clear hR
 go_upto_region 2 with(go_at_call 28;refine(hsplit.out _ cR.x.holds).mono ?_;rintro e w2 ⟨v2,HH2,rfl,y2,o2⟩;obtain⟨H2,z2,_,s2,_⟩:=o2.close y2;obtain⟨a2,c2,e2,_,_⟩:=o2.form;rw[hN.out]at e2;subst e2;have cR2:=cR.ext z2)
 clear y2 o2 z2 cR hsplit
 go_upto_region 3 with(go_at_call 71;refine(ak3.out _ _ _ cR2.x.holds s2).mono ?_;rintro e w3 ⟨_,H3,rfl,y3,v3,rfl,s3⟩;have cR3:=cR2.ext y3;obtain⟨a3,c3,rfl,_,_⟩:=s3.form)
 have cX:=J4.new cR3.x #[.int .i64 E9.kind,.int .i64 E9.of,.string E9.word,.string E9.text,.slice a3 E9.nums.length c3] 82
 have cR4:=cR3.alloc (.cells #[.int .i64 E9.kind,.int .i64 E9.of,.string E9.word,.string E9.text,.slice a3 E9.nums.length c3] 82)
 have hRX:R≠w3.heap.size:=fh5 cR3.lt
 generalize w3.alloc (.cells #[.int .i64 E9.kind,.int .i64 E9.of,.string E9.word,.string E9.text,.slice a3 E9.nums.length c3] 82)=w4 at*
 generalize w3.heap.size=X at*
 have hne:(E9.kind != 0)=false:=by decide
 have d0:=cX.cell 0
 simp at d0
 have hlq:(N:Int)=(q.length:Int)+2:=by rw[←hN.out];simp<;>omega
 have hl2:¬(N:Int)<2:=by omega
 have hl3:(1:Int)<(N:Int):=by omega
 have hl4:(0:Int)<(N:Int):=by omega
 obtain⟨b1,o1,k1,he,_,r1⟩:=s2.str (show At (x::b::q) 1 b from rfl)
 rw[hN.out]at he
 cases he
 replace r1:=lift (y3.le cR2.x.holds) r1
 (try simp only[fh2]at r1)
 have F5:=fun W=>aK3 b W
 have e1:aV7 b=0:=by unfold aV7;rw[hnb];rfl
 have e2:aq5 b=false:=by unfold aq5;rw[hnb];rfl
 rw[e1,e2]at F5
 replace F5:=fe6 F5
 clear e1 e2
 replace hlq:=fe6 hlq
 have hw4:=cR4.x.holds
 go_upto_region 8 with(go_at_call 45;refine(F5.out _).mono ?_;rintro e w5 ⟨rfl,hb5⟩;have K7:=cR4.below hb5)
 have hw5:=K7.x.holds
 clear cR4 hb5 hw4 F5 d0 cX
 have c9:=((((K7.set 0 (.int .i64 0)).set 1 (.int .i64 0)).set 2 (.string ⟨#[]⟩)).set 3 (.string ⟨#[]⟩)).set 4 (.slice none 0 0)
 simp only[fe7,ff1,ff2]at c9
 have e0:=K7.cell 0
 have e1:=K7.cell 1
 have e2:=K7.cell 2
 have e3:=K7.cell 3
 have e4:=K7.cell 4
 have ef:=K7.fz
 simp at e0 e1 e2 e3 e4
 go_wp2_with fail
 refine bodyPost_ret (results_cell_row rfl _ _ R 82 _ (0,0) _ rfl (by first|exact c9.at_|exact K7.at_) Tryz.underlying82 rfl (by kernel_rfl)) rfl ?_
 first|exact⟨_,H3,rfl,c9.x,_,rfl,Sl.Y9 H3⟩|exact⟨_,H3,rfl,K7.x,_,rfl,Sl.Y9 H3⟩
end
end Go.Proofs.YtbliehinagkldaaGreatDoor
