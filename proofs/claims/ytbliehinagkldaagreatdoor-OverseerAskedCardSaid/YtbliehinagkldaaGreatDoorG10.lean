/- Lemmas and walks on which the claims of this seat lean (names and blanks made short by a program): OQst ORunS OTell OCutW ODo1 ODo2 ODo3. -/
import Derived.Test.YtbliehinagkldaaGreatDoorG02
import Derived.Test.YtbliehinagkldaaGreatDoorG03
import Derived.Test.YtbliehinagkldaaGreatDoorG04
import Derived.Test.YtbliehinagkldaaGreatDoorG06
import Derived.Test.YtbliehinagkldaaGreatDoorG08
import Derived.Test.YtbliehinagkldaaGreatDoorG09
import Derived.Test.YtbliehinagkldaaGreatDoorG21
import Derived.Handy

set_option linter.all false
set_option maxRecDepth 100000
set_option maxHeartbeats 16000000
open Go.Lib renaming hid → fe6
open List renaming getD_eq_getElem?_getD → ff3, length_append → ff4, length_singleton → ff7, length_cons → ff8, getElem?_eq_getElem → fg0, length_nil → fg1, length_map → fg5, take_of_length_le → fg7
open Nat renaming le_refl → fh0, le_trans → fh1, add_zero → fh2, zero_le → fh3, lt_of_lt_of_le → fh4
namespace Go.Proofs.YtbliehinagkldaaGreatDoor
section
open Go.RowKit
attribute [local go_sem] j4.drew j4.alloc j4.drewN WB.holds Oper.semAt_some
theorem aa0 (va:Value) (s:ByteArray) (q:List ByteArray) (hl:q.length≤1000) (H:j5) (d:Doors H) (w:World) (hw:j4 H w) (ha:Sl H va (s::q)) (hz:(J9 (s::q)).size≤100000) (hss:s.size≤100000):Calls Tryz.prog 118 #[va] w (P9 w H (s::q)):=by
 cases hn:T9 q with
 |none=>exact cT7 va s q hl H d w hw ha hn
 |some ns=>
  by_cases hm:U3 s=(ns.length:Int)
  ·exact cT9 va s q hl H d w hw ha hz hss hn (dc4 hm)
  ·exact cC3 va s q hl H d w hw ha hz hss hn hm
def R4 (w:World) (H:j5) (p:List ByteArray) (e:Ending) (w':World):Prop:=
 if(A7 p).kind=2 then ∃fv H',e= .returned (.tuple #[fv,.bool true])∧Ext w H w' H'∧cu1 H' fv (A7 p).word (A7 p).nums
 else e= .returned (.tuple #[.nilFunc,.bool false])∧Below w.heap.size w w'
theorem dv2 {s:ByteArray} {n:Nat} (h:Y3 s=(n:Int)):U3 s≠(n:Int):=by
 rcases cb0 h with⟨rfl,rfl⟩|⟨rfl,rfl⟩|⟨rfl,rfl⟩|⟨rfl,rfl⟩|⟨rfl,rfl⟩|⟨rfl,rfl⟩|⟨rfl,rfl⟩|⟨rfl,rfl⟩|⟨rfl,rfl⟩<;>decide
theorem cD2 {s:ByteArray} {q:List ByteArray} {ns:List Int} (hn:T9 q=some ns) (h:Y3 s≠(ns.length:Int)):(A7 (s::q)).kind≠2:=by
 by_cases h2:U3 s=(ns.length:Int)
 ·rw[bj2 hn h2];exact(by decide:(1:Int)≠2)
 ·rw[aM5 hn h2 h];decide
theorem cU7 (va:Value) (s:ByteArray) (q:List ByteArray) (hl:q.length≤1000) (H:j5) (d:Doors H) (w:World) (hw:j4 H w) (ha:Sl H va (s::q)) (hn:T9 q=none):
 Calls Tryz.prog 121 #[va] w (R4 w H (s::q)):=by
 obtain⟨b,o,c,rfl,cT8,r0⟩:=ha.str (show At (s::q) 0 s from rfl)
 have hcap:q.length+1≤c:=by obtain⟨_,_,e,h1,_⟩:=ha.form;cases e;exact h1
 have hcI:(1:Int)≤(c:Int):=by omega
 have hq0:(1:Int)≤((q.length:Int)+1):=by omega
 have hq1:((q.length:Int)+1)≤(c:Int):=by omega
 obtain⟨aT,Z7⟩:∃aT,(if c=1 then some (⟨b,o,none⟩:Addr)else some ⟨b,o+1,none⟩)=aT:=⟨_,rfl⟩
 have hsT:=ax8 rfl ha Z7
 have F5:=fun(H1:j5) (hle:D8 H H1) (W:World) (hW:j4 H1 W)=>U5 _ q (by omega) H1 (d.mono hle) W hW (hsT.mono hle)
 unfold V9 at F5
 rw[hn]at F5
 have hk:(A7 (s::q)).kind≠2:=by rw[aN9 (p:=s::q) hn];decide
 unfold R4
 simp only[if_neg hk]
 replace F5:=fe6 F5
 clear hn hk ha hsT d
 go_enter Tryz.func121,Tryz.ntmps121
 go_wp2_with(first|((go_at_call 123;refine(F5.out H (D8.refl H) _ hw).mono ?_;rintro e w2 ⟨rfl,hb2⟩)))
 (try simp only[Exit.inBlock,Exit.then])
 refine bodyPost_ret (results_tmp2 rfl _ _ _) rfl ?_
 exact⟨rfl,hb2.alloc hb2.size _⟩
theorem cD3 (va:Value) (s:ByteArray) (q:List ByteArray) (hl:q.length≤1000) (H:j5) (d:Doors H) (w:World) (hw:j4 H w) (ha:Sl H va (s::q)) (hss:s.size≤100000) {ns:List Int} (hn:T9 q=some ns) (hm:Y3 s≠(ns.length:Int)):
 Calls Tryz.prog 121 #[va] w (R4 w H (s::q)):=by
 obtain⟨b,o,c,rfl,cT8,r0⟩:=ha.str (show At (s::q) 0 s from rfl)
 have hcap:q.length+1≤c:=by obtain⟨_,_,e,h1,_⟩:=ha.form;cases e;exact h1
 have hcI:(1:Int)≤(c:Int):=by omega
 have hq0:(1:Int)≤((q.length:Int)+1):=by omega
 have hq1:((q.length:Int)+1)≤(c:Int):=by omega
 obtain⟨aT,Z7⟩:∃aT,(if c=1 then some (⟨b,o,none⟩:Addr)else some ⟨b,o+1,none⟩)=aT:=⟨_,rfl⟩
 have hsT:=ax8 rfl ha Z7
 have F5:=fun(H1:j5) (hle:D8 H H1) (W:World) (hW:j4 H1 W)=>U5 _ q (by omega) H1 (d.mono hle) W hW (hsT.mono hle)
 unfold V9 at F5
 rw[hn]at F5
 replace F5:=fe6 F5
 have hnl:=(ax2 hn).2
 have hI:K8 (ns.length:Int):=⟨by omega,by omega⟩
 have hit:=fun(H1:j5) (hle:D8 H H1) (W:World) (hW:j4 H1 W)=>ap8 (ns.length:Int) hI H1 (d.mono hle) W hW
 have hkz:¬9223372036854775807<s.size+(G6 (ns.length:Int)).size:=by
  have h1:(G6 (ns.length:Int)).size≤5:=by
   show(Lib.itoa (ns.length:Int)).length≤5
   rw[ay2];exact aI6 _ 4 (by omega)
  omega
 clear hnl
 replace hit:=fe6 hit
 have hk:(A7 (s::q)).kind≠2:=cD2 hn hm
 unfold R4
 simp only[if_neg hk]
 have t0:((s++G6 (ns.length:Int)).toList==[115,117,114,101,48])=false:=j6 (aj8 (w:=aZ3) (d:=0) (by decide) (by decide) (by decide) (fun h=>hm (by obtain⟨h1,h2⟩:=h;rw[h1,h2];decide)))
 have t1:((s++G6 (ns.length:Int)).toList==[102,101,119,101,115,116,48])=false:=j6 (aj8 (w:=aI3) (d:=0) (by decide) (by decide) (by decide) (fun h=>hm (by obtain⟨h1,h2⟩:=h;rw[h1,h2];decide)))
 have t2:((s++G6 (ns.length:Int)).toList==[116,111,108,100,48])=false:=j6 (aj8 (w:=aZ4) (d:=0) (by decide) (by decide) (by decide) (fun h=>hm (by obtain⟨h1,h2⟩:=h;rw[h1,h2];decide)))
 have t3:((s++G6 (ns.length:Int)).toList==[119,97,105,116,49])=false:=j6 (aj8 (w:=aZ5) (d:=1) (by decide) (by decide) (by decide) (fun h=>hm (by obtain⟨h1,h2⟩:=h;rw[h1,h2];decide)))
 have t4:((s++G6 (ns.length:Int)).toList==[115,112,97,114,101,48])=false:=j6 (aj8 (w:=aO9) (d:=0) (by decide) (by decide) (by decide) (fun h=>hm (by obtain⟨h1,h2⟩:=h;rw[h1,h2];decide)))
 have t5:((s++G6 (ns.length:Int)).toList==[110,101,119,48])=false:=j6 (aj8 (w:=bs8) (d:=0) (by decide) (by decide) (by decide) (fun h=>hm (by obtain⟨h1,h2⟩:=h;rw[h1,h2];decide)))
 have t6:((s++G6 (ns.length:Int)).toList==[119,111,114,108,100,115,48])=false:=j6 (aj8 (w:=aI4) (d:=0) (by decide) (by decide) (by decide) (fun h=>hm (by obtain⟨h1,h2⟩:=h;rw[h1,h2];decide)))
 have t7:((s++G6 (ns.length:Int)).toList==[108,101,102,116,49])=false:=j6 (aj8 (w:=aN6) (d:=1) (by decide) (by decide) (by decide) (fun h=>hm (by obtain⟨h1,h2⟩:=h;rw[h1,h2];decide)))
 have t8:((s++G6 (ns.length:Int)).toList==[116,101,115,116,48])=false:=j6 (aj8 (w:=bi1) (d:=0) (by decide) (by decide) (by decide) (fun h=>hm (by obtain⟨h1,h2⟩:=h;rw[h1,h2];decide)))
 generalize G6 (ns.length:Int)=u at*
 clear hm hk ha hsT d hn
 go_enter Tryz.func121,Tryz.ntmps121
 go_upto_region 2 with(go_at_call 123;refine(F5.out H (D8.refl H) _ hw).mono ?_;rintro e w2 ⟨v2,H2,rfl,x2,o2⟩;obtain⟨a2,c2,rfl,_,_⟩:=o2.form)
 obtain⟨H3,y3,l3,s3,hsame⟩:=o2.close x2
 obtain⟨y4,l4,hA4⟩:=y3.newF #[.slice a2 ns.length c2] 24
 have l04:=y4.le hw
 have aa7:Cap (H3.put w2.heap.size (.cells #[.slice a2 ns.length c2] 24 (0,0))) w2.heap.size ns:=⟨_,hA4,s3.mono l4⟩
 clear o2 x2 hsame s3 l3 l4 y3
 generalize H3.put w2.heap.size (.cells #[.slice a2 ns.length c2] 24 (0,0))=H4 at*
 generalize w2.alloc (.cells #[.slice a2 ns.length c2] 24)=w4 at*
 generalize w2.heap.size=A at*
 have hw4:=y4.holds
 have hA0:∀W,j4 H4 W→W.cell? ⟨A,0,none⟩=some (.slice a2 ns.length c2):=fun W hW=>D7 hA4 hW 0
 have hr0:=lift l04 r0
 simp only[fh2]at hr0
 clear r0
 go_upto_region 4 with fail
 refine E8 H4 (by kernel_rfl) (by kernel_rfl) hw4 (fun hne=> ?_)
 repeat go_big_quiet_step((first|(go_at_call 149;exact Calls.am7 (hit.out H4 l04 _ (WB.holds _)))))
 refine wpQuiet_nil ?_
 rintro⟨w2,hw2,hb2⟩
 clear hne
 go_wp2
 (try simp only[Exit.inBlock,Exit.then])
 refine bodyPost_ret (results_tmp2 rfl _ _ _) rfl ?_
 exact⟨rfl,(y4.step (hb2.mono y4.below.size) (hw4.below hb2)).below⟩
theorem cU8 (va:Value) (s:ByteArray) (q:List ByteArray) (hl:q.length≤1000) (H:j5) (d:Doors H) (w:World) (hw:j4 H w) (ha:Sl H va (s::q)) (hss:s.size≤100000) {ns:List Int} (hn:T9 q=some ns) (hm:Y3 s=(ns.length:Int)):
 Calls Tryz.prog 121 #[va] w (R4 w H (s::q)):=by
 obtain⟨b,o,c,rfl,cT8,r0⟩:=ha.str (show At (s::q) 0 s from rfl)
 have hcap:q.length+1≤c:=by obtain⟨_,_,e,h1,_⟩:=ha.form;cases e;exact h1
 have hcI:(1:Int)≤(c:Int):=by omega
 have hq0:(1:Int)≤((q.length:Int)+1):=by omega
 have hq1:((q.length:Int)+1)≤(c:Int):=by omega
 obtain⟨aT,Z7⟩:∃aT,(if c=1 then some (⟨b,o,none⟩:Addr)else some ⟨b,o+1,none⟩)=aT:=⟨_,rfl⟩
 have hsT:=ax8 rfl ha Z7
 have F5:=fun(H1:j5) (hle:D8 H H1) (W:World) (hW:j4 H1 W)=>U5 _ q (by omega) H1 (d.mono hle) W hW (hsT.mono hle)
 unfold V9 at F5
 rw[hn]at F5
 replace F5:=fe6 F5
 have hnl:=(ax2 hn).2
 have hI:K8 (ns.length:Int):=⟨by omega,by omega⟩
 have hit:=fun(H1:j5) (hle:D8 H H1) (W:World) (hW:j4 H1 W)=>ap8 (ns.length:Int) hI H1 (d.mono hle) W hW
 have hkz:¬9223372036854775807<s.size+(G6 (ns.length:Int)).size:=by
  have h1:(G6 (ns.length:Int)).size≤5:=by
   show(Lib.itoa (ns.length:Int)).length≤5
   rw[ay2];exact aI6 _ 4 (by omega)
  omega
 clear hnl
 replace hit:=fe6 hit
 have hc:=fe6 (cb0 hm)
 unfold R4
 simp only[bj3 hn (dv2 hm) hm,if_true]
 have t0:=fe6 (ag7 (s:=s) (n:=ns.length) (w:=aZ3) (d:=0) (l:=[115,117,114,101,48]) (by decide) (by decide) (by decide))
 have t1:=fe6 (ag7 (s:=s) (n:=ns.length) (w:=aI3) (d:=0) (l:=[102,101,119,101,115,116,48]) (by decide) (by decide) (by decide))
 have t2:=fe6 (ag7 (s:=s) (n:=ns.length) (w:=aZ4) (d:=0) (l:=[116,111,108,100,48]) (by decide) (by decide) (by decide))
 have t3:=fe6 (ag7 (s:=s) (n:=ns.length) (w:=aZ5) (d:=1) (l:=[119,97,105,116,49]) (by decide) (by decide) (by decide))
 have t4:=fe6 (ag7 (s:=s) (n:=ns.length) (w:=aO9) (d:=0) (l:=[115,112,97,114,101,48]) (by decide) (by decide) (by decide))
 have t5:=fe6 (ag7 (s:=s) (n:=ns.length) (w:=bs8) (d:=0) (l:=[110,101,119,48]) (by decide) (by decide) (by decide))
 have t6:=fe6 (ag7 (s:=s) (n:=ns.length) (w:=aI4) (d:=0) (l:=[119,111,114,108,100,115,48]) (by decide) (by decide) (by decide))
 have t7:=fe6 (ag7 (s:=s) (n:=ns.length) (w:=aN6) (d:=1) (l:=[108,101,102,116,49]) (by decide) (by decide) (by decide))
 have t8:=fe6 (ag7 (s:=s) (n:=ns.length) (w:=bi1) (d:=0) (l:=[116,101,115,116,48]) (by decide) (by decide) (by decide))
 have hmf:∀(fn:Fn) (first cap:Array Value) (w:World),(Instr.makeFunc fn first cap).run Tryz.prog w= .ok (.func fn first cap) w:=fun _ _ _ _=>rfl
 generalize G6 (ns.length:Int)=u at*
 clear hm ha hsT d hn
 go_enter Tryz.func121,Tryz.ntmps121
 go_upto_region 2 with(go_at_call 123;refine(F5.out H (D8.refl H) _ hw).mono ?_;rintro e w2 ⟨v2,H2,rfl,x2,o2⟩;obtain⟨a2,c2,rfl,_,_⟩:=o2.form)
 obtain⟨H3,y3,l3,s3,hsame⟩:=o2.close x2
 obtain⟨y4,l4,hA4⟩:=y3.newF #[.slice a2 ns.length c2] 24
 have l04:=y4.le hw
 have aa7:Cap (H3.put w2.heap.size (.cells #[.slice a2 ns.length c2] 24 (0,0))) w2.heap.size ns:=⟨_,hA4,s3.mono l4⟩
 clear o2 x2 hsame s3 l3 l4 y3
 generalize H3.put w2.heap.size (.cells #[.slice a2 ns.length c2] 24 (0,0))=H4 at*
 generalize w2.alloc (.cells #[.slice a2 ns.length c2] 24)=w4 at*
 generalize w2.heap.size=A at*
 have hw4:=y4.holds
 have hA0:∀W,j4 H4 W→W.cell? ⟨A,0,none⟩=some (.slice a2 ns.length c2):=fun W hW=>D7 hA4 hW 0
 have hr0:=lift l04 r0
 simp only[fh2]at hr0
 clear r0
 go_upto_region 4 with fail
 refine E8 H4 (by kernel_rfl) (by kernel_rfl) hw4 (fun hne=> ?_)
 repeat go_big_quiet_step((first|(go_at_call 149;exact Calls.am7 (hit.out H4 l04 _ (WB.holds _)))))
 refine wpQuiet_nil ?_
 rintro⟨w2,hw2,hb2⟩
 clear hne
 have y5:=fe6 (y4.step (hb2.mono y4.below.size) (hw4.below hb2))
 replace aa7:=fe6 aa7
 rcases hc.out with⟨hs,hnn⟩|⟨hs,hnn⟩|⟨hs,hnn⟩|⟨hs,hnn⟩|⟨hs,hnn⟩|⟨hs,hnn⟩|⟨hs,hnn⟩|⟨hs,hnn⟩|⟨hs,hnn⟩
 ·have e0:=t0.out.trans (decide_eq_true ⟨hs,hnn⟩)
  replace hs:=fe6 hs
  replace hnn:=fe6 hnn
  clear hc
  go_wp2
  (try simp only[Exit.inBlock,Exit.then])
  refine bodyPost_ret (results_tmp2 rfl _ _ _) rfl ?_
  refine⟨_,H4,rfl,y5.out, ?_⟩
  rw[hs.out]
  exact⟨_,_,rfl,(enters_of Tryz.func164 (by kernel_rfl) rfl),fun H5 hle W vm vb vt um uo ua t hW ht hv=>cC9 H5 W vm vb vt um uo ua t ns hW ht hv⟩
 ·have e0:=t0.out.trans (decide_eq_false fun h=>absurd (hs.symm.trans h.1) (by decide))
  have e1:=t1.out.trans (decide_eq_true ⟨hs,hnn⟩)
  replace hs:=fe6 hs
  replace hnn:=fe6 hnn
  clear hc
  go_wp2
  (try simp only[Exit.inBlock,Exit.then])
  refine bodyPost_ret (results_tmp2 rfl _ _ _) rfl ?_
  refine⟨_,H4,rfl,y5.out, ?_⟩
  rw[hs.out]
  exact⟨_,_,rfl,(enters_of Tryz.func165 (by kernel_rfl) rfl),fun H5 hle W vm vb vt um uo ua t hW ht hv=>cg3 H5 W vm vb vt um uo ua t ns hW ht⟩
 ·have e0:=t0.out.trans (decide_eq_false fun h=>absurd (hs.symm.trans h.1) (by decide))
  have e1:=t1.out.trans (decide_eq_false fun h=>absurd (hs.symm.trans h.1) (by decide))
  have e2:=t2.out.trans (decide_eq_true ⟨hs,hnn⟩)
  replace hs:=fe6 hs
  replace hnn:=fe6 hnn
  clear hc
  go_wp2
  (try simp only[Exit.inBlock,Exit.then])
  refine bodyPost_ret (results_tmp2 rfl _ _ _) rfl ?_
  refine⟨_,H4,rfl,y5.out, ?_⟩
  rw[hs.out]
  exact⟨_,_,rfl,(enters_of Tryz.func167 (by kernel_rfl) rfl),fun H5 hle W vm vb vt um uo ua t hW ht hv=>cC8 H5 W vm vb vt um uo ua t ns hW ht⟩
 ·have e0:=t0.out.trans (decide_eq_false fun h=>absurd (hs.symm.trans h.1) (by decide))
  have e1:=t1.out.trans (decide_eq_false fun h=>absurd (hs.symm.trans h.1) (by decide))
  have e2:=t2.out.trans (decide_eq_false fun h=>absurd (hs.symm.trans h.1) (by decide))
  have e3:=t3.out.trans (decide_eq_true ⟨hs,hnn⟩)
  replace hs:=fe6 hs
  replace hnn:=fe6 hnn
  clear hc
  go_wp2
  (try simp only[Exit.inBlock,Exit.then])
  refine bodyPost_ret (results_tmp2 rfl _ _ _) rfl ?_
  obtain⟨x,rfl⟩:=bW2 hnn.out
  refine⟨_,H4,rfl,y5.out, ?_⟩
  rw[hs.out]
  exact⟨_,_,rfl,(enters_of Tryz.func169 (by kernel_rfl) rfl),fun H5 hle W vm vb vt um uo ua t hW ht _=>cD0 H5 W vm vb vt um uo ua t A x (aa7.out.mono hle) hW ht⟩
 ·have e0:=t0.out.trans (decide_eq_false fun h=>absurd (hs.symm.trans h.1) (by decide))
  have e1:=t1.out.trans (decide_eq_false fun h=>absurd (hs.symm.trans h.1) (by decide))
  have e2:=t2.out.trans (decide_eq_false fun h=>absurd (hs.symm.trans h.1) (by decide))
  have e3:=t3.out.trans (decide_eq_false fun h=>absurd (hs.symm.trans h.1) (by decide))
  have e4:=t4.out.trans (decide_eq_true ⟨hs,hnn⟩)
  replace hs:=fe6 hs
  replace hnn:=fe6 hnn
  clear hc
  go_wp2
  (try simp only[Exit.inBlock,Exit.then])
  refine bodyPost_ret (results_tmp2 rfl _ _ _) rfl ?_
  refine⟨_,H4,rfl,y5.out, ?_⟩
  rw[hs.out]
  exact⟨_,_,rfl,(enters_of Tryz.func170 (by kernel_rfl) rfl),fun H5 hle W vm vb vt um uo ua t hW ht hv=>cu2 H5 W vm vb vt um uo ua t ns hW ht⟩
 ·have e0:=t0.out.trans (decide_eq_false fun h=>absurd (hs.symm.trans h.1) (by decide))
  have e1:=t1.out.trans (decide_eq_false fun h=>absurd (hs.symm.trans h.1) (by decide))
  have e2:=t2.out.trans (decide_eq_false fun h=>absurd (hs.symm.trans h.1) (by decide))
  have e3:=t3.out.trans (decide_eq_false fun h=>absurd (hs.symm.trans h.1) (by decide))
  have e4:=t4.out.trans (decide_eq_false fun h=>absurd (hs.symm.trans h.1) (by decide))
  have e5:=t5.out.trans (decide_eq_true ⟨hs,hnn⟩)
  replace hs:=fe6 hs
  replace hnn:=fe6 hnn
  clear hc
  go_wp2
  (try simp only[Exit.inBlock,Exit.then])
  refine bodyPost_ret (results_tmp2 rfl _ _ _) rfl ?_
  refine⟨_,H4,rfl,y5.out, ?_⟩
  rw[hs.out]
  exact⟨_,_,rfl,(enters_of Tryz.func171 (by kernel_rfl) rfl),fun H5 hle W vm vb vt um uo ua t hW ht hv=>cU5 H5 W vm vb vt um uo ua t ns hW ht⟩
 ·have e0:=t0.out.trans (decide_eq_false fun h=>absurd (hs.symm.trans h.1) (by decide))
  have e1:=t1.out.trans (decide_eq_false fun h=>absurd (hs.symm.trans h.1) (by decide))
  have e2:=t2.out.trans (decide_eq_false fun h=>absurd (hs.symm.trans h.1) (by decide))
  have e3:=t3.out.trans (decide_eq_false fun h=>absurd (hs.symm.trans h.1) (by decide))
  have e4:=t4.out.trans (decide_eq_false fun h=>absurd (hs.symm.trans h.1) (by decide))
  have e5:=t5.out.trans (decide_eq_false fun h=>absurd (hs.symm.trans h.1) (by decide))
  have e6:=t6.out.trans (decide_eq_true ⟨hs,hnn⟩)
  replace hs:=fe6 hs
  replace hnn:=fe6 hnn
  clear hc
  go_wp2
  (try simp only[Exit.inBlock,Exit.then])
  refine bodyPost_ret (results_tmp2 rfl _ _ _) rfl ?_
  refine⟨_,H4,rfl,y5.out, ?_⟩
  rw[hs.out]
  exact⟨_,_,rfl,(enters_of Tryz.func172 (by kernel_rfl) rfl),fun H5 hle W vm vb vt um uo ua t hW ht hv=>cg5 H5 W vm vb vt um uo ua t ns hW ht⟩
 ·have e0:=t0.out.trans (decide_eq_false fun h=>absurd (hs.symm.trans h.1) (by decide))
  have e1:=t1.out.trans (decide_eq_false fun h=>absurd (hs.symm.trans h.1) (by decide))
  have e2:=t2.out.trans (decide_eq_false fun h=>absurd (hs.symm.trans h.1) (by decide))
  have e3:=t3.out.trans (decide_eq_false fun h=>absurd (hs.symm.trans h.1) (by decide))
  have e4:=t4.out.trans (decide_eq_false fun h=>absurd (hs.symm.trans h.1) (by decide))
  have e5:=t5.out.trans (decide_eq_false fun h=>absurd (hs.symm.trans h.1) (by decide))
  have e6:=t6.out.trans (decide_eq_false fun h=>absurd (hs.symm.trans h.1) (by decide))
  have e7:=t7.out.trans (decide_eq_true ⟨hs,hnn⟩)
  replace hs:=fe6 hs
  replace hnn:=fe6 hnn
  clear hc
  go_wp2
  (try simp only[Exit.inBlock,Exit.then])
  refine bodyPost_ret (results_tmp2 rfl _ _ _) rfl ?_
  obtain⟨x,rfl⟩:=bW2 hnn.out
  refine⟨_,H4,rfl,y5.out, ?_⟩
  rw[hs.out]
  exact⟨_,_,rfl,(enters_of Tryz.func173 (by kernel_rfl) rfl),fun H5 hle W vm vb vt um uo ua t hW ht _=>cD1 H5 W vm vb vt um uo ua t A x (aa7.out.mono hle) hW ht⟩
 ·have e0:=t0.out.trans (decide_eq_false fun h=>absurd (hs.symm.trans h.1) (by decide))
  have e1:=t1.out.trans (decide_eq_false fun h=>absurd (hs.symm.trans h.1) (by decide))
  have e2:=t2.out.trans (decide_eq_false fun h=>absurd (hs.symm.trans h.1) (by decide))
  have e3:=t3.out.trans (decide_eq_false fun h=>absurd (hs.symm.trans h.1) (by decide))
  have e4:=t4.out.trans (decide_eq_false fun h=>absurd (hs.symm.trans h.1) (by decide))
  have e5:=t5.out.trans (decide_eq_false fun h=>absurd (hs.symm.trans h.1) (by decide))
  have e6:=t6.out.trans (decide_eq_false fun h=>absurd (hs.symm.trans h.1) (by decide))
  have e7:=t7.out.trans (decide_eq_false fun h=>absurd (hs.symm.trans h.1) (by decide))
  have e8:=t8.out.trans (decide_eq_true ⟨hs,hnn⟩)
  replace hs:=fe6 hs
  replace hnn:=fe6 hnn
  clear hc
  go_wp2
  (try simp only[Exit.inBlock,Exit.then])
  refine bodyPost_ret (results_tmp2 rfl _ _ _) rfl ?_
  refine⟨_,H4,rfl,y5.out, ?_⟩
  rw[hs.out]
  exact⟨_,_,rfl,(enters_of Tryz.func174 (by kernel_rfl) rfl),fun H5 hle W vm vb vt um uo ua t hW ht hv=>cC7 H5 W vm vb vt um uo ua t ns hW ht⟩
theorem ab3 (va:Value) (s:ByteArray) (q:List ByteArray) (hl:q.length≤1000) (H:j5) (d:Doors H) (w:World) (hw:j4 H w) (ha:Sl H va (s::q)) (hss:s.size≤100000):Calls Tryz.prog 121 #[va] w (R4 w H (s::q)):=by
 cases hn:T9 q with
 |none=>exact cU7 va s q hl H d w hw ha hn
 |some ns=>
  by_cases hm:Y3 s=(ns.length:Int)
  ·exact cU8 va s q hl H d w hw ha hss hn hm
  ·exact cD3 va s q hl H d w hw ha hss hn hm
end
section
theorem aN3 {n e:Int} (h:0≤n∧n≤9999):(at1 n e).size≤6000:=by
 unfold at1
 split
 ·exact fh1 (aC4 h.1 h.2) (by decide)
 ·split<;>decide
theorem bn3 {l:List Int} {e:Int} (h:l.length≤1000∧∀x∈l,0≤x∧x≤9999):(as3 l e).size≤6000:=by
 unfold as3
 split
 ·exact aN3 ⟨by decide,by decide⟩
 ·split
  ·decide
  ·have:=bO3 (l.map G6) 4 fun s hs=>by
    obtain⟨x,hx,rfl⟩:=List.mem_map.1 hs
    exact aC4 (h.2 x hx).1 (h.2 x hx).2
   rw[fg5]at this
   omega
theorem bP2 (t:D5) (w:ByteArray) (a:List Int):(U6 t w a).size≤6000:=by
 unfold U6
 split
 ·split
  ·exact fh1 (aC4 (by decide) (by decide)) (by decide)
  ·exact fh1 (aC4 (by decide) (by decide)) (by decide)
 split
 ·exact aN3 (cc9 t.h)
 split
 ·exact bn3 (by rw[←cq5];exact ct2 t.h)
 split
 ·exact aN3 (by rw[←(bl5 t.h _).1];exact cc8 t.h _)
 split
 ·exact aN3 (by rw[←(ba5 t.h).1];exact bO1 t.h)
 split
 ·exact aN3 (cH3 t.s)
 split
 ·exact bn3 (bO2 t.s)
 split
 ·exact bn3 ⟨by simp,fun x hx=>by
   rcases List.mem_cons.1 hx with rfl|hx
   ·exact(bW1 t.s _).1
   ·rw[List.mem_singleton.1 hx];exact(bW1 t.s _).2⟩
 ·exact aN3 (ct1 t.s)
theorem bP3 (b:Bool):(ae4 b).size=2:=by cases b<;>rfl
theorem cd5 (was is:List Bool):∀k,k≤9999→(aP1 was is k).length≤8*k
 |0,_=>fh3 _
 |k+1,h=>by
  rw[cy2,ff4]
  have h1:=cd5 was is k (by omega)
  have h2:(C8 (G6 (k:Int))).length≤4:=aC4 (by omega) (by omega)
  have h3:(C8 (ae4 (is.getD k false))).length=2:=bP3 _
  split
  ·simp;omega
  ·simp only[ff4,ff8,fg1]
   omega
theorem cU9 {t:D5} {written now:List F7} {x:F7} (hn:∀y∈now,y.text.size≤900) (hl:now.length≤9000):(ap9 t written now x).size≤100000:=by
 unfold ap9
 split
 ·decide
 split
 ·rw[bP3];decide
 split
 ·exact fh1 (bP2 _ _ _) (by decide)
 split
 ·split
  ·exact fh1 (bP2 _ _ _) (by decide)
  ·decide
 split
 ·split
  ·split
   ·by_cases h:x.of.toNat<now.length
    ·have:=hn (now.getD x.of.toNat E9) (by rw[ff3,fg0 h];exact List.getElem_mem h)
     omega
    ·rw[ff3,List.getElem?_eq_none (by omega)];decide
   ·decide
  ·decide
 split
 ·show(C8 wOk++aP1 _ _ _).length≤_
  have e:(O3 t (ao6 now x)).length=now.length:=by rw[aE9];unfold ao6;rw[List.length_set]
  rw[ff4,e]
  have h1:=cd5 (O3 t now) (O3 t (ao6 now x)) now.length (by omega)
  have h2:(C8 wOk).length=2:=rfl
  omega
 ·decide
theorem dh9 {t:D5} {l:List ByteArray} (h:∀s∈l,s.size≤900) (hl:l.length≤9000) (s:ByteArray):(ap9 t (M6 t l).written (M6 t l).now (A8 s)).size≤100000:=by
 refine cU9 (fun y hy=> ?_) (by rw[(ax9 t l).2.2];exact hl)
 rw[(aU6 t l).2]at hy
 exact bH5 h y hy
theorem di0 {t:D5} {l:List Rec} {x:Rec × Bool} (h:x∈U4 t l):x.1∈l:=by
 induction l generalizing t with
 |nil=>cases h
 |cons r l ih=>
  rcases List.mem_cons.1 h with rfl|h
  ·exact List.mem_cons_self
  ·exact List.mem_cons_of_mem _ (ih h)
theorem di1 {t:D5} {l:List ByteArray} (h:∀s∈l,s.size≤900) {k:Nat}:∀r∈I6 (M6 t l).written (M6 t l).now k,∀y,r.en=some y→y.text.size≤900:=fun r hr y hy=>by
 obtain⟨i,_,_,rfl⟩:=aU1 hr
 unfold ae9 aQ7 at hy
 simp only at hy
 split at hy
 ·cases hy
  by_cases hi:i<(M6 t l).now.length
  ·have hm:(M6 t l).now.getD i E9∈(M6 t l).now:=by rw[ff3,fg0 hi];exact List.getElem_mem hi
   rw[(aU6 t l).2]at hm ⊢
   exact bH5 h _ hm
  ·rw[ff3,List.getElem?_eq_none (by omega)];decide
 ·cases hy
end
section
open Go.RowKit
attribute [local go_sem] j4.drew j4.alloc j4.drewN WB.holds Oper.semAt_some
theorem cu3 {fv:Value} {w0:ByteArray} {a:List Int} {H:j5} (hq:cu1 H fv w0 a) (dr:Doors H) (vm vb vt um uo ua:Value) (t:D5) (v:F6 t=true) (w:World) (hw:j4 H w) (ht:Twn H vm vb vt um uo ua t):
 Calls Tryz.prog 122 #[fv,ah0 vm vb vt um uo ua t] w (Post w H fun u _=>u= .string (U6 t w0 a)):=by
 obtain⟨f,cap,rfl,henter,dV5⟩:=hq
 have hc:=fun(H1:j5) (hle:D8 H H1) (W:World) (hW:j4 H1 W)=>dV5 H1 hle W vm vb vt um uo ua t hW (ht.mono hle) v
 replace hc:=fe6 hc
 have ht0:=fe6 ht
 obtain⟨S,hS⟩:∃S,Hid (U6 t w0 a=S):=⟨_,rfl⟩
 rw[hS.out]
 clear dV5 v
 go_enter Tryz.func122,Tryz.ntmps122
 go_upto_region 1 with(refine af8 rfl _ rfl (Ext.refl hw) ?_;intro B w1 H1 hle hx hB hBw;obtain⟨hc0,hc1,hc2,hc3,hc4,O8,hc6,O9⟩:=I5 hB;clear hB hw;have hw1:=hx.holds)
 go_upto_region 2 with(refine(hc.out H1 hle _ hw1).mono ?_;rintro e w2 ⟨_,H2,rfl,x2,ans,e,rfl,aC6,cu4⟩)
 have y2:=hx.trans x2
 have hw2:=x2.holds
 have dr2:=dr.mono (hle.trans (x2.le hw1))
 by_cases h0:e=0
 ·subst h0
  rcases aC6 rfl with⟨n,rfl,hn,hs1⟩|⟨v,l,rfl,hs,hl,hb,hs1⟩
  ·replace hs1:=fe6 hs1
   have hnt:=fe6 (cC4 n hn H2 dr2 w2 hw2)
   clear aC6 cu4
   go_wp2_with(go_at_call 278;refine hnt.out.mono ?_;rintro e w3 ⟨rfl,hb3⟩)
   go_ret
   exact⟨_,H2,rfl,y2.step (hb3.mono y2.below.size) (hw2.below hb3),by rw[←hS.out,hs1.out];rfl⟩
  ·replace hs1:=fe6 hs1
   have hlt:=fe6 (ct7 v l hl hb H2 dr2 w2 hw2 hs)
   clear aC6 cu4
   go_wp2_with(go_at_call 279;refine hlt.out.mono ?_;rintro e w3 ⟨rfl,hb3⟩)
   go_ret
   exact⟨_,H2,rfl,y2.step (hb3.mono y2.below.size) (hw2.below hb3),by rw[←hS.out,hs1.out];rfl⟩
 ·have he:=cu4 h0
  have h1:(e==0)=false:=beq_eq_false_iff_ne.2 h0
  by_cases h3:e=3
  ·rw[if_pos h3]at he
   have h2:(e==3)=true:=beq_iff_eq.2 h3
   replace he:=fe6 he
   clear aC6 cu4 h3
   go_wp2
   go_ret
   exact⟨_,H2,rfl,y2,by rw[←hS.out,he.out];rfl⟩
  ·rw[if_neg h3]at he
   have h2:(e==3)=false:=beq_eq_false_iff_ne.2 h3
   replace he:=fe6 he
   clear aC6 cu4 h3
   go_wp2
   go_ret
   exact⟨_,H2,rfl,y2,by rw[←hS.out,he.out];rfl⟩
end
section
open Go.RowKit
theorem cd6:∀s:List UInt8,∀p∈R9 s,p.length≤s.length:=ad1 (fun p hp=>by
 have:p=[]:=by simpa [R9]using hp
 rw[this];exact fh3 _) fun s b ih p hp=>by
 rw[ap3]at hp
 rw[ff4,ff7]
 unfold U7 at hp
 split at hp
 ·rcases List.mem_append.1 hp with h|h
  ·have:=ih p h;omega
  ·rw[List.mem_singleton.1 h];exact fh3 _
 ·rcases List.mem_append.1 hp with h|h
  ·have:=ih p ((List.dropLast_sublist _).subset h);omega
  ·rw[List.mem_singleton.1 h,ff4,ff7]
   have hne:=aB3 s
   have:(R9 s).getLastD []∈R9 s:=by
    rw[List.getLastD_eq_getLast?,List.getLast?_eq_some_getLast hne]
    exact List.getLast_mem hne
   have:=ih _ this
   omega
theorem J6 (s:ByteArray):∀p∈C9 s,p.size≤s.size:=fun p hp=>by
 unfold C9 at hp
 obtain⟨l,hl,rfl⟩:=List.mem_map.1 hp
 have h:=cd6 (C8 s) l hl
 have hsz:s.size=(C8 s).length:=by unfold C8;simp
 rw[hsz]
 show l.toArray.size≤_
 simpa using h
theorem cd7 {H:j5}:∀(l:List ByteArray),(∀p∈l,p.size≤140737488355328)→P6 H l (l.map Value.string)
 |[],_=>rfl
 |x::l,h=>⟨[.string x],l.map Value.string,rfl,⟨rfl,h x (by simp)⟩,cd7 l fun p hp=>h p (by simp[hp])⟩
theorem ab4 (s:ByteArray) (hs:s.size≤100000) (H:j5) (d:Doors H) (w:World) (hw:j4 H w):Calls Tryz.prog 117 #[.string s,.string ⟨#[32]⟩] w (Post w H fun u H'=>Sl H' u (C9 s)):=by
 obtain⟨z,T,fr,h⟩:=d.m
 have hm:w.cell? ⟨0,0,none⟩=some (.int .i64 z):=by
  have:=hw.at_ _ _ h
  simp[World.cell?,show w.heap[0]? =_ from this]
 refine(Tryz.strings_Split s ⟨#[32]⟩ z w (by omega) hm (by decide)).mono ?_
 rintro e w' ⟨rfl,rfl⟩
 have hlen:(C9 s).length=Lib.countB s ⟨#[32]⟩+1:=by rw[←cn9];exact Lib.splitB_all _ (by decide) 0 _ s rfl
 have hle:Lib.countB s ⟨#[32]⟩≤s.size:=Lib.countB_le _ (by decide) s.size s (fh0 _)
 rw[cn9]
 obtain⟨x1,_,hp⟩:=(Ext.refl hw).newF ((C9 s).map Value.string).toArray 9
 refine⟨_,_,rfl,x1,some ⟨w.heap.size,0,none⟩,_,by rw[hlen],by rw[hlen];exact fh0 _,by omega,by rw[hlen];show(_+1)*16≤_;omega,.inr ⟨w.heap.size,0,_,_,_,rfl,hp,by simp[Enc.sz], ?_⟩⟩
 have:=cd7 (H:=H.put w.heap.size (.cells ((C9 s).map Value.string).toArray 9 (0,0))) (C9 s) fun p hp=>fh1 (J6 s p hp) (by omega)
 have e:((C9 s).map Value.string).take (C9 s).length=(C9 s).map Value.string:=fg7 (by rw[fg5];exact fh0 _)
 simpa [Enc.sz,e]using this
end
section
open Go.RowKit
attribute [local go_sem] j4.drew j4.alloc j4.drewN WB.holds Oper.semAt_some Q9 O1 J7
theorem aF5 (s:ByteArray):∃x q,C9 s=x::q:=by
 unfold C9
 cases h:R9 (C8 s)with
 |nil=>exact absurd h (aB3 _)
 |cons a l=>exact⟨J8 a,l.map J8,rfl⟩
theorem cV0 {s:ByteArray} (h:(A7 (C9 s)).kind=1):A8 s=A7 (C9 s):=by
 unfold A8 ac8
 rw[if_pos (by rw[h];decide)]
theorem dv3 {He:j5} {base:Nat} {w:World} {D:Nat} {gm gb gt gu go' ga rv:Value} {g:D5} {recs:List Rec} (d:L8 He base w D gm gb gt gu go' ga rv g recs) (v:F6 g=true) (dr:Doors He) (hl:recs.length<1000) (hbase:base≤w.heap.size) (line:Int) (hI:K8 line) (s:ByteArray) (hs:s.size≤10000) (hz:(J9 (C9 s)).size≤100000) (hq:(C9 s).length≤1000) (hk:(A7 (C9 s)).kind=1):
 Calls Tryz.prog 76 #[.pointer (some ⟨D,0,none⟩),.int .i64 line,.string s] w (X8 He base w D gm gb gt gu go' ga rv g (recs++[⟨line,some (A8 s)⟩]) (ae4 (changed (U8 g (ahead recs line)) (A8 s).word (A8 s).nums).2)):=by
 obtain⟨x,q,hsp⟩:=aF5 s
 have J5:=ab4 s (by omega) He dr w d.h
 rw[cV0 hk]
 rw[hsp]at hk hz hq J5 ⊢
 have hxs:x.size≤100000:=by have:=J6 s x (by rw[hsp];simp);omega
 have hre:=fun(va:Value) (H1:j5) (W:World) (hW:j4 H1 W) (hle:D8 He H1) (ha:Sl H1 va (x::q))=>aa0 va x q (by simp at hq;omega) H1 (dr.mono hle) W hW ha hz hxs
 unfold P9 at hre
 simp only[hk,if_true]at hre
 replace hre:=fe6 hre
 replace J5:=fe6 J5
 go_enter Tryz.func76,Tryz.ntmps76
 go_upto_region 2 with(go_at_call 117;refine J5.out.mono ?_;rintro e w1 ⟨_,H1,rfl,x1,s1⟩;obtain⟨a1,c1,rfl,_,_⟩:=s1.form)
 have d1:=d.ext x1
 have l1:=x1.le d.h
 go_upto_region 4 with(go_at_call 118;refine(hre.out _ _ _ x1.holds l1 s1).mono ?_;rintro e w2 ⟨fv,H2,rfl,x2,hf⟩;have hf0:=fe6 hf;obtain⟨ff,cap,rfl,_,_⟩:=hf)
 have d2:=d1.ext x2
 have l2:=x2.le x1.holds
 obtain⟨x3,_,hE⟩:=(Ext.refl d2.h).newF #[.string (J9 (x::q)),.func (.func ff) #[] cap] 145
 have hEP:bv5 (H2.put w2.heap.size (.cells #[.string (J9 (x::q)),.func (.func ff) #[] cap] 145 (0,0))) w2.heap.size (A7 (x::q)):=⟨_,by rw[(av0 (p:=x::q) (by rw[hk];decide)).1];exact hE,hf0.out.mono (x3.le d2.h)⟩
 have d3:=d2.ext x3
 have di2:∀b,b<w.heap.size→(H2.put w2.heap.size (.cells #[.string (J9 (x::q)),.func (.func ff) #[] cap] 145 (0,0))) b=He b:=fun b hb=>by
  have h1:=x1.below.size
  have h2:=x2.below.size
  rw[x3.same b (by omega),x2.same b (by omega),x1.same b hb]
 have ct5:=Only.of (D:=D) (rv:=rv) ((x1.below.trans (x2.below.mono x1.below.size)).trans (x3.below.mono (fh1 x1.below.size x2.below.size)))
 generalize H2.put w2.heap.size (.cells #[.string (J9 (x::q)),.func (.func ff) #[] cap] 145 (0,0))=H3 at*
 generalize w2.alloc (.cells #[.string (J9 (x::q)),.func (.func ff) #[] cap] 145)=w3 at*
 generalize w2.heap.size=E at*
 have htw:=fe6 (bm4 d3 v line)
 have vt:=aF3 v (ahead recs line)
 generalize A7 (x::q)=L at*
 generalize U8 g (ahead recs line)=T at*
 have hon:=fun(H':j5) (W:World) (hW:j4 H' W) (vm vb vt' um uo ua:Value) (hT:Twn H' vm vb vt' um uo ua T) (hp:bv5 H' E L)=>cr6 E L vm vb vt' um uo ua T vt H' W hW hp hT
 unfold aX0 at hon
 obtain⟨T2,b2,hcb⟩:∃T2 b2,changed T L.word L.nums=(T2,b2):=⟨_,_,rfl⟩
 rw[hcb]at hon
 have ex7:=fe6 hcb
 clear hcb
 replace hon:=fe6 hon
 clear d d1 d2 x1 x2 x3 hf0 hE J5 hre s1 l1 l2 hk hz hq hsp
 go_upto_region 5 with(first|(have hgd:=xt;clear hgd;go_at_call 119;go_must (refine(hon.out _ _ xt.holds _ _ _ _ _ _ tw (hEP.mono (xt.le d3.h))).mono ?_);rintro e w5 ⟨_,H5,rfl,xo,u5,rfl,Q0⟩;obtain⟨nm,nb,nt,nu,no,na,rfl,tw6⟩:=Q0;obtain⟨p0,n0,rfl,_,_⟩:=tw6.h.m.form;obtain⟨p1,n1,rfl,_,_⟩:=tw6.h.b.form;obtain⟨p2,n2,rfl,_,_⟩:=tw6.h.t.form;obtain⟨p3,n3,rfl,_,_⟩:=tw6.s.m.form;obtain⟨p4,n4,rfl,_,_⟩:=tw6.s.o.form;obtain⟨p5,n5,rfl,_,_⟩:=tw6.s.a.form)|(go_at_call 79;refine htw.out.mono ?_;rintro e w4 ⟨_,H4,rfl,xt,um,ub,ut,uu,uo,ua,rfl,tw⟩))
 have x35:=(xt.trans xo)
 have d5:=(d3.ext x35).below ((Below.refl w5.heap.size w5).alloc (fh0 _) (.cells #[.slice p0 T2.h.ms.length n0,.slice p1 T2.h.bs.length n1,.slice p2 T2.h.ts.length n2,.int .i64 T2.h.ch,.slice p3 T2.s.mo.length n3,.slice p4 T2.s.wo.length n4,.slice p5 T2.s.wa.length n5,.int .i64 T2.s.fr] 32))
 have dV7:=hEP.mono (x35.le d3.h)
 have dV8:=ct5.trans (rv':=rv) (Only.of (x35.below.trans (((Below.refl w5.heap.size w5).alloc (fh0 _) (.cells #[.slice p0 T2.h.ms.length n0,.slice p1 T2.h.bs.length n1,.slice p2 T2.h.ts.length n2,.int .i64 T2.h.ch,.slice p3 T2.s.mo.length n3,.slice p4 T2.s.wo.length n4,.slice p5 T2.s.wa.length n5,.int .i64 T2.s.fr] 32)).mono x35.below.size))) (fun _ _ h=>h)
 have aw6:∀b,b<w.heap.size→H5 b=He b:=fun b hb=>(x35.same b (fh4 hb ct5.b.size)).trans (di2 b hb)
 generalize w5.alloc (.cells #[.slice p0 T2.h.ms.length n0,.slice p1 T2.h.bs.length n1,.slice p2 T2.h.ts.length n2,.int .i64 T2.h.ch,.slice p3 T2.s.mo.length n3,.slice p4 T2.s.wo.length n4,.slice p5 T2.s.wa.length n5,.int .i64 T2.s.fr] 32)=w6 at*
 obtain⟨ar,cr,rfl,_,_⟩:=d5.own.form
 have hD8:w6.cell? ⟨D,8,none⟩=some (.slice ar recs.length cr):=by simp[World.cell?,d5.row]
 have hrep:Enc.rep H5 (⟨line,some L⟩:Rec) [.int .i64 line,.pointer (some ⟨E,0,none⟩)]:=⟨_,rfl,hI,E,rfl,dV7⟩
 have aX9:Hid ((recs.length+1)*Enc.M4 Rec≤140737488355328):=by show _*16≤_;omega
 have aH8:Hid (recs.length+1≤9223372036854775807):=by show _≤_;omega
 have hbs:base≤w6.heap.size:=fh1 hbase dV8.b.size
 have hwb:=fe6 (fun W:World=>bm5 b2 W)
 replace hrep:=fe6 hrep
 clear x35 xt xo d3 htw hon hEP dV7 ct5 di2 tw tw6
 go_upto_region 6 with(at_builtin;go_must (refine au7 (c:=1) (cs:=[.int .i64 line,.pointer (some ⟨E,0,none⟩)]) ev6 rfl _ _ rfl rfl d5.own rfl hrep.out d5.h aX9.out aH8.out hbs ?_);intro v7 w7 o7 g7 hw7 _;obtain⟨a7,c7,rfl,_,_⟩:=o7.form;obtain⟨e1,e2,dC4,d7⟩:=d5.app hl o7 g7 hw7)
 have dV9:=dV8.trans dC4 (fun _ _ h=>h)
 have hout:∀e,e=Ending.returned (Value.string (ae4 b2))→X8 He base w D gm gb gt gu go' ga (.slice ar recs.length cr) g (recs++[⟨line,some L⟩]) (ae4 (changed T L.word L.nums).2) e (w7.setCell ⟨D,8,none⟩ (.slice a7 (recs++[(⟨line,some L⟩:Rec)]).length c7)):=fun e he=>⟨H5,_,by rw[ex7.out];exact he,dV9,aw6,d7⟩
 have hln:(recs++[(⟨line,some L⟩:Rec)]).length=recs.length+1:=by simp
 rw[hln]at hout
 replace hout:=fe6 hout
 clear d7 dV9 dC4 o7 g7 d5 hrep e1 e2
 cases b2
 all_goals
  go_wp2_with(go_at_call 120;refine(hwb.out _).mono ?_;rintro e w8 ⟨rfl,rfl⟩)
  go_ret
  exact hout.out _ rfl
end
section
open Go.RowKit
attribute [local go_sem] j4.drew j4.alloc j4.drewN WB.holds Oper.semAt_some Q9 O1 J7
theorem am4 {w0 w:World} {H0 H:j5} (x:Ext w0 H0 w H) (a:ByteArray) (ha:a.size≤1000000):
 ∃H2,D8 H H2∧Ext w0 H0 (w.alloc (.cells #[.string a] 9)) H2∧Sl H2 (.slice (some ⟨w.heap.size,0,none⟩) 1 1) [a]:=
 Ext.lit (xs:=[a]) (cs:=[.string a]) x ⟨[.string a],[],rfl,show Enc.rep H a [.string a]from⟨rfl,by omega⟩,rfl⟩ _ (by simp[Enc.M4]) (by simp)
theorem ai2 {b:ByteArray}:T9 [b]=(match O5 b with|some n=>some [n]|none=>none):=by
 unfold T9
 cases O5 b<;>rfl
theorem ak1 {α:Type} [Enc α] (h1:Enc.sz α=1) {H:j5} {b o n c:Nat} {x y:α} {xs:List α} (h:Sl H (.slice (some ⟨b,o,none⟩) n c) (x::y::xs)) {aT:Option Addr} (Z7:(if c=2 then some (⟨b,o,none⟩:Addr)else some ⟨b,o+2,none⟩)=aT):Sl H (.slice aT xs.length (c-2)) xs:=by
 obtain⟨a',c',e,hc1,hc2⟩:=h.form
 cases e
 have hd:=Sl.cL7 h (k:=2) (by simp)
 rw[h1,Nat.mul_one]at hd
 by_cases hc:c=2
 ·rw[if_pos hc]at Z7
  have:xs=[]:=by
   have:xs.length=0:=by simp at hc1;omega
   exact List.eq_nil_of_length_eq_zero this
  subst this
  exact Sl.nil H aT (by omega)
 ·rw[if_neg hc]at Z7
  subst Z7
  simpa using hd
theorem dW0 {He:j5} {base:Nat} {w:World} {D:Nat} {gm gb gt gu go' ga rv:Value} {g:D5} {recs:List Rec} (d:L8 He base w D gm gb gt gu go' ga rv g recs) (v:F6 g=true) (dr:Doors He) (line:Int) (hI:K8 line) (s:ByteArray) (hs:s.size≤10000) (hz:(J9 (C9 s)).size≤100000) (hq:(C9 s).length≤1000) (hk:(A7 (C9 s)).kind=2):
 Calls Tryz.prog 76 #[.pointer (some ⟨D,0,none⟩),.int .i64 line,.string s] w (X8 He base w D gm gb gt gu go' ga rv g (recs) (U6 (U8 g (ahead recs line)) (A7 (C9 s)).word (A7 (C9 s)).nums)):=by
 obtain⟨x,q,hsp⟩:=aF5 s
 have J5:=ab4 s (by omega) He dr w d.h
 rw[hsp]at hk hz hq J5 ⊢
 have hxs:x.size≤100000:=by have:=J6 s x (by rw[hsp];simp);omega
 have hre:=fun(va:Value) (H1:j5) (W:World) (hW:j4 H1 W) (hle:D8 He H1) (ha:Sl H1 va (x::q))=>aa0 va x (q) (by simp at hq ⊢<;>omega) H1 (dr.mono hle) W hW ha hz hxs
 unfold P9 at hre
 have hk1:¬(A7 (x::q)).kind=1:=by rw[hk];decide
 simp only[if_neg hk1]at hre
 have hrq:=fun(va:Value) (H1:j5) (W:World) (hW:j4 H1 W) (hle:D8 He H1) (ha:Sl H1 va (x::q))=>ab3 va x (q) (by simp at hq ⊢<;>omega) H1 (dr.mono hle) W hW ha hxs
 unfold R4 at hrq
 simp only[hk,if_true]at hrq
 replace hre:=fe6 hre
 replace hrq:=fe6 hrq
 replace J5:=fe6 J5
 clear hk1
 obtain⟨N,hN⟩:∃N,Hid ((x::q).length=N):=⟨_,rfl⟩
 go_enter Tryz.func76,Tryz.ntmps76
 go_upto_region 2 with(go_at_call 117;refine J5.out.mono ?_;rintro e w1 ⟨_,H1,rfl,x1,s1⟩;obtain⟨a1,c1,e1,_,_⟩:=s1.form;rw[hN.out]at e1;subst e1)
 have l1:=x1.le d.h
 go_upto_region 9 with(go_at_call 118;refine(hre.out _ _ _ x1.holds l1 s1).mono ?_;rintro e w2 ⟨rfl,hb2⟩;have x2:=x1.step (hb2.mono x1.below.size) (x1.holds.below hb2))
 have x3:=x2.alloc (.cells #[.string ⟨#[]⟩,.nilFunc] 145)
 generalize w2.alloc (.cells #[.string ⟨#[]⟩,.nilFunc] 145)=w3 at*
 clear x1 x2 hb2 hre J5
 have vt:=aF3 v (ahead recs line)
 have htw:=fun(H':j5) (W:World) (d':L8 H' base W D gm gb gt gu go' ga rv g recs)=>bm4 d' v line
 replace htw:=fe6 htw
 generalize hT:U8 g (ahead recs line)=T at*
 generalize A7 (x::q)=L at*
 obtain⟨S,hS⟩:∃S,Hid (U6 T L.word L.nums=S):=⟨_,rfl⟩
 rw[hS.out]
 clear hT hk hz hq hsp
 go_upto_region 11 with(go_at_call 121;refine(hrq.out _ _ _ x3.holds l1 s1).mono ?_;rintro e w4 ⟨fv,H4,rfl,y4,hf⟩;have x4:=x3.trans y4)
 have d4:=d.ext x4
 have ex8:=fe6 (htw.out _ _ d4)
 clear htw hrq d4
 go_wp2_with(first
  |(have hgd:=x5;clear hgd;go_at_call 122;go_must (refine(cu3 (hf.mono (y5.le x4.holds)) (dr.mono (x5.le d.h)) _ _ _ _ _ _ T vt _ x5.holds tw).mono ?_);rintro e w6 ⟨_,H6,rfl,y6,rfl⟩;have x6:=x5.trans y6)
  |(go_at_call 79;refine ex8.out.mono ?_;rintro e w5 ⟨_,H5,rfl,y5,um,ub,ut,uu,uo,ua,rfl,tw⟩;have x5:=x4.trans y5))
 go_ret
 rw[hS.out]
 exact⟨H6,rv,rfl,Only.of x6.below,fun b hb=>x6.same b hb,d.ext x6⟩
end
section
open Go.RowKit
attribute [local go_sem] j4.drew j4.alloc j4.drewN WB.holds Oper.semAt_some Q9 O1 J7
theorem dv4 {He:j5} {base:Nat} {w:World} {D:Nat} {gm gb gt gu go' ga rv:Value} {g:D5} {recs:List Rec} (d:L8 He base w D gm gb gt gu go' ga rv g recs) (v:F6 g=true) (dr:Doors He) (line:Int) (hI:K8 line) (s:ByteArray) (hs:s.size≤10000) (hz:(J9 (C9 s)).size≤100000) (hq:(C9 s).length≤1000) (x:ByteArray) (hsp:C9 s=[x]) (hk:(A7 (C9 s)).kind=0):
 Calls Tryz.prog 76 #[.pointer (some ⟨D,0,none⟩),.int .i64 line,.string s] w (X8 He base w D gm gb gt gu go' ga rv g (recs) (ai7)):=by
 have J5:=ab4 s (by omega) He dr w d.h
 rw[hsp]at hk hz hq J5
 have hxs:x.size≤100000:=by have:=J6 s x (by rw[hsp];simp);omega
 have hre:=fun(va:Value) (H1:j5) (W:World) (hW:j4 H1 W) (hle:D8 He H1) (ha:Sl H1 va (x::[]))=>aa0 va x ([]) (by simp at hq ⊢<;>omega) H1 (dr.mono hle) W hW ha hz hxs
 unfold P9 at hre
 have hk1:¬(A7 (x::[])).kind=1:=by rw[hk];decide
 simp only[if_neg hk1]at hre
 have hrq:=fun(va:Value) (H1:j5) (W:World) (hW:j4 H1 W) (hle:D8 He H1) (ha:Sl H1 va (x::[]))=>ab3 va x ([]) (by simp at hq ⊢<;>omega) H1 (dr.mono hle) W hW ha hxs
 unfold R4 at hrq
 simp only[show ¬(A7 (x::[])).kind=2 by rw[hk];decide,if_false]at hrq
 replace hre:=fe6 hre
 replace hrq:=fe6 hrq
 replace J5:=fe6 J5
 clear hk1
 obtain⟨N,hN⟩:∃N,Hid ((x::[]).length=N):=⟨_,rfl⟩
 go_enter Tryz.func76,Tryz.ntmps76
 go_upto_region 2 with(go_at_call 117;refine J5.out.mono ?_;rintro e w1 ⟨_,H1,rfl,x1,s1⟩;obtain⟨a1,c1,e1,_,_⟩:=s1.form;rw[hN.out]at e1;subst e1)
 have l1:=x1.le d.h
 go_upto_region 9 with(go_at_call 118;refine(hre.out _ _ _ x1.holds l1 s1).mono ?_;rintro e w2 ⟨rfl,hb2⟩;have x2:=x1.step (hb2.mono x1.below.size) (x1.holds.below hb2))
 have x3:=x2.alloc (.cells #[.string ⟨#[]⟩,.nilFunc] 145)
 generalize w2.alloc (.cells #[.string ⟨#[]⟩,.nilFunc] 145)=w3 at*
 clear x1 x2 hb2 hre J5
 have hN1:(N:Int)<2:=by rw[←hN.out];simp
 go_upto_region 12 with(go_at_call 121;refine(hrq.out _ _ _ x3.holds l1 s1).mono ?_;rintro e w4 ⟨rfl,hb4⟩;have x4:=x3.step (hb4.mono x3.below.size) (x3.holds.below hb4))
 clear x3 hb4 hrq
 have hw4:=x4.holds
 go_wp2
 go_ret
 exact⟨H1,rv,rfl,Only.of x4.below,fun b hb=>x4.same b hb,d.ext x4⟩
theorem dv5 {He:j5} {base:Nat} {w:World} {D:Nat} {gm gb gt gu go' ga rv:Value} {g:D5} {recs:List Rec} (d:L8 He base w D gm gb gt gu go' ga rv g recs) (v:F6 g=true) (dr:Doors He) (line:Int) (hI:K8 line) (s:ByteArray) (hs:s.size≤10000) (hz:(J9 (C9 s)).size≤100000) (hq:(C9 s).length≤1000) (x b:ByteArray) (q:List ByteArray) (hsp:C9 s=x::b::q) (hk:(A7 (C9 s)).kind=0) (hnb:O5 b=none):
 Calls Tryz.prog 76 #[.pointer (some ⟨D,0,none⟩),.int .i64 line,.string s] w (X8 He base w D gm gb gt gu go' ga rv g (recs) (ai7)):=by
 have J5:=ab4 s (by omega) He dr w d.h
 rw[hsp]at hk hz hq J5
 have hxs:x.size≤100000:=by have:=J6 s x (by rw[hsp];simp);omega
 have hre:=fun(va:Value) (H1:j5) (W:World) (hW:j4 H1 W) (hle:D8 He H1) (ha:Sl H1 va (x::b::q))=>aa0 va x (b::q) (by simp at hq ⊢<;>omega) H1 (dr.mono hle) W hW ha hz hxs
 unfold P9 at hre
 have hk1:¬(A7 (x::b::q)).kind=1:=by rw[hk];decide
 simp only[if_neg hk1]at hre
 have hrq:=fun(va:Value) (H1:j5) (W:World) (hW:j4 H1 W) (hle:D8 He H1) (ha:Sl H1 va (x::b::q))=>ab3 va x (b::q) (by simp at hq ⊢<;>omega) H1 (dr.mono hle) W hW ha hxs
 unfold R4 at hrq
 simp only[show ¬(A7 (x::b::q)).kind=2 by rw[hk];decide,if_false]at hrq
 replace hre:=fe6 hre
 replace hrq:=fe6 hrq
 replace J5:=fe6 J5
 clear hk1
 obtain⟨N,hN⟩:∃N,Hid ((x::b::q).length=N):=⟨_,rfl⟩
 go_enter Tryz.func76,Tryz.ntmps76
 go_upto_region 2 with(go_at_call 117;refine J5.out.mono ?_;rintro e w1 ⟨_,H1,rfl,x1,s1⟩;obtain⟨a1,c1,e1,_,_⟩:=s1.form;rw[hN.out]at e1;subst e1)
 have l1:=x1.le d.h
 go_upto_region 9 with(go_at_call 118;refine(hre.out _ _ _ x1.holds l1 s1).mono ?_;rintro e w2 ⟨rfl,hb2⟩;have x2:=x1.step (hb2.mono x1.below.size) (x1.holds.below hb2))
 have x3:=x2.alloc (.cells #[.string ⟨#[]⟩,.nilFunc] 145)
 generalize w2.alloc (.cells #[.string ⟨#[]⟩,.nilFunc] 145)=w3 at*
 clear x1 x2 hb2 hre J5
 have hbz:b.size≤1000000:=by have:=J6 s b (by rw[hsp];simp);omega
 have hlq:(N:Int)=(q.length:Int)+2:=by rw[←hN.out];simp;omega
 have hl2:¬(N:Int)<2:=by omega
 have hl3:(1:Int)<(N:Int):=by omega
 have hN2:(2:Int)≤(N:Int):=by omega
 have hN0:(0:Int)<(N:Int):=by omega
 obtain⟨b1,o1,c1',he1,hbs,rb⟩:=s1.str (show At (x::b::q) 1 b from rfl)
 rw[hN.out]at he1
 cases he1
 obtain⟨b1',o1',aQ8,he1,aQ9,rx⟩:=s1.str (show At (x::b::q) 0 x from rfl)
 rw[hN.out]at he1
 cases he1
 simp only[fh2]at rx
 have F5:=fun(W:World) (va:Value) (H':j5) (hW:j4 H' W) (hle:D8 He H') (ha:Sl H' va [b])=>U5 va [b] (by simp) H' (dr.mono hle) W hW ha
 unfold V9 at F5
 rw[ai2,hnb]at F5
 replace F5:=fe6 F5
 replace hlq:=fe6 hlq
 go_upto_region 12 with(go_at_call 121;refine(hrq.out _ _ _ x3.holds l1 s1).mono ?_;rintro e w4 ⟨rfl,hb4⟩;have x4:=x3.step (hb4.mono x3.below.size) (x3.holds.below hb4))
 clear x3 hb4 hrq
 have hw4:=x4.holds
 go_wp2_with(go_at_call 123;obtain⟨H5,l5,x5,s5⟩:=am4 x4 b (by omega);go_must (refine(F5.out _ _ _ x5.holds (l1.trans l5) s5).mono ?_);rintro e w6 ⟨rfl,hb6⟩;have x6:=x5.step (hb6.mono x5.below.size) (x5.holds.below hb6))
 go_ret
 exact⟨H5,rv,rfl,Only.of x6.below,fun b hb=>x6.same b hb,d.ext x6⟩
end
end Go.Proofs.YtbliehinagkldaaGreatDoor
