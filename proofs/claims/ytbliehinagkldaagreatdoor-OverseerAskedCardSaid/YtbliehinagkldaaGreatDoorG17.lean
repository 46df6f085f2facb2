/- Lemmas and walks on which the claims of this seat lean (names and blanks made short by a program): ORef12g OLwB OLwC ORun ORef12h. -/
import Derived.Test.YtbliehinagkldaaGreatDoorG01
import Derived.Test.YtbliehinagkldaaGreatDoorG02
import Derived.Test.YtbliehinagkldaaGreatDoorG03
import Derived.Test.YtbliehinagkldaaGreatDoorG04
import Derived.Test.YtbliehinagkldaaGreatDoorG09
import Derived.Test.YtbliehinagkldaaGreatDoorG10
import Derived.Test.YtbliehinagkldaaGreatDoorG12
import Derived.Test.YtbliehinagkldaaGreatDoorG13
import Derived.Test.YtbliehinagkldaaGreatDoorG16

set_option linter.all false
set_option maxRecDepth 100000
set_option maxHeartbeats 16000000
open Go.Lib renaming hid → fe6
open List renaming setIfInBounds_toArray → fe7, getElem?_cons_zero → fe8, getElem?_cons_succ → fe9, getElem?_toArray → ff0, set_cons_zero → ff1, set_cons_succ → ff2, length_append → ff4, drop_succ_cons → ff5, drop_zero → ff6, length_singleton → ff7, length_cons → ff8, nil_append → ff9, length_nil → fg1, cons_append → fg2, push_toArray → fg3, length_take → fg6, take_of_length_le → fg7
open Array renaming replicate_zero → fg8, replicate_succ → fg9
open Nat renaming le_refl → fh0, le_trans → fh1, zero_le → fh3, reduceAdd → fh6, reduceSub → fh7
open Int renaming toNat_natCast → fh8
open Bool renaming and_eq_true → fh9
namespace Go.Proofs.YtbliehinagkldaaGreatDoor
section
open Go.RowKit
theorem aU3 (s:ByteArray) (hs:s.size≤1100000) (H:j5) (w:World) (hw:j4 H w):Calls Tryz.prog 44 #[.string s] w (Post w H fun u H'=>bY2 H' u (A8 s)):=by
 obtain⟨x,r,hsp⟩:=aF5 s
 by_cases hk:(A7 (C9 s)).kind=0
 case neg=>
  rw[aX7 hk,hsp]
  rw[hsp]at hk
  exact cw1 s hs H w hw x r hsp hk
 have hk':=hk
 rw[hsp]at hk'
 cases r with
 |nil=>
  rw[bP0 hsp hk]
  exact cV5 s hs H w hw x hsp hk'
 |cons b q=>
  cases hnb:O5 b with
  |none=>
   rw[bP1 hsp hk hnb]
   exact cV6 s hs H w hw x b q hsp hk' hnb
  |some n=>
   rw[bG0 hsp hk hnb]
   unfold am6
   by_cases h1:x=Z6
   ·rw[if_pos h1]
    cases q with
    |nil=>rw[if_pos rfl];exact ab9 s hs H w hw x b n _ _ hsp hk' hnb (.r1 h1 rfl)
    |cons y q=>rw[if_neg (by simp)];exact ab9 s hs H w hw x b n _ _ hsp hk' hnb (.r2 y q h1 rfl)
   ·rw[if_neg h1]
    by_cases h2:x=wAt
    ·rw[if_pos h2]
     cases q with
     |nil=>rw[if_neg (by simp)];exact ab9 s hs H w hw x b n _ _ hsp hk' hnb (.a1 h2 rfl)
     |cons y q=>
      by_cases hk2:(A7 (y::q)).kind=2
      ·rw[if_pos ⟨by simp,hk2⟩];exact ab9 s hs H w hw x b n _ _ hsp hk' hnb (.a2 y q h2 hk2 rfl)
      ·rw[if_neg (fun h=>hk2 h.2)];exact ab9 s hs H w hw x b n _ _ hsp hk' hnb (.a3 y q h2 hk2 rfl)
    ·rw[if_neg h2]
     by_cases h3:x=ad5
     ·rw[if_pos h3]
      cases q with
      |nil=>exact ab9 s hs H w hw x b n _ _ hsp hk' hnb (.l1 _ h3 (by simp) rfl)
      |cons y q=>
       simp only
       cases q with
       |nil=>
        rw[if_pos (.inl rfl)]
        exact ab9 s hs H w hw x b n _ _ hsp hk' hnb (.l1 _ h3 (by simp) rfl)
       |cons z q=>
        by_cases hy:y=wIs
        ·rw[if_neg (by rintro(h|h);cases h;exact h hy)]
         by_cases hne:z::q=[au8]
         ·rw[if_pos hne]
          have e1:z=au8:=by cases hne;rfl
          have e2:q=[]:=by cases hne;rfl
          exact ab9 s hs H w hw x b n _ _ hsp hk' hnb (.l3 y z q h3 hy e1 e2 rfl)
         ·rw[if_neg hne]
          by_cases hq:q=[]
          ·have hz:z≠au8:=fun e=>hne (by rw[e,hq])
           by_cases hk2:(A7 (z::q)).kind=1
           ·rw[if_pos hk2];exact ab9 s hs H w hw x b n _ _ hsp hk' hnb (.l4b y z q h3 hy hq hz hk2 rfl)
           ·rw[if_neg hk2];exact ab9 s hs H w hw x b n _ _ hsp hk' hnb (.l5b y z q h3 hy hq hz hk2 rfl)
          ·by_cases hk2:(A7 (z::q)).kind=1
           ·rw[if_pos hk2];exact ab9 s hs H w hw x b n _ _ hsp hk' hnb (.l4a y z q h3 hy hq hk2 rfl)
           ·rw[if_neg hk2];exact ab9 s hs H w hw x b n _ _ hsp hk' hnb (.l5a y z q h3 hy hq hk2 rfl)
        ·rw[if_pos (.inr hy)]
         exact ab9 s hs H w hw x b n _ _ hsp hk' hnb (.l2 y z q h3 hy rfl)
     ·rw[if_neg h3]
      exact ab9 s hs H w hw x b n _ _ hsp hk' hnb (.other q h1 h2 h3 rfl)
end
section
open Go.RowKit
attribute [local go_sem] j4.drew j4.alloc j4.drewN WB.holds Oper.semAt_some
theorem aU4 (vm vb vt um uo ua zm zb zt ym yo ya:Value) (t:D5) (H:j5) (w:World) (hw:j4 H w) (ha:Twn H vm vb vt um uo ua t) (hb:Twn H zm zb zt ym yo ya t):
 Calls Tryz.prog 24 #[ah0 vm vb vt um uo ua t,ah0 zm zb zt ym yo ya t] w (I1 w (.bool true)):=by
 have c4:=fun(H':j5) (W:World) (hW:j4 H' W) (hle:D8 H H')=>dm4 vm vb vt zm zb zt t.h H' W hW (ha.h.mono hle) (hb.h.mono hle)
 have c2:=fun(H':j5) (W:World) (hW:j4 H' W) (hle:D8 H H')=>da0 um uo ua ym yo ya t.s H' W hW (ha.s.mono hle) (hb.s.mono hle)
 replace c4:=fe6 c4
 replace c2:=fe6 c2
 clear ha hb
 go_enter Tryz.func24,Tryz.ntmps24
 go_wp2_with(first|((have hgd:=hx;refine af8 rfl _ rfl hx ?_;intro C w2 H2 hle2 hx2 hC hCw;obtain⟨hd0,hd1,hd2,hd3,hd4,hd5,hd6,hd7⟩:=I5 hC;replace hc0:=lift hle2 hc0;replace hc1:=lift hle2 hc1;replace hc2:=lift hle2 hc2;replace hc3:=lift hle2 hc3;replace hc4:=lift hle2 hc4;replace O8:=lift hle2 O8;replace hc6:=lift hle2 hc6;replace O9:=lift hle2 O9;clear hC hx hw1;have hw2:=hx2.holds;have hl2:=hle.trans hle2))|(refine af8 rfl _ rfl (Ext.refl hw) ?_;intro B w1 H1 hle hx hB hBw;obtain⟨hc0,hc1,hc2,hc3,hc4,O8,hc6,O9⟩:=I5 hB;clear hB hw;have hw1:=hx.holds)|((go_at_call 54;refine(c4.out H2 _ hw2 hl2).mono ?_;rintro e w3 ⟨rfl,hb3⟩;have hx3:=hx2.step (hb3.mono hx2.below.size) (hw2.below hb3);have hw3:=hx3.holds;clear hw2 hx2))|((go_at_call 55;refine(c2.out H2 _ hw3 hl2).mono ?_;rintro e w4 ⟨rfl,hb4⟩;have hx4:=hx3.step (hb4.mono hx3.below.size) (hw3.below hb4))))
 go_ret
 exact⟨rfl,hx4.below⟩
def aL1 (t:D5):Bool:=bs6 t.h || bA0 t.s
theorem bR3 (vm vb vt um uo ua:Value) (t:D5) (H:j5) (w:World) (hw:j4 H w) (ht:Twn H vm vb vt um uo ua t):
 Calls Tryz.prog 53 #[ah0 vm vb vt um uo ua t] w (I1 w (.bool (aL1 t))):=by
 have c4:=fun(H':j5) (W:World) (hW:j4 H' W) (hle:D8 H H')=>dm5 vm vb vt t.h H' W hW (ht.h.mono hle)
 have c2:=fun(H':j5) (W:World) (hW:j4 H' W) (hle:D8 H H')=>da1 um uo ua t.s H' W hW (ht.s.mono hle)
 have key:Hid (aL1 t=(bs6 t.h || bA0 t.s)):=rfl
 clear ht
 cases g1:bs6 t.h
 all_goals
  rw[g1]at key c4
  replace c4:=fe6 c4
  replace c2:=fe6 c2
  clear g1
  go_enter Tryz.func53,Tryz.ntmps53
  go_wp2_with(first|(refine af8 rfl _ rfl (Ext.refl hw) ?_;intro B w1 H1 hle hx hB hBw;obtain⟨hc0,hc1,hc2,hc3,hc4,O8,hc6,O9⟩:=I5 hB;clear hB hw;have hw1:=hx.holds)|((go_at_call 84;refine(c4.out _ _ hw1 hle).mono ?_;rintro e w2 ⟨rfl,hb2⟩;have x2:=hx.step (hb2.mono hx.below.size) (hw1.below hb2);have hw2:=x2.holds;clear hw1))|((go_at_call 85;refine(c2.out _ _ hw2 hle).mono ?_;rintro e w3 ⟨rfl,hb3⟩;replace x2:=x2.step (hb3.mono x2.below.size) (hw2.below hb3))))
  go_ret
  exact⟨M0 (by rw[key.out];first|rfl|simp),x2.below⟩
theorem ce4 (k o:Int) (a b:ByteArray) (v:Value) (W:World):(Instr.field 82 (.agg #[.int .i64 k,.int .i64 o,.string a,.string b,v]) 0).run Tryz.prog W= .ok (.int .i64 k) W:=by kernel_rfl
theorem bx8 (k o:Int) (a b:ByteArray) (v:Value) (W:World):(Instr.field 82 (.agg #[.int .i64 k,.int .i64 o,.string a,.string b,v]) 2).run Tryz.prog W= .ok (.string a) W:=by kernel_rfl
attribute [local go_sem] ce4 bx8
theorem aI0 (s:ByteArray) (hs:s.size≤1100000) (H:j5) (w:World) (hw:j4 H w):
 Calls Tryz.prog 16 #[.string s] w (I1 w (.int .i64 (A8 s).kind)):=by
 have hr:=fe6 (aU3 s hs H)
 go_enter Tryz.func16,Tryz.ntmps16
 go_wp2_with(first|(go_at_call 44;refine(hr.out _ hw).mono ?_;rintro e w4 ⟨u,H4,rfl,x4,hu⟩;obtain⟨v,rfl,hv⟩:=hu;obtain⟨a1,c1,rfl,_,_⟩:=hv.form))
 go_ret
 exact⟨rfl,x4.below⟩
def dE0 (s:ByteArray):Bool:=decide ((A8 s).kind≠0∧(A8 s).kind≠1∧(A8 s).kind≠2)
theorem ea7 (s:ByteArray) (hs:s.size≤900) (H:j5) (w:World) (hw:j4 H w):
 Calls Tryz.prog 42 #[.string s] w (I1 w (.bool (dE0 s))):=by
 have hr:=aI0 s (by omega) H
 have hm:Hid (dE0 s=decide ((A8 s).kind≠0∧(A8 s).kind≠1∧(A8 s).kind≠2)):=rfl
 generalize(A8 s).kind=K at*
 replace hr:=fe6 hr
 by_cases h0:K=0
 ·subst h0
  go_enter Tryz.func42,Tryz.ntmps42
  go_wp2_with(first|(go_at_call 16;refine(hr.out _ hw).mono ?_;rintro e w4 ⟨rfl,hb4⟩))
  go_ret
  exact⟨M0 (by rw[hm.out];rfl),hb4⟩
 by_cases h1:K=1
 ·subst h1
  go_enter Tryz.func42,Tryz.ntmps42
  go_wp2_with(first|(go_at_call 16;refine(hr.out _ hw).mono ?_;rintro e w4 ⟨rfl,hb4⟩))
  go_ret
  exact⟨M0 (by rw[hm.out];rfl),hb4⟩
 by_cases h2:K=2
 ·subst h2
  go_enter Tryz.func42,Tryz.ntmps42
  go_wp2_with(first|(go_at_call 16;refine(hr.out _ hw).mono ?_;rintro e w4 ⟨rfl,hb4⟩))
  go_ret
  exact⟨M0 (by rw[hm.out];rfl),hb4⟩
 ·go_enter Tryz.func42,Tryz.ntmps42
  go_wp2_with(first|(go_at_call 16;refine(hr.out _ hw).mono ?_;rintro e w4 ⟨rfl,hb4⟩))
  go_ret
  exact⟨M0 (by rw[hm.out];simp[h0,h1,h2]),hb4⟩
theorem dw9 (n:Int) (e:ByteArray):(⟨#[108,105,110,101,32]⟩:ByteArray)++G6 n++⟨#[32,105,115,32]⟩++e=ch3 n e:=by
 have h:C8 ((⟨#[108,105,110,101,32]⟩:ByteArray)++G6 n++⟨#[32,105,115,32]⟩++e)=C8 (ch3 n e):=by
  rw[aa5,aa5,aa5]
  rfl
 exact ah1 h
theorem ez7 (n:Int) (e:ByteArray) (he:e.size≤900) (h1:0≤n) (h2:n≤9999) (w:World):
 Calls Tryz.prog 20 #[.int .i64 n,.string e] w (I1 w (.string (ch3 n e))):=by
 have ht:=fe6 (bL9 n (by omega) (by omega))
 have hz:(G6 n).size≤4:=bm7 h1 h2
 have hE:Hid ((⟨#[108,105,110,101,32]⟩:ByteArray)++G6 n++⟨#[32,105,115,32]⟩++e=ch3 n e):=dw9 n e
 generalize G6 n=T at*
 go_enter Tryz.func20,Tryz.ntmps20
 go_wp2_with(first|(go_at_call 41;refine(ht.out _).mono ?_;rintro e w4 ⟨rfl,hb4⟩))
 go_ret
 exact⟨by rw[←hE.out];rfl,hb4⟩
end
section
open Go.RowKit
attribute [local go_sem] j4.drew j4.alloc j4.drewN WB.holds Oper.semAt_some ce4 bx8
def bY3 (t:D5) (l:List ByteArray):Bool:=aL1 t || (decide (60<l.length) || ((l.any fun s=>decide (60<s.size)) || (decide (4<t.h.bs.length+aK1 l)&&F6 t)))
theorem ce5 (l:List ByteArray) (s:ByteArray):aK1 (l++[s])=aK1 l+if(A8 s).word=Z0 then 1 else 0:=by
 unfold aK1
 rw[List.map_append,List.countP_append]
 show _+List.countP aT0 [A8 s]=_
 rw[List.countP_singleton]
 congr 1
 unfold aT0
 simp
theorem dx0 {t:D5} (h:aL1 t=false):t.h.bs.length≤40:=by
 unfold aL1 bs6 at h
 simp at h
 omega
theorem dj7 (vm vb vt um uo ua lv:Value) (t:D5) (l:List ByteArray) (H:j5) (w:World) (hw:j4 H w) (ht:Twn H vm vb vt um uo ua t) (hl:Sl H lv l):
 Calls Tryz.prog 46 #[ah0 vm vb vt um uo ua t,lv] w (I1 w (.bool (bY3 t l))):=by
 obtain⟨al,cl,rfl,hl1,hl2⟩:=hl.form
 obtain⟨ab,cb,rfl,hb1,hb2⟩:=ht.h.b.form
 have c1:=fun(H':j5) (W:World) (hW:j4 H' W) (hle:D8 H H')=>bR3 _ _ _ _ _ _ t H' W hW (ht.mono hle)
 have c2:=fun(H':j5) (W:World) (hW:j4 H' W) (hle:D8 H H')=>bd5 _ _ _ _ _ _ t H' W hW (ht.mono hle)
 obtain⟨F,hF⟩:∃F,Hid (bY3 t l=F):=⟨_,rfl⟩
 rw[hF.out]
 have key:Hid (F=(aL1 t || (decide (60<l.length) || ((l.any fun s=>decide (60<s.size)) || (decide (4<t.h.bs.length+aK1 l)&&F6 t))))):=hF.out.symm
 have hbs:=dx0 (t:=t)
 clear hF ht
 cases g1:aL1 t
 case true=>
  rw[g1]at key c1
  replace c1:=fe6 c1
  clear g1 c2 hbs
  go_enter Tryz.func46,Tryz.ntmps46
  go_wp2_with(first|(refine af8 rfl _ rfl (Ext.refl hw) ?_;intro B w1 H1 hle hx hB hBw;obtain⟨hc0,hc1,hc2,hc3,hc4,O8,hc6,O9⟩:=I5 hB;clear hB hw;have hw1:=hx.holds)|((go_at_call 53;refine(c1.out _ _ hw1 hle).mono ?_;rintro e w2 ⟨rfl,hb2⟩;have x2:=hx.step (hb2.mono hx.below.size) (hw1.below hb2))))
  go_ret
  exact⟨M0 (by rw[key.out];rfl),x2.below⟩
 rw[g1]at key c1
 replace hbs:=hbs g1
 replace c1:=fe6 c1
 replace c2:=fe6 c2
 clear g1
 by_cases g2:(60:Int)<(l.length:Int)
 ·go_enter Tryz.func46,Tryz.ntmps46
  go_wp2_with(first|(refine af8 rfl _ rfl (Ext.refl hw) ?_;intro B w1 H1 hle hx hB hBw;obtain⟨hc0,hc1,hc2,hc3,hc4,O8,hc6,O9⟩:=I5 hB;clear hB hw;have hw1:=hx.holds)|((go_at_call 53;refine(c1.out _ _ hw1 hle).mono ?_;rintro e w2 ⟨rfl,hb2⟩;have x2:=hx.step (hb2.mono hx.below.size) (hw1.below hb2))))
  go_ret
  exact⟨M0 (by rw[key.out,decide_eq_true (show 60<l.length by omega)];rfl),x2.below⟩
 go_enter Tryz.func46,Tryz.ntmps46
 go_wp2_with(first|(refine af8 rfl _ rfl (Ext.refl hw) ?_;intro B w1 H1 hle hx hB hBw;obtain⟨hc0,hc1,hc2,hc3,hc4,O8,hc6,O9⟩:=I5 hB;clear hB hw;have hw1:=hx.holds)|((go_at_call 53;refine(c1.out _ _ hw1 hle).mono ?_;rintro e w2 ⟨rfl,hb2⟩;have x2:=hx.step (hb2.mono hx.below.size) (hw1.below hb2);have hw2:=x2.holds;clear hw1 hx)))
 have hlm:=hl.mono hle
 replace hbs:=fe6 hbs
 clear hl c1
 go_loopw [5,6] (fun n i wr=>∃(k N:Nat),k≤l.length∧N≤100+k∧n= .int .i64 N∧i= .int .i64 k∧Hid (N=t.h.bs.length+aK1 (l.take k))∧Hid ((l.take k).any (fun s=>decide (60<s.size))=false)∧Ext w H wr H1) (fun n i _=>l.length-(intOf i).toNat)
 case atStart=>exact⟨0,t.h.bs.length,fh3 _,by have:=hbs.out;omega,rfl,rfl,fe6 rfl,fe6 rfl,x2⟩
 case round=>
  clear x2 hw2 hb2
  obtain⟨k,N,hk,hN,rfl,rfl,hcn,hok,E5⟩:=hrel
  have hwr:=E5.holds
  by_cases hlk:k<l.length
  ·obtain⟨s,hsk⟩:=At.mk hlk
   obtain⟨bo,oo,co,hez,hsz,p0⟩:=hlm.str hsk
   cases hez
   have hsp:=fe6 hsk.take
   by_cases hz:(60:Int)<(s.size:Int)
   ·go_wp2_with fail
    go_ret
    exact⟨M0 (by
     rw[key.out]
     have:l.any (fun s=>decide (60<s.size))=true:=List.any_eq_true.2 ⟨s,hsk.mem,by simp;omega⟩
     rw[this];simp),E5.below⟩
   ·have hr:=fe6 (aU3 s (by omega) H1)
    have hw8:Hid ((A8 s).word=(A8 s).word):=rfl
    by_cases hwd:(A8 s).word=Z0
    ·have e1:=G8 (l:=[98,117,110,100,108,101]) hwd
     have hb1:=fe6 (ce5 (l.take k) s)
     replace hwd:=fe6 hwd
     go_wp2_with(go_at_call 44;refine(hr.out _ hwr).mono ?_;rintro e w4 ⟨u,H4,rfl,x4,hu⟩;obtain⟨v,rfl,hv⟩:=hu;obtain⟨a1,c1,rfl,_,_⟩:=hv.form)
     go_roundw
     case rel=>exact⟨k+1,N+1,by omega,by omega,by go_num,by go_num,fe6 (by rw[hsp.out,hb1.out,if_pos hwd.out,hcn.out];omega),fe6 (by rw[hsp.out,List.any_append,hok.out];simp;omega),E5.step (x4.below.mono E5.below.size) (x4.old hwr)⟩
     case measure=>simp[intOf];omega
    ·have e1:=j6 (l:=[98,117,110,100,108,101]) hwd
     have hb1:=fe6 (ce5 (l.take k) s)
     replace hwd:=fe6 hwd
     go_wp2_with(go_at_call 44;refine(hr.out _ hwr).mono ?_;rintro e w4 ⟨u,H4,rfl,x4,hu⟩;obtain⟨v,rfl,hv⟩:=hu;obtain⟨a1,c1,rfl,_,_⟩:=hv.form)
     go_roundw
     case rel=>exact⟨k+1,N,by omega,by omega,rfl,by go_num,fe6 (by rw[hsp.out,hb1.out,if_neg hwd.out,hcn.out];omega),fe6 (by rw[hsp.out,List.any_append,hok.out];simp;omega),E5.step (x4.below.mono E5.below.size) (x4.old hwr)⟩
     case measure=>simp[intOf];omega
  ·have hfin:Hid (N=t.h.bs.length+aK1 l∧l.any (fun s=>decide (60<s.size))=false):=by
    have h1:=hcn.out
    have h2:=hok.out
    rw[fg7 (by omega)]at h1 h2
    exact⟨h1,h2⟩
   clear hcn hok
   by_cases g4:(4:Int)<(N:Int)
   ·cases g5:F6 t
    all_goals
     have he:aH2 (F6 t)=aH2 (F6 t):=rfl
     have hek:=c2
     rw[g5]at key hek
     first
     |(rw[show aH2 true=0 from rfl]at hek)
     |(rw[show aH2 false=120 from rfl]at hek)
     clear he c2 g5
     go_wp2_with(go_at_call 49;refine(hek.out _ _ hwr hle).mono ?_;rintro e w4 ⟨rfl,hb4⟩)
     go_ret
     exact⟨M0 (by rw[key.out,hfin.out.2,decide_eq_false (show ¬60<l.length by omega),decide_eq_true (show 4<t.h.bs.length+aK1 l by have:=hfin.out.1;omega)];rfl),E5.below.trans (hb4.mono E5.below.size)⟩
   ·go_wp2_with fail
    go_ret
    exact⟨M0 (by rw[key.out,hfin.out.2,decide_eq_false (show ¬60<l.length by omega),decide_eq_false (show ¬4<t.h.bs.length+aK1 l by have:=hfin.out.1;omega)];rfl),E5.below⟩
def aF8 (t:D5) (l:List ByteArray):Bool:= !(bY3 t l)&&(F6 t&&decide (l.length≤24))
theorem aA3 (vm vb vt um uo ua lv:Value) (t:D5) (l:List ByteArray) (H:j5) (w:World) (hw:j4 H w) (ht:Twn H vm vb vt um uo ua t) (hl:Sl H lv l):
 Calls Tryz.prog 17 #[ah0 vm vb vt um uo ua t,lv] w (I1 w (.bool (aF8 t l))):=by
 have c1:=fun(H':j5) (W:World) (hW:j4 H' W) (hle:D8 H H')=>dj7 _ _ _ _ _ _ _ t l H' W hW (ht.mono hle) (hl.mono hle)
 have c2:=fun(H':j5) (W:World) (hW:j4 H' W) (hle:D8 H H')=>bd5 _ _ _ _ _ _ t H' W hW (ht.mono hle)
 obtain⟨al,cl,rfl,hl1,hl2⟩:=hl.form
 obtain⟨F,hF⟩:∃F,Hid (aF8 t l=F):=⟨_,rfl⟩
 rw[hF.out]
 have key:Hid (F=(!(bY3 t l)&&(F6 t&&decide (l.length≤24)))):=hF.out.symm
 clear hF ht hl
 cases g1:bY3 t l
 case true=>
  rw[g1]at key c1
  replace c1:=fe6 c1
  clear g1 c2
  go_enter Tryz.func17,Tryz.ntmps17
  go_wp2_with(first|(refine af8 rfl _ rfl (Ext.refl hw) ?_;intro B w1 H1 hle hx hB hBw;obtain⟨hc0,hc1,hc2,hc3,hc4,O8,hc6,O9⟩:=I5 hB;clear hB hw;have hw1:=hx.holds)|((go_at_call 46;refine(c1.out _ _ hw1 hle).mono ?_;rintro e w2 ⟨rfl,hb2⟩;have x2:=hx.step (hb2.mono hx.below.size) (hw1.below hb2))))
  go_ret
  exact⟨M0 (by rw[key.out];rfl),x2.below⟩
 rw[g1]at key c1
 replace c1:=fe6 c1
 clear g1
 cases g5:F6 t
 case false=>
  rw[g5]at key c2
  rw[show aH2 false=120 from rfl]at c2
  replace c2:=fe6 c2
  clear g5
  go_enter Tryz.func17,Tryz.ntmps17
  go_wp2_with(first|(refine af8 rfl _ rfl (Ext.refl hw) ?_;intro B w1 H1 hle hx hB hBw;obtain⟨hc0,hc1,hc2,hc3,hc4,O8,hc6,O9⟩:=I5 hB;clear hB hw;have hw1:=hx.holds)|((go_at_call 46;refine(c1.out _ _ hw1 hle).mono ?_;rintro e w2 ⟨rfl,hb2⟩;have x2:=hx.step (hb2.mono hx.below.size) (hw1.below hb2);have hw2:=x2.holds))|((go_at_call 49;refine(c2.out _ _ hw2 hle).mono ?_;rintro e w3 ⟨rfl,hb3⟩;replace x2:=x2.step (hb3.mono x2.below.size) (hw2.below hb3))))
  go_ret
  exact⟨M0 (by rw[key.out];rfl),x2.below⟩
 rw[g5]at key c2
 rw[show aH2 true=0 from rfl]at c2
 replace c2:=fe6 c2
 clear g5
 by_cases g6:(l.length:Int)≤24
 all_goals
  go_enter Tryz.func17,Tryz.ntmps17
  go_wp2_with(first|(refine af8 rfl _ rfl (Ext.refl hw) ?_;intro B w1 H1 hle hx hB hBw;obtain⟨hc0,hc1,hc2,hc3,hc4,O8,hc6,O9⟩:=I5 hB;clear hB hw;have hw1:=hx.holds)|((go_at_call 46;refine(c1.out _ _ hw1 hle).mono ?_;rintro e w2 ⟨rfl,hb2⟩;have x2:=hx.step (hb2.mono hx.below.size) (hw1.below hb2);have hw2:=x2.holds))|((go_at_call 49;refine(c2.out _ _ hw2 hle).mono ?_;rintro e w3 ⟨rfl,hb3⟩;replace x2:=x2.step (hb3.mono x2.below.size) (hw2.below hb3))))
  go_ret
  exact⟨M0 (by rw[key.out];first|(rw[decide_eq_true (show l.length≤24 by omega)];rfl)|(rw[decide_eq_false (show ¬l.length≤24 by omega)];first|rfl|exact decide_eq_false (by omega))),x2.below⟩
end
section
open Go.RowKit
attribute [local go_sem] j4.drew j4.alloc j4.drewN WB.holds Oper.semAt_some Q9 O1 J7
def bY4 (w:World) (H:j5) (t:D5) (l:List ByteArray):Ending→World→Prop:=Post w H fun u H'=>∃va vt vb e,u= .tuple #[va,vt,vb,.int .i64 e]∧Sl H' va (Y1 t l)∧bt6 H' vt (V5 t l)∧Sl H' vb (O0 t l)∧e=aJ8 t l
theorem cw2 {t:D5} {l:List ByteArray} {e:Int} (h:aJ8 t l=e) (he:e≠0):Y1 t l=[]∧V5 t l=cM4∧O0 t l=[]:=by
 unfold Y1 V5 O0
 rw[h,if_neg he,if_neg he,if_neg he]
 exact⟨rfl,rfl,rfl⟩
theorem run_end {w w5:World} {H H5 HX:j5} {R5 B6 DD:Nat} {AN BK:List ByteArray} {bv q0 q1 q2 q3 q4 q5:Option Addr} {cbv m0 m1 m2 m3 m4 m5:Nat} {va:Value} {T:D5} (x55:Ext w H w5 H5) (hRb:w.heap.size≤R5) (rn5:H5 R5=none) (k5:j4 HX w5) (hXR:HX R5=none)
 (r55:M9 R5 32 w5 (.slice none 0 0) (.slice none 0 0) (.slice none 0 0) (.int .i64 0) (.slice none 0 0) (.slice none 0 0) (.slice none 0 0) (.int .i64 0)) (o55:Own H5 w.heap.size w5 9 (.slice bv BK.length cbv) BK) (hXB:HX B6=some (.cells #[.slice bv BK.length cbv] 33 (0,0))) (hXD:HX DD=some (.deferred (some []))) (hDW:w.heap.size≤DD)
 (Q0:Twn H5 (.slice q0 T.h.ms.length m0) (.slice q1 T.h.bs.length m1) (.slice q2 T.h.ts.length m2) (.slice q3 T.s.mo.length m3) (.slice q4 T.s.wo.length m4) (.slice q5 T.s.wa.length m5) T) (hX5:D8 HX H5) (bJ2:Sl HX va AN):
 ∃HZ,(∀i,((((((((w5.setCell ⟨R5,0,none⟩ (.slice q0 T.h.ms.length m0)).setCell ⟨R5,1,none⟩ (.slice q1 T.h.bs.length m1)).setCell ⟨R5,2,none⟩ (.slice q2 T.h.ts.length m2)).setCell ⟨R5,3,none⟩ (.int .i64 T.h.ch)).setCell ⟨R5,4,none⟩ (.slice q3 T.s.mo.length m3)).setCell ⟨R5,5,none⟩ (.slice q4 T.s.wo.length m4)).setCell ⟨R5,6,none⟩ (.slice q5 T.s.wa.length m5)).setCell ⟨R5,7,none⟩ (.int .i64 T.s.fr)).frozen? ⟨B6,i,none⟩=false)∧((((((((w5.setCell ⟨R5,0,none⟩ (.slice q0 T.h.ms.length m0)).setCell ⟨R5,1,none⟩ (.slice q1 T.h.bs.length m1)).setCell ⟨R5,2,none⟩ (.slice q2 T.h.ts.length m2)).setCell ⟨R5,3,none⟩ (.int .i64 T.h.ch)).setCell ⟨R5,4,none⟩ (.slice q3 T.s.mo.length m3)).setCell ⟨R5,5,none⟩ (.slice q4 T.s.wo.length m4)).setCell ⟨R5,6,none⟩ (.slice q5 T.s.wa.length m5)).setCell ⟨R5,7,none⟩ (.int .i64 T.s.fr)).cell? ⟨B6,0,none⟩=some (.slice bv BK.length cbv)∧((((((((w5.setCell ⟨R5,0,none⟩ (.slice q0 T.h.ms.length m0)).setCell ⟨R5,1,none⟩ (.slice q1 T.h.bs.length m1)).setCell ⟨R5,2,none⟩ (.slice q2 T.h.ts.length m2)).setCell ⟨R5,3,none⟩ (.int .i64 T.h.ch)).setCell ⟨R5,4,none⟩ (.slice q3 T.s.mo.length m3)).setCell ⟨R5,5,none⟩ (.slice q4 T.s.wo.length m4)).setCell ⟨R5,6,none⟩ (.slice q5 T.s.wa.length m5)).setCell ⟨R5,7,none⟩ (.int .i64 T.s.fr)).heap[DD]? =some (.deferred (some []))∧
  (((((((((w5.setCell ⟨R5,0,none⟩ (.slice q0 T.h.ms.length m0)).setCell ⟨R5,1,none⟩ (.slice q1 T.h.bs.length m1)).setCell ⟨R5,2,none⟩ (.slice q2 T.h.ts.length m2)).setCell ⟨R5,3,none⟩ (.int .i64 T.h.ch)).setCell ⟨R5,4,none⟩ (.slice q3 T.s.mo.length m3)).setCell ⟨R5,5,none⟩ (.slice q4 T.s.wo.length m4)).setCell ⟨R5,6,none⟩ (.slice q5 T.s.wa.length m5)).setCell ⟨R5,7,none⟩ (.int .i64 T.s.fr)).putObj DD (.deferred none)).heap[R5]? =some (.cells #[.slice q0 T.h.ms.length m0,.slice q1 T.h.bs.length m1,.slice q2 T.h.ts.length m2,.int .i64 T.h.ch,.slice q3 T.s.mo.length m3,.slice q4 T.s.wo.length m4,.slice q5 T.s.wa.length m5,.int .i64 T.s.fr] 32 (0,0))∧(((((((((w5.setCell ⟨R5,0,none⟩ (.slice q0 T.h.ms.length m0)).setCell ⟨R5,1,none⟩ (.slice q1 T.h.bs.length m1)).setCell ⟨R5,2,none⟩ (.slice q2 T.h.ts.length m2)).setCell ⟨R5,3,none⟩ (.int .i64 T.h.ch)).setCell ⟨R5,4,none⟩ (.slice q3 T.s.mo.length m3)).setCell ⟨R5,5,none⟩ (.slice q4 T.s.wo.length m4)).setCell ⟨R5,6,none⟩ (.slice q5 T.s.wa.length m5)).setCell ⟨R5,7,none⟩ (.int .i64 T.s.fr)).putObj DD (.deferred none)).heap[B6]? =some (.cells #[.slice bv BK.length cbv] 33 (0,0))∧
  Ext w H (((((((((w5.setCell ⟨R5,0,none⟩ (.slice q0 T.h.ms.length m0)).setCell ⟨R5,1,none⟩ (.slice q1 T.h.bs.length m1)).setCell ⟨R5,2,none⟩ (.slice q2 T.h.ts.length m2)).setCell ⟨R5,3,none⟩ (.int .i64 T.h.ch)).setCell ⟨R5,4,none⟩ (.slice q3 T.s.mo.length m3)).setCell ⟨R5,5,none⟩ (.slice q4 T.s.wo.length m4)).setCell ⟨R5,6,none⟩ (.slice q5 T.s.wa.length m5)).setCell ⟨R5,7,none⟩ (.int .i64 T.s.fr)).putObj DD (.deferred none)) HZ∧Sl HZ va AN∧Twn HZ (.slice q0 T.h.ms.length m0) (.slice q1 T.h.bs.length m1) (.slice q2 T.h.ts.length m2) (.slice q3 T.s.mo.length m3) (.slice q4 T.s.wo.length m4) (.slice q5 T.s.wa.length m5) T∧Sl HZ (.slice bv BK.length cbv) BK:=by
 have hx8:=Ext.aC3 x55 hRb rn5 (.slice q0 T.h.ms.length m0) (.slice q1 T.h.bs.length m1) (.slice q2 T.h.ts.length m2) (.int .i64 T.h.ch) (.slice q3 T.s.mo.length m3) (.slice q4 T.s.wo.length m4) (.slice q5 T.s.wa.length m5) (.int .i64 T.s.fr)
 have hk8:=M9.setH k5 hXR (.slice q0 T.h.ms.length m0) (.slice q1 T.h.bs.length m1) (.slice q2 T.h.ts.length m2) (.int .i64 T.h.ch) (.slice q3 T.s.mo.length m3) (.slice q4 T.s.wo.length m4) (.slice q5 T.s.wa.length m5) (.int .i64 T.s.fr)
 have rz:=r55.set (.slice q0 T.h.ms.length m0) (.slice q1 T.h.bs.length m1) (.slice q2 T.h.ts.length m2) (.int .i64 T.h.ch) (.slice q3 T.s.mo.length m3) (.slice q4 T.s.wo.length m4) (.slice q5 T.s.wa.length m5) (.int .i64 T.s.fr)
 have by0:=o55.P8 r55.at_ (by decide)
 have oz:=((((((((o55.setCell (a:=⟨R5,0,none⟩) by0 (.slice q0 T.h.ms.length m0)).setCell (a:=⟨R5,1,none⟩) by0 (.slice q1 T.h.bs.length m1)).setCell (a:=⟨R5,2,none⟩) by0 (.slice q2 T.h.ts.length m2)).setCell (a:=⟨R5,3,none⟩) by0 (.int .i64 T.h.ch)).setCell (a:=⟨R5,4,none⟩) by0 (.slice q3 T.s.mo.length m3)).setCell (a:=⟨R5,5,none⟩) by0 (.slice q4 T.s.wo.length m4)).setCell (a:=⟨R5,6,none⟩) by0 (.slice q5 T.s.wa.length m5)).setCell (a:=⟨R5,7,none⟩) by0 (.int .i64 T.s.fr))
 have hb8:=hk8.at_ _ _ hXB
 have hd8:=hk8.at_ _ _ hXD
 generalize((((((((w5.setCell ⟨R5,0,none⟩ (.slice q0 T.h.ms.length m0)).setCell ⟨R5,1,none⟩ (.slice q1 T.h.bs.length m1)).setCell ⟨R5,2,none⟩ (.slice q2 T.h.ts.length m2)).setCell ⟨R5,3,none⟩ (.int .i64 T.h.ch)).setCell ⟨R5,4,none⟩ (.slice q3 T.s.mo.length m3)).setCell ⟨R5,5,none⟩ (.slice q4 T.s.wo.length m4)).setCell ⟨R5,6,none⟩ (.slice q5 T.s.wa.length m5)).setCell ⟨R5,7,none⟩ (.int .i64 T.s.fr))=w8 at*
 obtain⟨HF,hxF,hFD,hFo⟩:=hx8.am3 hDW hd8 (.deferred none)
 have flat:∀b cs t fr,H5 b=some (.cells cs t fr)→HF b=some (.cells cs t fr):=fun b cs t fr e=>by
  have hb:b≠DD:=fun e'=>by
   rw[e',hX5 _ _ hXD]at e;cases e
  rw[hFo b hb];exact e
 have hfree:∀b,(Value.slice bv BK.length cbv).ownBlock=some b→HF b=none:=fun b hb=>by
  by_cases hbd:b=DD
  ·rw[hbd];exact hFD
  ·rw[hFo b hbd];exact oz.free b hb
 have oF:=(oz.am3 (o':= .deferred none) hd8 rfl).bg7 hfree
 obtain⟨HZ,hxZ,lZ,sZ,_⟩:=oF.close hxF
 have ez8:R5≠DD:=fun e=>by
  have h:=rz.at_
  rw[e,hd8]at h;cases h
 have ez9:B6≠DD:=fun e=>by rw[e,hd8]at hb8;cases hb8
 exact⟨HZ,fun i=>Lib.frozen_of_heap hb8 i,by rw[Lib.cell_of_heap hb8];rfl,hd8,(World.putObj_heap_other ez8).trans rz.at_,(World.putObj_heap_other ez9).trans hb8,hxZ,((bJ2.mono hX5).aK7 flat (fun _ _ r=>r)).mono lZ,(Q0.aK7 flat).mono lZ,sZ⟩
theorem cw3 (vm vb vt um uo ua lv:Value) (t:D5) (l:List ByteArray) (hsz:∀s∈l,s.size≤900) (H:j5) (dr:Doors H) (w:World) (hw:j4 H w) (ht:Twn H vm vb vt um uo ua t) (hs:Sl H lv l):
 Calls Tryz.prog 50 #[ah0 vm vb vt um uo ua t,lv] w (bY4 w H t l):=by
 have hck:=fun(H':j5) (W:World) (hW:j4 H' W) (hle:D8 H H')=>bi6 vm vb vt um uo ua t H' W hW (ht.mono hle)
 have hdo:=fun(He:j5) (W:World) (D:Nat) (rv:Value) (recs:List Rec) (d:L8 He w.heap.size W D vm vb vt um uo ua rv t recs)=> @dW4 He w.heap.size W D vm vb vt um uo ua rv t recs d
 obtain⟨ax,cx,rfl,_,_⟩:=hs.form
 obtain⟨a0,c0,rfl,_,_⟩:=ht.h.m.form
 obtain⟨a1,c1,rfl,_,_⟩:=ht.h.b.form
 obtain⟨a2,c2,rfl,_,_⟩:=ht.h.t.form
 obtain⟨a3,c3,rfl,_,_⟩:=ht.s.m.form
 obtain⟨a4,c4,rfl,_,_⟩:=ht.s.o.form
 obtain⟨a5,c5,rfl,_,_⟩:=ht.s.a.form
 replace hck:=fe6 hck
 replace hdo:=fe6 hdo
 refine Calls.aw5 (r:=none) (n:=3) (callsIn_of_wp_marks Tryz.func50 rfl trivial (wpIn_wide.2 ?_) rfl)
 simp only[Tryz.ntmps50,List.size_toArray,ff8,fg1,fh6,fh7,fg9,fg8,fg3,List.append_toArray,ff9,fg2]
 go_upto_region 1 with(refine af8 rfl _ rfl (Ext.refl hw) ?_;intro B w1 H1 hle hx hB hBw;obtain⟨hc0,hc1,hc2,hc3,hc4,O8,hc6,O9⟩:=I5 hB;clear hB hw;have hw1:=hx.holds)
 have r5:M9 w1.heap.size 32 ((w1.alloc (.cells #[.slice none 0 0,.slice none 0 0,.slice none 0 0,.int .i64 0,.slice none 0 0,.slice none 0 0,.slice none 0 0,.int .i64 0] 32)).alloc (.cells #[.slice none 0 0] 33)) (.slice none 0 0) (.slice none 0 0) (.slice none 0 0) (.int .i64 0) (.slice none 0 0) (.slice none 0 0) (.slice none 0 0) (.int .i64 0):=⟨(heap_alloc_old _ _ (by rw[World.size_alloc];omega)).trans (heap_alloc_new w1 _)⟩
 have hbz:=heap_alloc_new (w1.alloc (.cells #[.slice none 0 0,.slice none 0 0,.slice none 0 0,.int .i64 0,.slice none 0 0,.slice none 0 0,.slice none 0 0,.int .i64 0] 32)) (.cells #[.slice none 0 0] 33)
 have x2:=(hx.alloc (.cells #[.slice none 0 0,.slice none 0 0,.slice none 0 0,.int .i64 0,.slice none 0 0,.slice none 0 0,.slice none 0 0,.int .i64 0] 32)).alloc (.cells #[.slice none 0 0] 33)
 rw[World.size_alloc]at hbz
 have hRb:w.heap.size≤w1.heap.size:=hx.below.size
 have hBb:w.heap.size≤w1.heap.size+1:=by omega
 have hRn:H1 w1.heap.size=none:=hw1.D6 (fh0 _)
 have hBn:H1 (w1.heap.size+1)=none:=hw1.D6 (by omega)
 have hRB:w1.heap.size≠w1.heap.size+1:=by omega
 generalize eA0:(w1.alloc (.cells #[.slice none 0 0,.slice none 0 0,.slice none 0 0,.int .i64 0,.slice none 0 0,.slice none 0 0,.slice none 0 0,.int .i64 0] 32)).alloc (.cells #[.slice none 0 0] 33)=w2 at*
 generalize hB6:w1.heap.size+1=B6 at*
 generalize w1.heap.size=R5 at*
 clear eA0 hB6 hx
 have hw2:=x2.holds
 go_upto_region 2 with(go_at_call 48;refine(hck.out _ _ hw2 hle).mono ?_;rintro e w3 ⟨rfl,hb3⟩)
 replace x2:=x2.step (hb3.mono x2.below.size) (hw2.below hb3)
 replace r5:=r5.below hb3 r5.lt
 have hB2:=(Array.getElem?_eq_some_iff.1 hbz).1
 replace hbz:=(hb3.block B6 hB2).trans hbz
 clear hw2 hb3 hB2 hck hw1
 have hw3:=x2.holds
 cases hv:F6 t with
 |false=>
  have hE0:aJ8 t l=120:=by unfold aJ8;rw[hv];rfl
  obtain⟨q1,q2,q3⟩:=cw2 hE0 (by decide)
  replace q1:=fe6 q1
  replace q2:=fe6 q2
  replace q3:=fe6 q3
  replace hE0:=fe6 hE0
  have he:aH2 false=120:=rfl
  obtain⟨z0,z1,z2,z3,z4,z5,z6,z7,zf⟩:=r5.cells
  have zb:w3.cell? ⟨B6,0,none⟩=some (.slice none 0 0):=by simp[World.cell?,hbz]
  have zg:∀i,w3.frozen? ⟨B6,i,none⟩=false:=fun i=>Lib.frozen_of_heap hbz i
  go_wp2_with fail
  have rz:=r5.set (.slice none 0 0) (.slice none 0 0) (.slice none 0 0) (.int .i64 0) (.slice none 0 0) (.slice none 0 0) (.slice none 0 0) (.int .i64 0)
  have xz:=Ext.aC3 x2 hRb hRn (.slice none 0 0) (.slice none 0 0) (.slice none 0 0) (.int .i64 0) (.slice none 0 0) (.slice none 0 0) (.slice none 0 0) (.int .i64 0)
  have dx1:=(bw0 (W:=w3) (S:=R5) (D:=B6) (Ne.symm hRB) (.slice none 0 0) (.slice none 0 0) (.slice none 0 0) (.int .i64 0) (.slice none 0 0) (.slice none 0 0) (.slice none 0 0) (.int .i64 0)).trans hbz
  refine⟨_,av2 rfl _ _ R5 B6 32 _ (0,0) _ (.slice none 0 0) rfl rfl ((heap_setCell_other _ ⟨B6,0,none⟩ R5 _ hRB).trans rz.at_) (by rw[Lib.cell_of_heap (M7 dx1 _)];rfl) Tryz.underlying32 rfl (by kernel_rfl) (by kernel_rfl), ?_⟩
  exact⟨_,H1,rfl,xz.setCell (a:=⟨B6,0,none⟩) hBb hBn _,_,_,_,_,rfl,by rw[q1.out];exact Sl.Y9 H1,by rw[q2.out];exact⟨_,_,_,_,_,_,rfl,cu8 H1⟩,by rw[q3.out];exact Sl.Y9 H1,hE0.out.symm⟩
 |true=>
  have he:aH2 true=0:=rfl
  by_cases hlen:24<l.length
  ·have hE0:aJ8 t l=2:=by unfold aJ8;rw[hv,if_pos rfl,if_pos hlen]
   obtain⟨q1,q2,q3⟩:=cw2 hE0 (by decide)
   replace q1:=fe6 q1
   replace q2:=fe6 q2
   replace q3:=fe6 q3
   replace hE0:=fe6 hE0
   obtain⟨z0,z1,z2,z3,z4,z5,z6,z7,zf⟩:=r5.cells
   have zb:w3.cell? ⟨B6,0,none⟩=some (.slice none 0 0):=by simp[World.cell?,hbz]
   have zg:∀i,w3.frozen? ⟨B6,i,none⟩=false:=fun i=>Lib.frozen_of_heap hbz i
   have hlI:(24:Int)<(l.length:Int):=by omega
   go_wp2_with fail
   have rz:=r5.set (.slice none 0 0) (.slice none 0 0) (.slice none 0 0) (.int .i64 0) (.slice none 0 0) (.slice none 0 0) (.slice none 0 0) (.int .i64 0)
   have xz:=Ext.aC3 x2 hRb hRn (.slice none 0 0) (.slice none 0 0) (.slice none 0 0) (.int .i64 0) (.slice none 0 0) (.slice none 0 0) (.slice none 0 0) (.int .i64 0)
   have dx1:=(bw0 (W:=w3) (S:=R5) (D:=B6) (Ne.symm hRB) (.slice none 0 0) (.slice none 0 0) (.slice none 0 0) (.int .i64 0) (.slice none 0 0) (.slice none 0 0) (.slice none 0 0) (.int .i64 0)).trans hbz
   refine⟨_,av2 rfl _ _ R5 B6 32 _ (0,0) _ (.slice none 0 0) rfl rfl ((heap_setCell_other _ ⟨B6,0,none⟩ R5 _ hRB).trans rz.at_) (by rw[Lib.cell_of_heap (M7 dx1 _)];rfl) Tryz.underlying32 rfl (by kernel_rfl) (by kernel_rfl), ?_⟩
   exact⟨_,H1,rfl,xz.setCell (a:=⟨B6,0,none⟩) hBb hBn _,_,_,_,_,rfl,by rw[q1.out];exact Sl.Y9 H1,by rw[q2.out];exact⟨_,_,_,_,_,_,rfl,cu8 H1⟩,by rw[q3.out];exact Sl.Y9 H1,hE0.out.symm⟩
  ·have hlI:¬(24:Int)<(l.length:Int):=by omega
   have bn6:l.length≤24:=by omega
   go_upto_region 7 with fail
   have j0:aN4 w H1 R5 B6 w3.heap.size (.slice a0 t.h.ms.length c0) (.slice a1 t.h.bs.length c1) (.slice a2 t.h.ts.length c2) (.slice a3 t.s.mo.length c3) (.slice a4 t.s.wo.length c4) (.slice a5 t.s.wa.length c5) t l 0 H1 (.slice none 0 0) (.slice none 0 0) (w3.alloc (.cells #[.slice a0 t.h.ms.length c0,.slice a1 t.h.bs.length c1,.slice a2 t.h.ts.length c2,.int .i64 t.h.ch,.slice a3 t.s.mo.length c3,.slice a4 t.s.wo.length c4,.slice a5 t.s.wa.length c5,.int .i64 t.s.fr,.slice none 0 0] 137)):=
    ⟨⟨hw3.alloc _,heap_alloc_new w3 _,hw3.D6 (fh0 _),ht.mono hle,Own.nil _ _ _ _,by simp[I6]⟩,Own.nil _ _ _ _,⟨(heap_alloc_old w3 _ r5.lt).trans r5.at_⟩,hRn,(heap_alloc_old w3 _ (Array.getElem?_eq_some_iff.1 hbz).1).trans hbz,hBn,x2.below.alloc x2.below.size _,fun _ _=>rfl,D8.refl _,x2.below.size⟩
   have hs1:=hs.mono hle
   generalize w3.alloc (.cells #[.slice a0 t.h.ms.length c0,.slice a1 t.h.bs.length c1,.slice a2 t.h.ts.length c2,.int .i64 t.h.ch,.slice a3 t.s.mo.length c3,.slice a4 t.s.wo.length c4,.slice a5 t.s.wa.length c5,.int .i64 t.s.fr,.slice none 0 0] 137)=w4 at*
   generalize w3.heap.size=D at*
   have dj8:=x2.same
   clear x2 r5 hbz hw3
   go_wp2_with fail
   go_loopw [4,28] (fun v i wr=>∃(k:Nat) (He:j5) (rv:Value),k≤l.length∧i= .int .i64 (k:Int)∧aN4 w H1 R5 B6 D (.slice a0 t.h.ms.length c0) (.slice a1 t.h.bs.length c1) (.slice a2 t.h.ts.length c2) (.slice a3 t.s.mo.length c3) (.slice a4 t.s.wo.length c4) (.slice a5 t.s.wa.length c5) t l k He rv v wr) (fun _ i _=>l.length-(intOf i).toNat)
   case atStart=>exact⟨0,H1,_,fh3 _,rfl,j0⟩
   case round=>
    clear j0
    obtain⟨k,He,rv,hk,rfl,j⟩:=hrel
    have hk0:(0:Int)≤(k:Int):=by omega
    by_cases hlk:k<l.length
    ·obtain⟨s,hsk⟩:=At.mk hlk
     obtain⟨b,o,c,hse,hss,rs⟩:=hs1.str hsk
     cases hse
     have hk1:(k:Int)<(l.length:Int):=by omega
     have hwr:=j.d.h
     have rs':=lift j.le rs
     have eA1:=hsz s hsk.mem
     have hrl:=ce0 (M6 t (l.take k)).written (M6 t (l.take k)).now k
     have cV7:=hdo.out He wr D rv _ j.d hv (dr.mono (hle.trans j.le)) (by omega) (dw2 (by omega)) j.x.size (k:Int) ⟨by omega,by omega⟩ s eA1
     have aC6:(doS t (I6 (M6 t (l.take k)).written (M6 t (l.take k)).now k) (k:Int) (A8 s)).size≤100000:=by
      have h1:=cu0 (aU2 t (l.take k)) t (A8 s)
      rw[j.dW5 hk]at h1
      rw[h1]
      exact dh9 (fun s hs=>hsz s (List.mem_of_mem_take hs)) (by rw[fg6];omega) s
     have hst:=fun(He':j5) (rv' v7:Value) (w' w7:World) (o:Obj) (v:Value) (jj:aN4 w H1 R5 B6 D (.slice a0 t.h.ms.length c0) (.slice a1 t.h.bs.length c1) (.slice a2 t.h.ts.length c2) (.slice a3 t.s.mo.length c3) (.slice a4 t.s.wo.length c4) (.slice a5 t.s.wa.length c5) t l k He rv v wr)=> @aN4.step w wr w' w7 H1 He He' R5 B6 D k _ _ _ _ _ _ rv rv' v v7 t l s o jj hsk
     have hal:(M6 t (l.take k)).ans.length≤100:=by rw[(ax9 t _).1,fg6];omega
     replace hst:=fe6 hst
     replace cV7:=fe6 cV7
     obtain⟨S,hS⟩:∃S,doS t (I6 (M6 t (l.take k)).written (M6 t (l.take k)).now k) (k:Int) (A8 s)=S:=⟨_,rfl⟩
     rw[hS]at cV7 hst aC6
     clear hS
     have aX9:Hid (((M6 t (l.take k)).ans.length+1)*Enc.M4 ByteArray≤140737488355328):=by show _*16≤_;omega
     have aH8:Hid ((M6 t (l.take k)).ans.length+1≤9223372036854775807):=by show _≤_;omega
     have hrep:Hid (S.size≤140737488355328):=fh1 aC6 (by decide)
     obtain⟨av,cv,rfl,_,_⟩:=j.a.form
     go_wp2_with(first
      |(have hgd:=d5;at_builtin;go_must (refine au7 (c:=1) (cs:=[.string S]) bi0 rfl _ _ rfl rfl (j.mid on5 hs5) rfl (show Enc.rep He5 S [.string S]from⟨rfl,hrep.out⟩) d5.h aX9.out aH8.out (fh1 j.x.size on5.b.size) ?_);intro v7 w7 o7 g7 hw7 _;have j7:=hst.out _ _ _ _ _ _ _ j on5 hs5 d5 o7 g7 hw7;obtain⟨a7,c7,rfl,_,_⟩:=o7.form)
      |(go_at_call 76;refine cV7.out.mono ?_;rintro e w5 ⟨He5,rv5,rfl,on5,hs5,d5⟩))
     go_roundw
     case rel=>exact⟨k+1,He5,rv5,hlk,by go_num,by rw[ff4]at j7;exact j7⟩
     case measure=>simp[intOf];omega
    ·have hke:k=l.length:=by omega
     have hk1:¬(k:Int)<(l.length:Int):=by omega
     subst hke
     have htk:l.take l.length=l:=List.take_length
     have jd:=j.d
     have ja:=j.a
     rw[htk]at jd ja
     obtain⟨⟨nR1,nR2⟩,⟨nB1,nB2⟩,⟨nv1,nv2,nv3⟩,nv4⟩:=j.rows
     have jx:Ext w H wr He:=⟨j.x,jd.h,fun b hb=>(j.same b hb).trans (dj8 b hb)⟩
     have jr:=j.r
     have jb:=j.b
     have jrn:=j.rn
     have jbn:=j.bn
     have jle:=j.le
     have jD:=j.dB
     clear j
     have cw4:Hid (Y1 t l=(M6 t l).ans):=by show _=_;unfold Y1;rw[if_pos (aI8 hv bn6)]
     have cw5:Hid (aJ8 t l=0):=aI8 hv bn6
     have hnl:(M6 t l).now.length=l.length:=(ax9 t l).2.2
     have bR4:Hid (O0 t l=R3 (U4 t (ahead (I6 (M6 t l).written (M6 t l).now l.length) (l.length:Int)))):=by
      show _=_
      have:=dh4 (aU2 t l) t (line:=(l.length:Int)) (by rw[hnl];exact Int.le_refl _)
      rw[hnl]at this
      unfold O0
      rw[if_pos (aI8 hv bn6),←this];rfl
     have bR5:Hid (V5 t l=U8 t (ahead (I6 (M6 t l).written (M6 t l).now l.length) (l.length:Int))):=by
      show _=_
      have:=bw7 (aU2 t l) t (line:=(l.length:Int)) (by omega)
      rw[hnl,fh8,fg7 (Nat.le_of_eq hnl)]at this
      unfold V5
      rw[if_pos (aI8 hv bn6),this]
     have hrl:=ce0 (M6 t l).written (M6 t l).now l.length
     have hrz:=fe6 (di1 (t:=t) hsz (k:=l.length))
     obtain⟨av,cv,rfl,_,_⟩:=ja.form
     obtain⟨H2,x2,l2,bJ2,o2⟩:=ja.close jx
     generalize(M6 t l).ans=AN at*
     generalize I6 (M6 t l).written (M6 t l).now l.length=recs at*
     have d2:=jd.snap x2.holds l2 ((o2 D nv1).trans jd.nD) (fun b hb=>(o2 b (fun e=>nv4 b e hb)).trans (jd.own.free b hb))
     have rn2:H2 R5=none:=(o2 R5 nv2).trans jrn
     have bn2:H2 B6=none:=(o2 B6 nv3).trans jbn
     obtain⟨HP,hwP,al1,hDP,hRP,hPo,hPr⟩:=d2.ey0
     have rnP:HP R5=none:=(hPo R5 nR1 nR2).trans rn2
     have bnP:HP B6=none:=(hPo B6 nB1 nB2).trans bn2
     have xP:Ext w H wr HP:=⟨x2.below,hwP,fun b hb=>(hPo b (by omega) (fun e=>by have:=(jd.own.lt b e).1;omega)).trans (x2.same b hb)⟩
     have hgo:=fe6 (bI5 _ _ _ _ _ _ rv t recs (l.length:Int) hv D H2 HP wr hwP al1 d2.t hDP hRP (by omega))
     have i0:ak2 w.heap.size B6 HP wr (.slice none 0 0) (R3 []):=⟨⟨jb,bnP,hBb⟩,Own.nil _ _ _ _⟩
     have hgl:(U4 t (ahead recs (l.length:Int))).length≤1000:=by rw[bv9];exact fh1 (bw1 _ _) (by omega)
     have dr2:Doors H2:=dr.mono ((hle.trans jle).trans l2)
     have hT9:=aF3 hv (ahead recs (l.length:Int))
     clear jd ja nv1 nv2 nv3 nv4 o2 x2 hs1 dj8 jx jbn jrn
     have rr5:=jr
     have hBlt:=(Array.getElem?_eq_some_iff.1 jb).1
     go_wp2_with(go_at_call 77;refine hgo.out.mono ?_;rintro e w2 ⟨lb,HG,rfl,xG,hit⟩)
     have hw2:=xG.holds
     have si0:ak2 w.heap.size B6 HG w2 (.slice none 0 0) (R3 []):=(i0.below hwP xG.below).snap ((xG.same B6 hBlt).trans bnP) (fun k e=>by cases e)
     have rG:=jr.below xG.below jr.lt
     have rnG:HG R5=none:=(xG.same R5 jr.lt).trans rnP
     have xG2:=xP.trans xG
     have lPG:=xG.le hwP
     have hs2:w.heap.size≤w2.heap.size:=xG2.below.size
     clear i0 hgo jb jr rr5
     refine(wpIn_wide (n:=3)).1 (at6 (k:=3) (H:=HG) rfl (enters_of Tryz.func126 (by kernel_rfl) rfl) hw2 hit (fun _ _ _ ⟨_,e,_⟩=>by rw[e];rfl) (fun _ _ _ _ _ ⟨p,e,h1,h2⟩=>⟨p,e,h1,h2⟩)
      (J:=fun Hc pre W=>Ext w H W Hc∧(M9 R5 32 W (.slice none 0 0) (.slice none 0 0) (.slice none 0 0) (.int .i64 0) (.slice none 0 0) (.slice none 0 0) (.slice none 0 0) (.int .i64 0)∧Hc R5=none)∧∃v,ak2 w.heap.size B6 Hc W v (R3 pre))
      (Jx:=fun _ _ _ _=>False)
      (J2:=fun Hc pre x args aa W=>(Ext w H W Hc∧(M9 R5 32 W (.slice none 0 0) (.slice none 0 0) (.slice none 0 0) (.int .i64 0) (.slice none 0 0) (.slice none 0 0) (.slice none 0 0) (.int .i64 0)∧Hc R5=none)∧∃v,ak2 w.heap.size B6 Hc W v (R3 pre))∧∃LB p,(W.heap[LB]? =some (.cells #[.int .i64 x.1.ln,p] 142 (0,0))∧Hc LB=none)∧RdP H2 p x.1.en∧aa={tmps:= #[ah0 (.slice a0 t.h.ms.length c0) (.slice a1 t.h.bs.length c1) (.slice a2 t.h.ts.length c2) (.slice a3 t.s.mo.length c3) (.slice a4 t.s.wo.length c4) (.slice a5 t.s.wa.length c5) t,.slice ax l.length cx,.pointer (some ⟨B,0,none⟩),undef,.slice av AN.length cv,.pointer (some ⟨R5,0,none⟩),.pointer (some ⟨B6,0,none⟩),.int .i64 0,.int .i64 0,.pointer (some ⟨D,0,none⟩),u10,u11,.pointer (some ⟨LB,0,none⟩),.bool x.2,.agg #[.slice a0 t.h.ms.length c0,.slice a1 t.h.bs.length c1,.slice a2 t.h.ts.length c2,.int .i64 t.h.ch,.slice a3 t.s.mo.length c3,.slice a4 t.s.wo.length c4,.slice a5 t.s.wa.length c5,.int .i64 t.s.fr],.int .i64 0,.int .i64 0,.bool false,undef,undef,.slice ax l.length cx,.int .i64 l.length,.bool false,undef,.agg #[.slice a0 t.h.ms.length c0,.slice a1 t.h.bs.length c1,.slice a2 t.h.ts.length c2,.int .i64 t.h.ch,.slice a3 t.s.mo.length c3,.slice a4 t.s.wo.length c4,.slice a5 t.s.wa.length c5,.int .i64 t.s.fr],.agg #[.slice a0 t.h.ms.length c0,.slice a1 t.h.bs.length c1,.slice a2 t.h.ts.length c2,.int .i64 t.h.ch,.slice a3 t.s.mo.length c3,.slice a4 t.s.wo.length c4,.slice a5 t.s.wa.length c5,.int .i64 t.s.fr,.slice none 0 0],.slice ax l.length cx,.int .i64 l.length,.int .i64 l.length,.bool false,u30,u31,u32,u33,u34,u35,u36,u37,u38,u39,.slice ax l.length cx,.int .i64 l.length,.func (.func 126) #[] lb,.agg #[.int .i64 x.1.ln,p],.bool x.2,undef,undef,undef,undef,undef,undef,undef,undef,undef,undef,undef,undef,undef,undef,undef],defers:=[]})
      (fun _ _ _ _ _ h hh ht=>⟨ht.an1 h.1 hs2,h.2.1.1.turn h.2.1.2 ht,h.2.2.imp fun _ h=>h.turn ht⟩) (fun _ _ _ _ _ _ h _ _=>h) (fun _ _ _ _ _ _ _ _ h hh ht=>⟨⟨ht.an1 h.1.1 hs2,h.1.2.1.1.turn h.1.2.1.2 ht,h.1.2.2.imp fun _ h=>h.turn ht⟩,h.2.imp fun _ h=>h.imp fun _ h=>⟨ht.keep _ _ _ _ h.1.1 h.1.2,h.2⟩⟩) ⟨xG2,⟨rG,rnG⟩,_,si0⟩ ?assign ?body ?done ?stop)
     case assign=>
      rintro lp Hc pre x W args hl9 hWc K5 ⟨hxc,⟨r5c,rnc⟩,v,si⟩ ⟨p,rfl,hi,hrd⟩ hpre
      have hLn:=heap_alloc_new W (.cells #[.int .i64 x.1.ln,p] 142)
      have hWn:=hWc.D6 (fh0 W.heap.size)
      have r5a:M9 R5 32 (W.alloc (.cells #[.int .i64 x.1.ln,p] 142)) (.slice none 0 0) (.slice none 0 0) (.slice none 0 0) (.int .i64 0) (.slice none 0 0) (.slice none 0 0) (.slice none 0 0) (.int .i64 0):=⟨(heap_alloc_old W _ r5c.lt).trans r5c.at_⟩
      obtain⟨q,rfl⟩:∃q,p= .pointer q:=by
       cases he:x.1.en with
       |none=>rw[he]at hrd;exact⟨none,hrd⟩
       |some y=>rw[he]at hrd;exact⟨_,hrd.choose_spec.1⟩
      gi_wp2
      exact⟨hWc.alloc _,⟨hxc.alloc _,⟨r5a,rnc⟩,_,si.alloc _⟩,_,_,⟨hLn,hWn⟩,hrd,rfl⟩
     case body=>
      rintro lp rc Hc pre x args aa W hl9 hrc hWc K5 ⟨p',rfl,hi,du6⟩ hpre ⟨⟨hxc,⟨r5c,rnc⟩,v,si⟩,LB,p,hLB,hrd,rfl⟩
      clear du6
      have hpl:(R3 pre).length≤1000:=by
       have h1:=hpre.length_le
       have h2:=di7 pre
       simp only[ff4,ff7]at h1
       omega
      obtain⟨⟨ln,en⟩,b⟩:=x
      simp only at hrd hi hLB ⊢
      cases b with
      |false=>
       gi_wp2
       exact⟨hWc,hxc,⟨r5c,rnc⟩,_,by rw[dw3];exact si⟩
      |true=>
       obtain⟨y,hy⟩:=cr9 _ (hpre.subset (show(⟨⟨ln,en⟩,true⟩:Rec × Bool)∈pre++[(⟨ln,en⟩,true)]by simp)) rfl
       simp only at hy
       subst hy
       obtain⟨E,rfl,fv9,hE,_⟩:=hrd
       obtain⟨bv,cbv,rfl,_,_⟩:=si.o.form
       have hEc:∀W,j4 Hc W→W.cell? ⟨E,0,none⟩=some (.string y.text):=lift ((al1.trans lPG).trans K5) (fun W h=>(D7 hE h 0).trans rfl)
       have hys:y.text.size≤140737488355328:=fh1 (hrz.out _ ((List.takeWhile_prefix _).subset (di0 (hpre.subset (show(⟨⟨ln,some y⟩,true⟩:Rec × Bool)∈pre++[(⟨ln,some y⟩,true)]by simp)))) y rfl) (by decide)
       have hrep:Enc.rep Hc y.text [.string y.text]:=⟨rfl,hys⟩
       have aX9:Hid (((R3 pre).length+1)*Enc.M4 ByteArray≤140737488355328):=by show _*16≤_;omega
       have aH8:Hid ((R3 pre).length+1≤9223372036854775807):=by show _≤_;omega
       have eb1:B6≠LB:=fun e=>by
        have h:=si.c.at_
        rw[e,hLB.1]at h
        simp only[Option.some.injEq,Obj.cells.injEq]at h
        exact absurd h.2.1 (by decide)
       have hLn:(Hc.put LB (.cells #[.int .i64 ln,.pointer (some ⟨E,0,none⟩)] 142 (0,0))) B6=none:=by rw[j5.F3 _ _ eb1];exact si.c.free
       have hHS:=(hWc.put hLB.1).put si.c.at_
       have leS:=(j5.L9 hLB.2 (.cells #[.int .i64 ln,.pointer (some ⟨E,0,none⟩)] 142 (0,0))).trans (j5.L9 hLn (.cells #[.slice bv (R3 pre).length cbv] 33 (0,0)))
       have hSB:=j5.G7 (Hc.put LB (.cells #[.int .i64 ln,.pointer (some ⟨E,0,none⟩)] 142 (0,0))) B6 (.cells #[.slice bv (R3 pre).length cbv] 33 (0,0))
       have hSL:=(j5.F3 (Hc.put LB (.cells #[.int .i64 ln,.pointer (some ⟨E,0,none⟩)] 142 (0,0))) (.cells #[.slice bv (R3 pre).length cbv] 33 (0,0)) eb1.symm).trans (j5.G7 Hc LB (.cells #[.int .i64 ln,.pointer (some ⟨E,0,none⟩)] 142 (0,0)))
       have du2:∀q,(Value.slice bv (R3 pre).length cbv).ownBlock=some q→((Hc.put LB (.cells #[.int .i64 ln,.pointer (some ⟨E,0,none⟩)] 142 (0,0))).put B6 (.cells #[.slice bv (R3 pre).length cbv] 33 (0,0))) q=none:=fun q e=>by
        have h1:q≠LB:=fun e'=>si.o.P8 hLB.1 (by decide) (by rw[e,e'])
        have h2:q≠B6:=fun e'=>si.o.P8 si.c.at_ (by decide) (by rw[e,e'])
        rw[j5.F3 _ _ h2,j5.F3 _ _ h1];exact si.o.free q e
       generalize(Hc.put LB (.cells #[.int .i64 ln,.pointer (some ⟨E,0,none⟩)] 142 (0,0))).put B6 (.cells #[.slice bv (R3 pre).length cbv] 33 (0,0))=HS at*
       have hvR:some R5≠(Value.slice bv (R3 pre).length cbv).ownBlock:=fun e=>si.o.P8 r5c.at_ (by decide) e.symm
       have s0:∀W',j4 HS W'→W'.cell? ⟨B6,0,none⟩=some (.slice bv (R3 pre).length cbv):=fun W' h=>(D7 hSB h 0).trans rfl
       have s1:∀W',j4 HS W'→W'.cell? ⟨LB,1,none⟩=some (.pointer (some ⟨E,0,none⟩)):=fun W' h=>(D7 hSL h 1).trans rfl
       have s2:=lift leS hEc
       gi_upto_region 16 with fail
       refine ba2 (S:=(fun w'=>j4 HS w')) 8 (by kernel_rfl) (by kernel_rfl) (by rintro⟨_,_,h⟩;exact h) ?_ (fun N9=> ?_)
       ·(try dsimp only)
        (first|assumption|exact j4.drew ‹_›|exact j4.alloc ‹_› _|exact j4.drew (j4.alloc ‹_› _)|exact j4.alloc (j4.drew ‹_›) _)
       simp only[ff8,fg1,fh6,fh7,fg9,fg8,fg3,ff9,fg2]
       refine hdA 0 ?_
       refine hdA 1 ?_
       refine hdA 2 ?_
       refine hdA 3 ?_
       refine hdA 4 ?_
       refine hdA 5 ?_
       (try simp only[Act.put,fe7,ff1,ff2])
       refine hdR 6 [] (fun K hK=> ?_) r9.nil
       go_simp
       refine aF9 hK (fun I4=> ?_)
       clear hK K N9
       (try simp only[Act.put,fe7,ff1,ff2])
       refine hdR 7 [] (fun K hK=> ?_) r9.nil
       (refine aY8 (H:=Hc) (base:=w.heap.size) (x:=y.text) bi0 rfl _ _ rfl rfl (by first|exact(si.o.drew.alloc _)|exact(si.o.alloc _).drew) rfl hrep (by intro j' u hu;match j',hu with|0,hu=>(simp at hu;subst hu;simp[go_sem])|n+1,hu=>simp at hu) (j4.mono ‹_› leS) aX9.out aH8.out (by have h9:=hxc.below.size;simp;omega) ?_;intro v6 w6 o6 hg6 hw6 bl1;have k1:j4 HS w6:=j4.grown ‹_› hg6 du2;have x6:Ext w H w6 Hc:=Ext.grown (by first|exact(hxc.drew.alloc _)|exact(hxc.alloc _).drew) hg6 (fun q e=>(si.o.lt q e).1) si.o.free;have b6:w6.heap[B6]? =some (.cells #[.slice bv (R3 pre).length cbv] 33 (0,0)):=k1.at_ _ _ hSB;have r6:M9 R5 32 w6 (.slice none 0 0) (.slice none 0 0) (.slice none 0 0) (.int .i64 0) (.slice none 0 0) (.slice none 0 0) (.slice none 0 0) (.int .i64 0):=⟨(hg6.block R5 (by have:=r5c.lt;simp;omega) hvR).trans ((by first|exact(r5c.eg5 _)|exact(r5c.eP7 _):M9 R5 32 _ (.slice none 0 0) (.slice none 0 0) (.slice none 0 0) (.int .i64 0) (.slice none 0 0) (.slice none 0 0) (.slice none 0 0) (.int .i64 0)).at_)⟩)
       refine aF9 hK (fun F8=> ?_)
       clear hK K I4
       (try simp only[Act.put,fe7,ff1,ff2])
       refine G9 (by kernel_rfl) ?_
       simp only[ff5,ff6]
       obtain⟨b7v,c7v,rfl,_,_⟩:=o6.form
       have z6:w6.cell? ⟨B6,0,none⟩=some (.slice bv (R3 pre).length cbv):=by rw[Lib.cell_of_heap b6];rfl
       have zf6:∀i,w6.frozen? ⟨B6,i,none⟩=false:=fun i=>Lib.frozen_of_heap b6 i
       have eA2:=o6.P8 b6 (by decide)
       have c6:Cell Hc w6 w.heap.size B6 33 (.slice bv (R3 pre).length cbv):=⟨b6,si.c.free,si.c.base⟩
       go_wp2
       have x7:=x6.setCell (a:=⟨B6,0,none⟩) si.c.base si.c.free (.slice b7v (R3 pre++[y.text]).length c7v)
       have r7:M9 R5 32 (w6.setCell ⟨B6,0,none⟩ (.slice b7v (R3 pre++[y.text]).length c7v)) (.slice none 0 0) (.slice none 0 0) (.slice none 0 0) (.int .i64 0) (.slice none 0 0) (.slice none 0 0) (.slice none 0 0) (.int .i64 0):=⟨(heap_setCell_other w6 ⟨B6,0,none⟩ R5 _ hRB).trans r6.at_⟩
       have i7:ak2 w.heap.size B6 Hc (w6.setCell ⟨B6,0,none⟩ (.slice b7v (R3 pre++[y.text]).length c7v)) (.slice b7v (R3 pre++[y.text]).length c7v) (R3 pre++[y.text]):=⟨c6.set _,o6.setCell (a:=⟨B6,0,none⟩) eA2 _⟩
       have eA3:(R3 pre++[y.text]).length=(R3 pre).length+1:=by simp
       rw[eA3]at x7 r7 i7
       exact⟨x7.holds,x7,⟨r7,rnc⟩,_,by rw[di6];exact i7⟩
     case done=>
      rintro DD Hc W eW5 hWc K5 hdef ⟨hxc,⟨r5c,rnc⟩,v,si⟩
      have hDW:w.heap.size≤DD:=by omega
      obtain⟨bv,cbv,rfl,_,_⟩:=si.o.form
      have lPc:D8 HP Hc:=lPG.trans K5
      have hWX:=hWc.put si.c.at_
      have leX:=j5.L9 si.c.free (.cells #[.slice bv (R3 (U4 t (ahead recs (l.length:Int)))).length cbv] 33 (0,0))
      have hXB:=j5.G7 Hc B6 (.cells #[.slice bv (R3 (U4 t (ahead recs (l.length:Int)))).length cbv] 33 (0,0))
      have hXR:=(j5.F3 Hc (.cells #[.slice bv (R3 (U4 t (ahead recs (l.length:Int)))).length cbv] 33 (0,0)) hRB).trans rnc
      have hXD:=leX _ _ hdef
      have bR7:D8 H2 (Hc.put B6 (.cells #[.slice bv (R3 (U4 t (ahead recs (l.length:Int)))).length cbv] 33 (0,0))):=(al1.trans lPc).trans leX
      have lPX:D8 HP (Hc.put B6 (.cells #[.slice bv (R3 (U4 t (ahead recs (l.length:Int)))).length cbv] 33 (0,0))):=lPc.trans leX
      have hxX:Ext w H W (Hc.put B6 (.cells #[.slice bv (R3 (U4 t (ahead recs (l.length:Int)))).length cbv] 33 (0,0))):=⟨hxc.below,hWX,fun b hb=>(j5.F3 _ _ (by omega)).trans (hxc.same b hb)⟩
      have oX:Own (Hc.put B6 (.cells #[.slice bv (R3 (U4 t (ahead recs (l.length:Int)))).length cbv] 33 (0,0))) w.heap.size W 9 (.slice bv (R3 (U4 t (ahead recs (l.length:Int)))).length cbv) (R3 (U4 t (ahead recs (l.length:Int)))):=si.o.bg7 (fun k hk=>by
       rw[j5.F3 _ _ (fun e=>si.ne (by rw[hk,e]))];exact si.o.free k hk)
      generalize(Hc.put B6 (.cells #[.slice bv (R3 (U4 t (ahead recs (l.length:Int)))).length cbv] 33 (0,0)))=HX at*
      have htw:=fe6 (fun(W':World) (hW':j4 HX W')=>bm4 (d2.move (hW'.mono bR7) ((hW'.at_ D _ (lPX _ _ hDP)).trans d2.row.symm) (fun b hb=>by
       obtain⟨cur,hr⟩:=d2.own.X7 hb
       have e1:=hPr b hb
       rw[hr]at e1
       exact(hW'.at_ b _ (lPX _ _ e1)).trans hr.symm)) hv (l.length:Int))
      have s6:∀W',j4 HX W'→W'.cell? ⟨B6,0,none⟩=some (.slice bv (R3 (U4 t (ahead recs (l.length:Int)))).length cbv):=fun W' h=>(D7 hXB h 0).trans rfl
      have l2X:=bR7
      obtain⟨vT1,vT2⟩:=aj9.1 hT9
      have hTb:(U8 t (ahead recs (l.length:Int))).h.ms.length≤100000∧(U8 t (ahead recs (l.length:Int))).h.bs.length≤100000∧(U8 t (ahead recs (l.length:Int))).h.ts.length≤100000∧(U8 t (ahead recs (l.length:Int))).s.mo.length≤100000∧(U8 t (ahead recs (l.length:Int))).s.wo.length≤100000∧(U8 t (ahead recs (l.length:Int))).s.wa.length≤100000∧∀x∈(U8 t (ahead recs (l.length:Int))).s.wo,x.length≤100000:=by
       have k1:=vT1.m3
       have k2:=vT1.b5
       have k3:=vT1.t4
       have k4:=vT2.m5
       have k5:=vT2.o6
       have k6:=vT2.w3
       refine⟨by omega,by omega,by omega,by omega,by omega,by omega,fun x hx=> ?_⟩
       have h:=List.all_eq_true.1 vT2.wo x hx
       unfold ai5 at h
       rw[fh9,decide_eq_true_eq]at h
       omega
      clear vT1 vT2 hT9
      generalize U8 t (ahead recs (l.length:Int))=T at*
      generalize R3 (U4 t (ahead recs (l.length:Int)))=BK at*
      replace hTb:=fe6 hTb
      clear hgl hrz hrl
      go_upto_region 17 with fail
      refine dW8 ?_
      refine U1 (S:=(fun w'=>j4 HX w')) 8 (by kernel_rfl) (by kernel_rfl) ?_ (fun N9=> ?_)
      ·(try dsimp only)
       (first|assumption|exact j4.drew ‹_›|exact j4.alloc ‹_› _|exact j4.drew (j4.alloc ‹_› _)|exact j4.alloc (j4.drew ‹_›) _)
      simp only[ff8,fg1,fh6,fh7,fg9,fg8,fg3,ff9,fg2]
      refine hdA 0 ?_
      refine hdA 1 ?_
      (try simp only[Act.put,fe7,ff1,ff2])
      refine hdR 2 [5] (fun K hK=> ?_) ?_
      ·go_simp
       refine aF9 hK (fun I4=> ?_)
       clear hK K N9
       (try simp only[Act.put,fe7,ff1,ff2])
       refine hdR 3 [5] (fun K hK=> ?_) ?_
       ·(go_simp;go_at_call 79;go_must (refine(htw.out _ (by first|assumption|exact j4.drew ‹_›)).mono ?_);rintro e w4 ⟨_,H4,rfl,x4,tm,tb,tt,tu,to',ta,rfl,tw4⟩;obtain⟨H4',y4,l4,s4,n4⟩:=x4.side (by first|assumption|exact j4.drew ‹_›) bR7;have k4:j4 HX w4:=y4.old (by first|assumption|exact j4.drew ‹_›);have tw:=tw4.mono l4;have r54:M9 R5 32 w4 (.slice none 0 0) (.slice none 0 0) (.slice none 0 0) (.int .i64 0) (.slice none 0 0) (.slice none 0 0) (.slice none 0 0) (.int .i64 0):=M9.below (by first|exact r5c|exact r5c.drw) y4.below r5c.lt;have rn4:H4' R5=none:=(y4.same R5 r5c.lt).trans hXR;have x44:Ext w H w4 H4':=Ext.trans (by first|exact hxX|exact hxX.drew) y4;have o44:Own H4' w.heap.size w4 9 (.slice bv BK.length cbv) BK:=Own.ext (H:=HX) (by first|exact oX|exact oX.drew) (by first|assumption|exact j4.drew ‹_›) y4)
        refine aF9 hK (fun F8=> ?_)
        clear hK K I4
        (try simp only[Act.put,fe7,ff1,ff2])
        refine hdR 4 [5] (fun K hK=> ?_) ?_
        ·(go_simp;go_at_call 78;go_must (refine(aT8 _ _ _ _ _ _ T hTb.out H4' _ y4.holds tw).mono ?_);rintro e w5 ⟨_,H5,rfl,y5,tm,tb,tt,tu,to',ta,rfl,Q0⟩;obtain⟨q0,m0,rfl,_,_⟩:=Q0.h.m.form;obtain⟨q1,m1,rfl,_,_⟩:=Q0.h.b.form;obtain⟨q2,m2,rfl,_,_⟩:=Q0.h.t.form;obtain⟨q3,m3,rfl,_,_⟩:=Q0.s.m.form;obtain⟨q4,m4,rfl,_,_⟩:=Q0.s.o.form;obtain⟨q5,m5,rfl,_,_⟩:=Q0.s.a.form;have k5:j4 HX w5:=k4.below y5.below;have r55:=r54.below y5.below r54.lt;have rn5:H5 R5=none:=(y5.same R5 r54.lt).trans rn4;have x55:=x44.trans y5;have o55:=o44.ext y4.holds y5;have hX5:D8 HX H5:=(y4.le (by first|exact hWX|exact hWX.drew)).trans (y5.le y4.holds);obtain⟨e0,e1,e2,e3,e4,e5,e6,e7,ef⟩:=r55.cells)
         refine aF9 hK (fun F9=> ?_)
         clear hK K F8
         refine hdA 6 ?_
         (try simp only[Act.put,fe7,ff1,ff2])
         refine hdR 5 [7] (fun K hK=> ?_) ?_
         ·go_simp
          refine aF9 hK (fun I7=> ?_)
          clear hK K F9
          (try simp only[Act.put,fe7,ff1,ff2])
          refine hdR 7 [] (fun K hK=> ?_) r9.nil
          (go_wp2_with fail)
          refine hK.out _ _ (M9.setH ‹_› hXR _ _ _ _ _ _ _ _) (fun aa1=> ?_)
          clear hK K I7
          (try simp only[Act.put,fe7,ff1,ff2])
          refine G9 (by kernel_rfl) ?_
          simp only[ff5,ff6]
          obtain⟨HZ,zf8,z8,hd8,rz,hb8,hxZ,sA,twF,sZ⟩:=run_end x55 hRb rn5 k5 hXR r55 o55 hXB hXD hDW Q0 hX5 (bJ2.mono l2X)
          have zid:=aF6 z8
          clear e0 e1 e2 e3 e4 e5 e6 e7 ef tw4 x4 y4 tw y5 k4 r54 k5 x55 r55 o55
          generalize((((((((w5.setCell ⟨R5,0,none⟩ (.slice q0 T.h.ms.length m0)).setCell ⟨R5,1,none⟩ (.slice q1 T.h.bs.length m1)).setCell ⟨R5,2,none⟩ (.slice q2 T.h.ts.length m2)).setCell ⟨R5,3,none⟩ (.int .i64 T.h.ch)).setCell ⟨R5,4,none⟩ (.slice q3 T.s.mo.length m3)).setCell ⟨R5,5,none⟩ (.slice q4 T.s.wo.length m4)).setCell ⟨R5,6,none⟩ (.slice q5 T.s.wa.length m5)).setCell ⟨R5,7,none⟩ (.int .i64 T.s.fr))=w8 at*
          go_wp2_with fail
          (try rw[zid])
          (try unfold noP)
          (try dsimp only)
          (try(go_wp2_with fail))
          (try rw[zid])
          refine ak6 hd8 (av2 rfl _ _ R5 B6 32 _ (0,0) _ (.slice bv BK.length cbv) rfl rfl rz (by rw[Lib.cell_of_heap hb8];rfl) Tryz.underlying32 rfl (by kernel_rfl) (by kernel_rfl)) ?_
          exact⟨_,HZ,rfl,hxZ,_,_,_,_,rfl,by rw[cw4.out];exact sA,by rw[bR5.out];exact⟨_,_,_,_,_,_,rfl,twF⟩,by rw[bR4.out];exact sZ,cw5.out.symm⟩
         refine r9.cons (by simp only[ff0,fe9,fe8]<;>rfl) (fun K hK=> ?_) ?_
         ·(go_wp2_with fail)
          refine hK.out _ _ (M9.setH ‹_› hXR _ _ _ _ _ _ _ _) (fun I7=> ?_)
          clear hK K F9
          (try simp only[Act.put,fe7,ff1,ff2])
          refine hdR 5 [] (fun K hK=> ?_) r9.nil
          go_simp
          refine aF9 hK (fun aa1=> ?_)
          clear hK K I7
          (try simp only[Act.put,fe7,ff1,ff2])
          refine G9 (by kernel_rfl) ?_
          simp only[ff5,ff6]
          obtain⟨HZ,zf8,z8,hd8,rz,hb8,hxZ,sA,twF,sZ⟩:=run_end x55 hRb rn5 k5 hXR r55 o55 hXB hXD hDW Q0 hX5 (bJ2.mono l2X)
          have zid:=aF6 z8
          clear e0 e1 e2 e3 e4 e5 e6 e7 ef tw4 x4 y4 tw y5 k4 r54 k5 x55 r55 o55
          generalize((((((((w5.setCell ⟨R5,0,none⟩ (.slice q0 T.h.ms.length m0)).setCell ⟨R5,1,none⟩ (.slice q1 T.h.bs.length m1)).setCell ⟨R5,2,none⟩ (.slice q2 T.h.ts.length m2)).setCell ⟨R5,3,none⟩ (.int .i64 T.h.ch)).setCell ⟨R5,4,none⟩ (.slice q3 T.s.mo.length m3)).setCell ⟨R5,5,none⟩ (.slice q4 T.s.wo.length m4)).setCell ⟨R5,6,none⟩ (.slice q5 T.s.wa.length m5)).setCell ⟨R5,7,none⟩ (.int .i64 T.s.fr))=w8 at*
          go_wp2_with fail
          (try rw[zid])
          (try unfold noP)
          (try dsimp only)
          (try(go_wp2_with fail))
          (try rw[zid])
          refine ak6 hd8 (av2 rfl _ _ R5 B6 32 _ (0,0) _ (.slice bv BK.length cbv) rfl rfl rz (by rw[Lib.cell_of_heap hb8];rfl) Tryz.underlying32 rfl (by kernel_rfl) (by kernel_rfl)) ?_
          exact⟨_,HZ,rfl,hxZ,_,_,_,_,rfl,by rw[cw4.out];exact sA,by rw[bR5.out];exact⟨_,_,_,_,_,_,rfl,twF⟩,by rw[bR4.out];exact sZ,cw5.out.symm⟩
         exact r9.nil
        refine r9.cons (by simp only[ff0,fe9,fe8]<;>rfl) (fun K hK=> ?_) ?_
        ·go_simp
         refine aF9 hK (fun F9=> ?_)
         clear hK K F8
         (try simp only[Act.put,fe7,ff1,ff2])
         refine hdR 4 [] (fun K hK=> ?_) r9.nil
         (go_simp;go_at_call 78;go_must (refine(aT8 _ _ _ _ _ _ T hTb.out H4' _ y4.holds tw).mono ?_);rintro e w5 ⟨_,H5,rfl,y5,tm,tb,tt,tu,to',ta,rfl,Q0⟩;obtain⟨q0,m0,rfl,_,_⟩:=Q0.h.m.form;obtain⟨q1,m1,rfl,_,_⟩:=Q0.h.b.form;obtain⟨q2,m2,rfl,_,_⟩:=Q0.h.t.form;obtain⟨q3,m3,rfl,_,_⟩:=Q0.s.m.form;obtain⟨q4,m4,rfl,_,_⟩:=Q0.s.o.form;obtain⟨q5,m5,rfl,_,_⟩:=Q0.s.a.form;have k5:j4 HX w5:=k4.below y5.below;have r55:=r54.below y5.below r54.lt;have rn5:H5 R5=none:=(y5.same R5 r54.lt).trans rn4;have x55:=x44.trans y5;have o55:=o44.ext y4.holds y5;have hX5:D8 HX H5:=(y4.le (by first|exact hWX|exact hWX.drew)).trans (y5.le y4.holds);obtain⟨e0,e1,e2,e3,e4,e5,e6,e7,ef⟩:=r55.cells)
         refine aF9 hK (fun I7=> ?_)
         clear hK K F9
         refine hdA 6 ?_
         (try simp only[Act.put,fe7,ff1,ff2])
         refine hdR 7 [] (fun K hK=> ?_) r9.nil
         (go_wp2_with fail)
         refine hK.out _ _ (M9.setH ‹_› hXR _ _ _ _ _ _ _ _) (fun aa1=> ?_)
         clear hK K I7
         (try simp only[Act.put,fe7,ff1,ff2])
         refine G9 (by kernel_rfl) ?_
         simp only[ff5,ff6]
         obtain⟨HZ,zf8,z8,hd8,rz,hb8,hxZ,sA,twF,sZ⟩:=run_end x55 hRb rn5 k5 hXR r55 o55 hXB hXD hDW Q0 hX5 (bJ2.mono l2X)
         have zid:=aF6 z8
         clear e0 e1 e2 e3 e4 e5 e6 e7 ef tw4 x4 y4 tw y5 k4 r54 k5 x55 r55 o55
         generalize((((((((w5.setCell ⟨R5,0,none⟩ (.slice q0 T.h.ms.length m0)).setCell ⟨R5,1,none⟩ (.slice q1 T.h.bs.length m1)).setCell ⟨R5,2,none⟩ (.slice q2 T.h.ts.length m2)).setCell ⟨R5,3,none⟩ (.int .i64 T.h.ch)).setCell ⟨R5,4,none⟩ (.slice q3 T.s.mo.length m3)).setCell ⟨R5,5,none⟩ (.slice q4 T.s.wo.length m4)).setCell ⟨R5,6,none⟩ (.slice q5 T.s.wa.length m5)).setCell ⟨R5,7,none⟩ (.int .i64 T.s.fr))=w8 at*
         go_wp2_with fail
         (try rw[zid])
         (try unfold noP)
         (try dsimp only)
         (try(go_wp2_with fail))
         (try rw[zid])
         refine ak6 hd8 (av2 rfl _ _ R5 B6 32 _ (0,0) _ (.slice bv BK.length cbv) rfl rfl rz (by rw[Lib.cell_of_heap hb8];rfl) Tryz.underlying32 rfl (by kernel_rfl) (by kernel_rfl)) ?_
         exact⟨_,HZ,rfl,hxZ,_,_,_,_,rfl,by rw[cw4.out];exact sA,by rw[bR5.out];exact⟨_,_,_,_,_,_,rfl,twF⟩,by rw[bR4.out];exact sZ,cw5.out.symm⟩
        exact r9.nil
       refine r9.cons (by simp only[ff0,fe9,fe8]<;>rfl) (fun K hK=> ?_) ?_
       ·go_simp
        refine aF9 hK (fun F8=> ?_)
        clear hK K I4
        (try simp only[Act.put,fe7,ff1,ff2])
        refine hdR 3 [] (fun K hK=> ?_) r9.nil
        (go_simp;go_at_call 79;go_must (refine(htw.out _ (by first|assumption|exact j4.drew ‹_›)).mono ?_);rintro e w4 ⟨_,H4,rfl,x4,tm,tb,tt,tu,to',ta,rfl,tw4⟩;obtain⟨H4',y4,l4,s4,n4⟩:=x4.side (by first|assumption|exact j4.drew ‹_›) bR7;have k4:j4 HX w4:=y4.old (by first|assumption|exact j4.drew ‹_›);have tw:=tw4.mono l4;have r54:M9 R5 32 w4 (.slice none 0 0) (.slice none 0 0) (.slice none 0 0) (.int .i64 0) (.slice none 0 0) (.slice none 0 0) (.slice none 0 0) (.int .i64 0):=M9.below (by first|exact r5c|exact r5c.drw) y4.below r5c.lt;have rn4:H4' R5=none:=(y4.same R5 r5c.lt).trans hXR;have x44:Ext w H w4 H4':=Ext.trans (by first|exact hxX|exact hxX.drew) y4;have o44:Own H4' w.heap.size w4 9 (.slice bv BK.length cbv) BK:=Own.ext (H:=HX) (by first|exact oX|exact oX.drew) (by first|assumption|exact j4.drew ‹_›) y4)
        refine aF9 hK (fun F9=> ?_)
        clear hK K F8
        (try simp only[Act.put,fe7,ff1,ff2])
        refine hdR 4 [] (fun K hK=> ?_) r9.nil
        (go_simp;go_at_call 78;go_must (refine(aT8 _ _ _ _ _ _ T hTb.out H4' _ y4.holds tw).mono ?_);rintro e w5 ⟨_,H5,rfl,y5,tm,tb,tt,tu,to',ta,rfl,Q0⟩;obtain⟨q0,m0,rfl,_,_⟩:=Q0.h.m.form;obtain⟨q1,m1,rfl,_,_⟩:=Q0.h.b.form;obtain⟨q2,m2,rfl,_,_⟩:=Q0.h.t.form;obtain⟨q3,m3,rfl,_,_⟩:=Q0.s.m.form;obtain⟨q4,m4,rfl,_,_⟩:=Q0.s.o.form;obtain⟨q5,m5,rfl,_,_⟩:=Q0.s.a.form;have k5:j4 HX w5:=k4.below y5.below;have r55:=r54.below y5.below r54.lt;have rn5:H5 R5=none:=(y5.same R5 r54.lt).trans rn4;have x55:=x44.trans y5;have o55:=o44.ext y4.holds y5;have hX5:D8 HX H5:=(y4.le (by first|exact hWX|exact hWX.drew)).trans (y5.le y4.holds);obtain⟨e0,e1,e2,e3,e4,e5,e6,e7,ef⟩:=r55.cells)
        refine aF9 hK (fun I7=> ?_)
        clear hK K F9
        refine hdA 6 ?_
        (try simp only[Act.put,fe7,ff1,ff2])
        refine hdR 7 [] (fun K hK=> ?_) r9.nil
        (go_wp2_with fail)
        refine hK.out _ _ (M9.setH ‹_› hXR _ _ _ _ _ _ _ _) (fun aa1=> ?_)
        clear hK K I7
        (try simp only[Act.put,fe7,ff1,ff2])
        refine G9 (by kernel_rfl) ?_
        simp only[ff5,ff6]
        obtain⟨HZ,zf8,z8,hd8,rz,hb8,hxZ,sA,twF,sZ⟩:=run_end x55 hRb rn5 k5 hXR r55 o55 hXB hXD hDW Q0 hX5 (bJ2.mono l2X)
        have zid:=aF6 z8
        clear e0 e1 e2 e3 e4 e5 e6 e7 ef tw4 x4 y4 tw y5 k4 r54 k5 x55 r55 o55
        generalize((((((((w5.setCell ⟨R5,0,none⟩ (.slice q0 T.h.ms.length m0)).setCell ⟨R5,1,none⟩ (.slice q1 T.h.bs.length m1)).setCell ⟨R5,2,none⟩ (.slice q2 T.h.ts.length m2)).setCell ⟨R5,3,none⟩ (.int .i64 T.h.ch)).setCell ⟨R5,4,none⟩ (.slice q3 T.s.mo.length m3)).setCell ⟨R5,5,none⟩ (.slice q4 T.s.wo.length m4)).setCell ⟨R5,6,none⟩ (.slice q5 T.s.wa.length m5)).setCell ⟨R5,7,none⟩ (.int .i64 T.s.fr))=w8 at*
        go_wp2_with fail
        (try rw[zid])
        (try unfold noP)
        (try dsimp only)
        (try(go_wp2_with fail))
        (try rw[zid])
        refine ak6 hd8 (av2 rfl _ _ R5 B6 32 _ (0,0) _ (.slice bv BK.length cbv) rfl rfl rz (by rw[Lib.cell_of_heap hb8];rfl) Tryz.underlying32 rfl (by kernel_rfl) (by kernel_rfl)) ?_
        exact⟨_,HZ,rfl,hxZ,_,_,_,_,rfl,by rw[cw4.out];exact sA,by rw[bR5.out];exact⟨_,_,_,_,_,_,rfl,twF⟩,by rw[bR4.out];exact sZ,cw5.out.symm⟩
       exact r9.nil
      refine r9.cons (by simp only[ff0,fe9,fe8]<;>rfl) (fun K hK=> ?_) ?_
      ·go_simp
       refine aF9 hK (fun I4=> ?_)
       clear hK K N9
       (try simp only[Act.put,fe7,ff1,ff2])
       refine hdR 2 [] (fun K hK=> ?_) r9.nil
       go_simp
       refine aF9 hK (fun F8=> ?_)
       clear hK K I4
       (try simp only[Act.put,fe7,ff1,ff2])
       refine hdR 3 [] (fun K hK=> ?_) r9.nil
       (go_simp;go_at_call 79;go_must (refine(htw.out _ (by first|assumption|exact j4.drew ‹_›)).mono ?_);rintro e w4 ⟨_,H4,rfl,x4,tm,tb,tt,tu,to',ta,rfl,tw4⟩;obtain⟨H4',y4,l4,s4,n4⟩:=x4.side (by first|assumption|exact j4.drew ‹_›) bR7;have k4:j4 HX w4:=y4.old (by first|assumption|exact j4.drew ‹_›);have tw:=tw4.mono l4;have r54:M9 R5 32 w4 (.slice none 0 0) (.slice none 0 0) (.slice none 0 0) (.int .i64 0) (.slice none 0 0) (.slice none 0 0) (.slice none 0 0) (.int .i64 0):=M9.below (by first|exact r5c|exact r5c.drw) y4.below r5c.lt;have rn4:H4' R5=none:=(y4.same R5 r5c.lt).trans hXR;have x44:Ext w H w4 H4':=Ext.trans (by first|exact hxX|exact hxX.drew) y4;have o44:Own H4' w.heap.size w4 9 (.slice bv BK.length cbv) BK:=Own.ext (H:=HX) (by first|exact oX|exact oX.drew) (by first|assumption|exact j4.drew ‹_›) y4)
       refine aF9 hK (fun F9=> ?_)
       clear hK K F8
       (try simp only[Act.put,fe7,ff1,ff2])
       refine hdR 4 [] (fun K hK=> ?_) r9.nil
       (go_simp;go_at_call 78;go_must (refine(aT8 _ _ _ _ _ _ T hTb.out H4' _ y4.holds tw).mono ?_);rintro e w5 ⟨_,H5,rfl,y5,tm,tb,tt,tu,to',ta,rfl,Q0⟩;obtain⟨q0,m0,rfl,_,_⟩:=Q0.h.m.form;obtain⟨q1,m1,rfl,_,_⟩:=Q0.h.b.form;obtain⟨q2,m2,rfl,_,_⟩:=Q0.h.t.form;obtain⟨q3,m3,rfl,_,_⟩:=Q0.s.m.form;obtain⟨q4,m4,rfl,_,_⟩:=Q0.s.o.form;obtain⟨q5,m5,rfl,_,_⟩:=Q0.s.a.form;have k5:j4 HX w5:=k4.below y5.below;have r55:=r54.below y5.below r54.lt;have rn5:H5 R5=none:=(y5.same R5 r54.lt).trans rn4;have x55:=x44.trans y5;have o55:=o44.ext y4.holds y5;have hX5:D8 HX H5:=(y4.le (by first|exact hWX|exact hWX.drew)).trans (y5.le y4.holds);obtain⟨e0,e1,e2,e3,e4,e5,e6,e7,ef⟩:=r55.cells)
       refine aF9 hK (fun I7=> ?_)
       clear hK K F9
       refine hdA 6 ?_
       (try simp only[Act.put,fe7,ff1,ff2])
       refine hdR 7 [] (fun K hK=> ?_) r9.nil
       (go_wp2_with fail)
       refine hK.out _ _ (M9.setH ‹_› hXR _ _ _ _ _ _ _ _) (fun aa1=> ?_)
       clear hK K I7
       (try simp only[Act.put,fe7,ff1,ff2])
       refine G9 (by kernel_rfl) ?_
       simp only[ff5,ff6]
       obtain⟨HZ,zf8,z8,hd8,rz,hb8,hxZ,sA,twF,sZ⟩:=run_end x55 hRb rn5 k5 hXR r55 o55 hXB hXD hDW Q0 hX5 (bJ2.mono l2X)
       have zid:=aF6 z8
       clear e0 e1 e2 e3 e4 e5 e6 e7 ef tw4 x4 y4 tw y5 k4 r54 k5 x55 r55 o55
       generalize((((((((w5.setCell ⟨R5,0,none⟩ (.slice q0 T.h.ms.length m0)).setCell ⟨R5,1,none⟩ (.slice q1 T.h.bs.length m1)).setCell ⟨R5,2,none⟩ (.slice q2 T.h.ts.length m2)).setCell ⟨R5,3,none⟩ (.int .i64 T.h.ch)).setCell ⟨R5,4,none⟩ (.slice q3 T.s.mo.length m3)).setCell ⟨R5,5,none⟩ (.slice q4 T.s.wo.length m4)).setCell ⟨R5,6,none⟩ (.slice q5 T.s.wa.length m5)).setCell ⟨R5,7,none⟩ (.int .i64 T.s.fr))=w8 at*
       go_wp2_with fail
       (try rw[zid])
       (try unfold noP)
       (try dsimp only)
       (try(go_wp2_with fail))
       (try rw[zid])
       refine ak6 hd8 (av2 rfl _ _ R5 B6 32 _ (0,0) _ (.slice bv BK.length cbv) rfl rfl rz (by rw[Lib.cell_of_heap hb8];rfl) Tryz.underlying32 rfl (by kernel_rfl) (by kernel_rfl)) ?_
       exact⟨_,HZ,rfl,hxZ,_,_,_,_,rfl,by rw[cw4.out];exact sA,by rw[bR5.out];exact⟨_,_,_,_,_,_,rfl,twF⟩,by rw[bR4.out];exact sZ,cw5.out.symm⟩
      exact r9.nil
     case stop=>rintro _ _ _ _ _ _ _ _ _ _ h;exact h.elim
end
section
open Go.RowKit
attribute [local go_sem] j4.drew j4.alloc j4.drewN WB.holds Oper.semAt_some
theorem cV8 (vm vb vt um uo ua:Value) (t:D5) (hl:t.s.mo.length≤100000∧t.s.wo.length≤100000∧t.s.wa.length≤100000∧∀x∈t.s.wo,x.length≤100000) (H:j5) (w:World) (hw:j4 H w) (ht:Twn H vm vb vt um uo ua t):
 Calls Tryz.prog 47 #[ah0 vm vb vt um uo ua t] w (Post w H fun u H'=>bt6 H' u t):=by
 obtain⟨a0,c0,rfl,_,_⟩:=ht.h.m.form
 obtain⟨a1,c1,rfl,_,_⟩:=ht.h.b.form
 obtain⟨a2,c2,rfl,_,_⟩:=ht.h.t.form
 obtain⟨a3,c3,rfl,_,_⟩:=ht.s.m.form
 obtain⟨a4,c4,rfl,_,_⟩:=ht.s.o.form
 obtain⟨a5,c5,rfl,_,_⟩:=ht.s.a.form
 have hI:=ht.h.c
 go_enter Tryz.func47,Tryz.ntmps47
 go_upto_region 1 with(refine af8 rfl _ rfl (Ext.refl hw) ?_;intro B w1 H1 hle hx hB hBw;obtain⟨hc0,hc1,hc2,hc3,hc4,O8,hc6,O9⟩:=I5 hB;clear hB hw;have hw1:=hx.holds)
 have hh1:=ht.h.mono hle
 have hs1:=ht.s.mono hle
 have cR:=J4.new hx #[.slice none 0 0,.slice none 0 0,.slice none 0 0,.int .i64 0,.slice none 0 0,.slice none 0 0,.slice none 0 0,.int .i64 0] 32
 have xA:=cR.x
 generalize w1.alloc (.cells #[.slice none 0 0,.slice none 0 0,.slice none 0 0,.int .i64 0,.slice none 0 0,.slice none 0 0,.slice none 0 0,.int .i64 0] 32)=wA at*
 generalize w1.heap.size=R at*
 have hwA:=xA.holds
 clear hx hw1
 refine U1 (S:=(fun w'=>j4 H1 w')) 7 (by kernel_rfl) (by kernel_rfl) ?_ (fun N9=> ?_)
 ·(try dsimp only)
  (first|assumption|exact j4.drew ‹_›|exact j4.alloc ‹_› _)
 simp only[ff8,fg1,fh6,fh7,fg9,fg8,fg3,ff9,fg2]
 have xB:=xA.drew
 have cRB:=cR.drew
 generalize World.drew wA=wB at*
 refine hdA 0 ?_
 refine hdA 1 ?_
 refine hdA 3 ?_
 refine hdA 4 ?_
 (try simp only[Act.put,fe7,ff1,ff2])
 refine hdR 2 [] (fun K hK=> ?_) r9.nil
 (go_simp;go_at_call 72;go_must (refine(bZ0 _ _ _ t.h H1 _ xB.holds hh1).mono ?_);rintro e w2 ⟨um,ub,ut,H2,rfl,y2,om,ob,ot⟩;obtain⟨H3,y3,l3,s0,s1,s2⟩:=Own.cX4 y2 om ob ot (by decide) (by decide) (by decide);obtain⟨q0,m0,rfl,_,_⟩:=om.form;obtain⟨q1,m1,rfl,_,_⟩:=ob.form;obtain⟨q2,m2,rfl,_,_⟩:=ot.form;have c3:=cRB.ext y3;have k2:j4 H1 w2:=y3.old xB.holds)
 refine hK.out _ _ ?_ (fun I4=> ?_)
 ·(try dsimp only)
  (first|assumption|exact j4.drew ‹_›|exact j4.alloc ‹_› _)
 clear hK K N9
 (try simp only[Act.put,fe7,ff1,ff2])
 refine hdR 5 [] (fun K hK=> ?_) r9.nil
 (go_simp;go_at_call 73;go_must (refine(dj4 _ _ _ t.s hl H3 _ y3.holds (hs1.mono (y3.le xB.holds))).mono ?_);rintro e w5 ⟨_,H5,rfl,y5,wo1,wo2,wo3,rfl,sh⟩;obtain⟨q3,m3,rfl,_,_⟩:=sh.m.form;obtain⟨q4,m4,rfl,_,_⟩:=sh.o.form;obtain⟨q5,m5,rfl,_,_⟩:=sh.a.form;have c5':=c3.ext y5;have k5:j4 H1 w5:=(y3.trans y5).old xB.holds;have l5:=y5.le y3.holds)
 refine hK.out _ _ ?_ (fun F8=> ?_)
 ·(try dsimp only)
  (first|assumption|exact j4.drew ‹_›|exact j4.alloc ‹_› _)
 clear hK K I4
 refine hdA 6 ?_
 (try simp only[Act.put,fe7,ff1,ff2])
 refine G9 (by kernel_rfl) ?_
 simp only[ff5,ff6]
 obtain⟨e0,e1,e2,e3,e4,e5,e6,e7,ef⟩:=(M9.mk (T:=32) (a:= .slice none 0 0) (b:= .slice none 0 0) (c:= .slice none 0 0) (d:= .int .i64 0) (e:= .slice none 0 0) (f:= .slice none 0 0) (g:= .slice none 0 0) (h:= .int .i64 0) c5'.at_).cells
 have rz:=M9.set (R:=R) (T:=32) ⟨c5'.at_⟩ (.slice q0 t.h.ms.length m0) (.slice q1 t.h.bs.length m1) (.slice q2 t.h.ts.length m2) (.int .i64 t.h.ch) (.slice q3 t.s.mo.length m3) (.slice q4 t.s.wo.length m4) (.slice q5 t.s.wa.length m5) (.int .i64 t.s.fr)
 have xz:=Ext.aC3 c5'.x c5'.ob c5'.oH (.slice q0 t.h.ms.length m0) (.slice q1 t.h.bs.length m1) (.slice q2 t.h.ts.length m2) (.int .i64 t.h.ch) (.slice q3 t.s.mo.length m3) (.slice q4 t.s.wo.length m4) (.slice q5 t.s.wa.length m5) (.int .i64 t.s.fr)
 go_wp2_with fail
 refine bodyPost_ret (results_cell_row rfl _ _ R 32 _ (0,0) _ rfl rz.at_ Tryz.underlying32 rfl (by kernel_rfl)) rfl ?_
 exact⟨_,H5,rfl,xz,_,_,_,_,_,_,rfl,⟨⟨s0.mono l5,s1.mono l5,s2.mono l5,hI⟩,sh⟩⟩
end
end Go.Proofs.YtbliehinagkldaaGreatDoor
