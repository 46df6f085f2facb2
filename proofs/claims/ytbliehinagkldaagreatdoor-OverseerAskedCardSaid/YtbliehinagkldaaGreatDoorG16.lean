/- Lemmas and walks on which the claims of this seat lean (names and blanks made short by a program): ORef12f. -/
import Derived.Test.YtbliehinagkldaaGreatDoorG12
import Derived.Test.YtbliehinagkldaaGreatDoorG15

set_option linter.all false
set_option maxRecDepth 100000
set_option maxHeartbeats 16000000
open Go.Lib renaming hid → fe6
open List renaming setIfInBounds_toArray → fe7, set_cons_zero → ff1, set_cons_succ → ff2, length_cons → ff8, length_nil → fg1
open Nat renaming add_zero → fh2, ne_of_lt → fh5
namespace Go.Proofs.YtbliehinagkldaaGreatDoor
section
open Go.RowKit
attribute [local go_sem] j4.drew j4.alloc j4.drewN WB.holds Oper.semAt_some Q9 O1 J7
theorem bn5 {α:Type} [Enc α] (h1:Enc.sz α=1) {H:j5} {b o n c:Nat} {x y z:α} {xs:List α} (h:Sl H (.slice (some ⟨b,o,none⟩) n c) (x::y::z::xs)) {aT:Option Addr} (Z7:(if c=3 then some (⟨b,o,none⟩:Addr)else some ⟨b,o+3,none⟩)=aT):Sl H (.slice aT xs.length (c-3)) xs:=by
 obtain⟨a',c',e,hc1,hc2⟩:=h.form
 cases e
 have hd:=Sl.cL7 h (k:=3) (by simp)
 rw[h1,Nat.mul_one]at hd
 by_cases hc:c=3
 ·rw[if_pos hc]at Z7
  have:xs=[]:=by
   have:xs.length=0:=by simp at hc1;omega
   exact List.eq_nil_of_length_eq_zero this
  subst this
  exact Sl.nil H aT (by omega)
 ·rw[if_neg hc]at Z7
  subst Z7
  simpa using hd
inductive RdC (n:Int) (x:ByteArray) (V:F7):List ByteArray→Prop
 |other (q:List ByteArray):x≠Z6→x≠wAt→x≠ad5→V=E9→RdC n x V (q)
 |r1:x=Z6→V={E9 with kind:=4,of:=n}→RdC n x V ([])
 |r2 (y:ByteArray) (q:List ByteArray):x=Z6→V=E9→RdC n x V (y::q)
 |a1:x=wAt→V=E9→RdC n x V ([])
 |a2 (y:ByteArray) (q:List ByteArray):x=wAt→(A7 (y::q)).kind=2→V={A7 (y::q)with kind:=3,of:=n}→RdC n x V (y::q)
 |a3 (y:ByteArray) (q:List ByteArray):x=wAt→(A7 (y::q)).kind≠2→V=E9→RdC n x V (y::q)
 |l1 (q:List ByteArray):x=ad5→q.length≤1→V=E9→RdC n x V (q)
 |l2 (y:ByteArray) (z1:ByteArray) (q:List ByteArray):x=ad5→y≠wIs→V=E9→RdC n x V (y::z1::q)
 |l3 (y:ByteArray) (z1:ByteArray) (q:List ByteArray):x=ad5→y=wIs→z1=au8→q=[]→V={E9 with kind:=6,of:=n}→RdC n x V (y::z1::q)
 |l4a (y:ByteArray) (z1:ByteArray) (q:List ByteArray):x=ad5→y=wIs→q≠[]→(A7 (z1::q)).kind=1→V={A7 (z1::q)with kind:=5,of:=n}→RdC n x V (y::z1::q)
 |l4b (y:ByteArray) (z1:ByteArray) (q:List ByteArray):x=ad5→y=wIs→q=[]→z1≠au8→(A7 (z1::q)).kind=1→V={A7 (z1::q)with kind:=5,of:=n}→RdC n x V (y::z1::q)
 |l5a (y:ByteArray) (z1:ByteArray) (q:List ByteArray):x=ad5→y=wIs→q≠[]→(A7 (z1::q)).kind≠1→V=E9→RdC n x V (y::z1::q)
 |l5b (y:ByteArray) (z1:ByteArray) (q:List ByteArray):x=ad5→y=wIs→q=[]→z1≠au8→(A7 (z1::q)).kind≠1→V=E9→RdC n x V (y::z1::q)
theorem ab9 (s:ByteArray) (hs:s.size≤1100000) (H:j5) (w:World) (hw:j4 H w) (x b:ByteArray) (n:Int) (q:List ByteArray) (V:F7) (hsp:C9 s=x::b::q) (hk:(A7 (x::b::q)).kind=0) (hnb:O5 b=some n) (hc:RdC n x V q):
 Calls Tryz.prog 44 #[.string s] w (Post w H fun u H'=>bY2 H' u (V)):=by
 have hjz:(J9 (x::b::q)).size≤2000000:=by rw[←hsp,ay1];omega
 have hcn:=aw8 s
 have hpz:∀u∈(x::b::q),u.size≤1100000:=fun u hu=>by have:=J6 s u (by rw[hsp];exact hu);omega
 rw[hsp]at hcn
 obtain⟨N,hN⟩:∃N,Hid ((x::b::q).length=N):=⟨_,rfl⟩
 have hsplit:=fun(W:World) (hW:j4 H W)=>aF7 s (by omega) H W hW
 rw[hsp]at hsplit
 have ak3:=fun(va:Value) (H1:j5) (W:World) (hW:j4 H1 W) (ha:Sl H1 va (x::b::q))=>aj3 va x (b::q) hjz (by simp at hcn ⊢<;>omega) H1 W hW ha
 rw[bd7 hk]at ak3
 replace hsplit:=fe6 hsplit
 replace ak3:=fe6 ak3
 go_enter Tryz.func44,Tryz.ntmps44
 go_upto_region 1 with fail
 have cR:=J4.new (Ext.refl hw) #[.int .i64 0,.int .i64 0,.string ⟨#[]⟩,.string ⟨#[]⟩,.slice none 0 0] 82
 generalize w.alloc (.cells #[.int .i64 0,.int .i64 0,.string ⟨#[]⟩,.string ⟨#[]⟩,.slice none 0 0] 82)=wA at*
 obtain⟨R,hR⟩:∃R,w.heap.size=R:=⟨_,rfl⟩
 replace cR:J4 w H R 82 wA H #[.int .i64 0,.int .i64 0,.string ⟨#[]⟩,.string ⟨#[]⟩,.slice none 0 0]:=by rw[←hR];exact cR
 rw[hR]
 clear hR
 go_upto_region 2 with(go_at_call 28;refine(hsplit.out _ cR.x.holds).mono ?_;rintro e w2 ⟨v2,HH2,rfl,y2,o2⟩;obtain⟨H2,z2,_,s2,_⟩:=o2.close y2;obtain⟨a2,c2,e2,_,_⟩:=o2.form;rw[hN.out]at e2;subst e2;have cR2:=cR.ext z2)
 clear y2 o2 z2 cR hsplit
 go_upto_region 3 with(go_at_call 71;refine(ak3.out _ _ _ cR2.x.holds s2).mono ?_;rintro e w3 ⟨_,H3,rfl,y3,v3,rfl,s3⟩;have cR3:=cR2.ext y3;obtain⟨a3,c3,rfl,_,_⟩:=s3.form)
 have cX:=J4.new cR3.x #[.int .i64 E9.kind,.int .i64 E9.of,.string E9.word,.string E9.text,.slice a3 E9.nums.length c3] 82
 have cR4:=cR3.alloc (.cells #[.int .i64 E9.kind,.int .i64 E9.of,.string E9.word,.string E9.text,.slice a3 E9.nums.length c3] 82)
 have hRX:R≠w3.heap.size:=fh5 cR3.lt
 generalize w3.alloc (.cells #[.int .i64 E9.kind,.int .i64 E9.of,.string E9.word,.string E9.text,.slice a3 E9.nums.length c3] 82)=w4 at*
 generalize w3.heap.size=X at*
 have hne:(E9.kind != 0)=false:=by decide
 have d0:=cX.cell 0
 simp at d0
 have hlq:(N:Int)=(q.length:Int)+2:=by rw[←hN.out];simp<;>omega
 have hl2:¬(N:Int)<2:=by omega
 have hl3:(1:Int)<(N:Int):=by omega
 have hl4:(0:Int)<(N:Int):=by omega
 obtain⟨b1,o1,k1,he,_,r1⟩:=s2.str (show At (x::b::q) 1 b from rfl)
 rw[hN.out]at he
 cases he
 replace r1:=lift (y3.le cR2.x.holds) r1
 (try simp only[fh2]at r1)
 obtain⟨b0,o0,k0,he,_,r0⟩:=s2.str (show At (x::b::q) 0 x from rfl)
 rw[hN.out]at he
 cases he
 replace r0:=lift (y3.le cR2.x.holds) r0
 (try simp only[fh2]at r0)
 have F5:=fun W=>aK3 b W
 have e1:aV7 b=n:=by unfold aV7;rw[hnb];rfl
 have e2:aq5 b=true:=by unfold aq5;rw[hnb];rfl
 rw[e1,e2]at F5
 replace F5:=fe6 F5
 clear e1 e2
 replace hlq:=fe6 hlq
 replace hc:=fe6 hc
 have hw4:=cR4.x.holds
 go_upto_region 8 with(go_at_call 45;refine(F5.out _).mono ?_;rintro e w5 ⟨rfl,hb5⟩;have K7:=cR4.below hb5)
 have hw5:=K7.x.holds
 clear cR4 hb5 hw4 F5 d0 cX
 replace hc:=hc.out
 cases hc with
 |other q hx1 hx2 hx3 hV=>
  replace hV:=fe6 hV
  replace hlq:(N:Int)=(q.length:Int)+2:=by have h:=hlq.out;(try simp only[ff8,fg1]at h);omega
  have t1:=j6 (l:=[114,101,97,100,115]) hx1
  have t2:=j6 (l:=[97,116]) hx2
  have t3:=j6 (l:=[108,105,110,101]) hx3
  clear hx1 hx2 hx3
  replace hlq:=fe6 hlq
  have c9:=((((K7.set 0 (.int .i64 0)).set 1 (.int .i64 0)).set 2 (.string ⟨#[]⟩)).set 3 (.string ⟨#[]⟩)).set 4 (.slice none 0 0)
  simp only[fe7,ff1,ff2]at c9
  have e0:=K7.cell 0
  have e1:=K7.cell 1
  have e2:=K7.cell 2
  have e3:=K7.cell 3
  have e4:=K7.cell 4
  have ef:=K7.fz
  simp at e0 e1 e2 e3 e4
  go_wp2_with fail
  refine bodyPost_ret (results_cell_row rfl _ _ R 82 _ (0,0) _ rfl (by first|exact c9.at_|exact K7.at_) Tryz.underlying82 rfl (by kernel_rfl)) rfl ?_
  first|exact⟨_,H3,rfl,c9.x,by rw[hV.out];exact⟨_,rfl,Sl.Y9 H3⟩⟩|exact⟨_,H3,rfl,K7.x,by rw[hV.out];exact⟨_,rfl,Sl.Y9 H3⟩⟩
 |r1 hx hV=>
  replace hV:=fe6 hV
  replace hlq:(N:Int)=2:=by have h:=hlq.out;(try simp only[ff8,fg1]at h);omega
  have hm:((N:Int)==2)=true:=beq_iff_eq.2 hlq
  have t1:=G8 (l:=[114,101,97,100,115]) hx
  have t2:=j6 (l:=[97,116]) (show x≠wAt by rw[hx];decide)
  have t3:=j6 (l:=[108,105,110,101]) (show x≠ad5 by rw[hx];decide)
  clear hx
  replace hlq:=fe6 hlq
  have c9:=((((K7.set 0 (.int .i64 4)).set 1 (.int .i64 n)).set 2 (.string ⟨#[]⟩)).set 3 (.string ⟨#[]⟩)).set 4 (.slice none 0 0)
  simp only[fe7,ff1,ff2]at c9
  have e0:=K7.cell 0
  have e1:=K7.cell 1
  have e2:=K7.cell 2
  have e3:=K7.cell 3
  have e4:=K7.cell 4
  have ef:=K7.fz
  simp at e0 e1 e2 e3 e4
  go_wp2_with fail
  refine bodyPost_ret (results_cell_row rfl _ _ R 82 _ (0,0) _ rfl (by first|exact c9.at_|exact K7.at_) Tryz.underlying82 rfl (by kernel_rfl)) rfl ?_
  first|exact⟨_,H3,rfl,c9.x,by rw[hV.out];exact⟨_,rfl,Sl.Y9 H3⟩⟩|exact⟨_,H3,rfl,K7.x,by rw[hV.out];exact⟨_,rfl,Sl.Y9 H3⟩⟩
 |r2 y q hx hV=>
  replace hV:=fe6 hV
  replace hlq:(N:Int)=(q.length:Int)+3:=by have h:=hlq.out;(try simp only[ff8,fg1]at h);omega
  have hm:((N:Int)==2)=false:=beq_eq_false_iff_ne.2 (by omega)
  have t1:=G8 (l:=[114,101,97,100,115]) hx
  have t2:=j6 (l:=[97,116]) (show x≠wAt by rw[hx];decide)
  have t3:=j6 (l:=[108,105,110,101]) (show x≠ad5 by rw[hx];decide)
  clear hx
  replace hlq:=fe6 hlq
  have c9:=((((K7.set 0 (.int .i64 0)).set 1 (.int .i64 0)).set 2 (.string ⟨#[]⟩)).set 3 (.string ⟨#[]⟩)).set 4 (.slice none 0 0)
  simp only[fe7,ff1,ff2]at c9
  have e0:=K7.cell 0
  have e1:=K7.cell 1
  have e2:=K7.cell 2
  have e3:=K7.cell 3
  have e4:=K7.cell 4
  have ef:=K7.fz
  simp at e0 e1 e2 e3 e4
  go_wp2_with fail
  refine bodyPost_ret (results_cell_row rfl _ _ R 82 _ (0,0) _ rfl (by first|exact c9.at_|exact K7.at_) Tryz.underlying82 rfl (by kernel_rfl)) rfl ?_
  first|exact⟨_,H3,rfl,c9.x,by rw[hV.out];exact⟨_,rfl,Sl.Y9 H3⟩⟩|exact⟨_,H3,rfl,K7.x,by rw[hV.out];exact⟨_,rfl,Sl.Y9 H3⟩⟩
 |a1 hx hV=>
  replace hV:=fe6 hV
  replace hlq:(N:Int)=2:=by have h:=hlq.out;(try simp only[ff8,fg1]at h);omega
  have hm:¬(2:Int)<(N:Int):=by omega
  have t1:=j6 (l:=[114,101,97,100,115]) (show x≠Z6 by rw[hx];decide)
  have t2:=G8 (l:=[97,116]) hx
  have t3:=j6 (l:=[108,105,110,101]) (show x≠ad5 by rw[hx];decide)
  clear hx
  replace hlq:=fe6 hlq
  have c9:=((((K7.set 0 (.int .i64 0)).set 1 (.int .i64 0)).set 2 (.string ⟨#[]⟩)).set 3 (.string ⟨#[]⟩)).set 4 (.slice none 0 0)
  simp only[fe7,ff1,ff2]at c9
  have e0:=K7.cell 0
  have e1:=K7.cell 1
  have e2:=K7.cell 2
  have e3:=K7.cell 3
  have e4:=K7.cell 4
  have ef:=K7.fz
  simp at e0 e1 e2 e3 e4
  go_wp2_with fail
  refine bodyPost_ret (results_cell_row rfl _ _ R 82 _ (0,0) _ rfl (by first|exact c9.at_|exact K7.at_) Tryz.underlying82 rfl (by kernel_rfl)) rfl ?_
  first|exact⟨_,H3,rfl,c9.x,by rw[hV.out];exact⟨_,rfl,Sl.Y9 H3⟩⟩|exact⟨_,H3,rfl,K7.x,by rw[hV.out];exact⟨_,rfl,Sl.Y9 H3⟩⟩
 |a2 y q hx hk2 hV=>
  replace hV:=fe6 hV
  replace hlq:(N:Int)=(q.length:Int)+3:=by have h:=hlq.out;(try simp only[ff8,fg1]at h);omega
  have hm:(2:Int)<(N:Int):=by omega
  have hm2:(2:Int)≤(N:Int):=by omega
  obtain⟨M,hM⟩:∃M,(y::q).length=M:=⟨_,rfl⟩
  have hNM:N-2=M:=by rw[←hM,←hN.out];simp
  obtain⟨aT,Z7⟩:∃aT,(if c2=2 then some (⟨b1,o1,none⟩:Addr)else some ⟨b1,o1+2,none⟩)=aT:=⟨_,rfl⟩
  have sT:=(ak1 rfl s2 Z7).mono (y3.le cR2.x.holds)
  rw[hM]at sT
  have aD0:(J9 (y::q)).size≤2000000:=by have q1:=N7 x (b::y::q);have q2:=N7 b (y::q);omega
  have hw2:=fun(H1:j5) (W:World) (hW:j4 H1 W) (ha:Sl H1 (.slice aT M (c2-2)) (y::q))=>aj3 (.slice aT M (c2-2)) y (q) aD0 (by simp at hcn;omega) H1 W hW ha
  obtain⟨z,hz⟩:∃z,A7 (y::q)=z:=⟨_,rfl⟩
  rw[hz]at hw2 hk2
  replace hz:=fe6 hz
  replace hw2:=fe6 hw2
  replace hM:=fe6 hM
  replace hk2:=fe6 hk2
  clear aD0
  have t1:=j6 (l:=[114,101,97,100,115]) (show x≠Z6 by rw[hx];decide)
  have t2:=G8 (l:=[97,116]) hx
  have t3:=j6 (l:=[108,105,110,101]) (show x≠ad5 by rw[hx];decide)
  clear hx
  replace hlq:=fe6 hlq
  go_upto_region 17 with(go_at_call 71;refine(hw2.out _ _ K7.x.holds sT).mono ?_;rintro e w6 ⟨_,H6,rfl,y6,v6,rfl,s6⟩;obtain⟨a6,c6,rfl,_,_⟩:=s6.form;have cR6:=K7.ext y6)
  have cX6:=J4.new cR6.x #[.int .i64 z.kind,.int .i64 z.of,.string z.word,.string z.text,.slice a6 z.nums.length c6] 82
  have cR7:=cR6.alloc (.cells #[.int .i64 z.kind,.int .i64 z.of,.string z.word,.string z.text,.slice a6 z.nums.length c6] 82)
  have aY2:R≠w6.heap.size:=fh5 cR6.lt
  generalize w6.alloc (.cells #[.int .i64 z.kind,.int .i64 z.of,.string z.word,.string z.text,.slice a6 z.nums.length c6] 82)=w7 at*
  generalize w6.heap.size=X6 at*
  clear K7 cR6 hw2
  have hz2:(z.kind==2)=true:=beq_iff_eq.2 hk2.out
  have cX8:=(cX6.set 0 (.int .i64 3)).set 1 (.int .i64 n)
  have cR8:=(cR7.off (a:=⟨X6,0,none⟩) cX6.ob cX6.oH (Ne.symm aY2) (.int .i64 3)).off (a:=⟨X6,1,none⟩) cX6.ob cX6.oH (Ne.symm aY2) (.int .i64 n)
  simp only[fe7,ff1,ff2]at cX8
  have g0:=cX6.cell 0
  have g1:=cX6.cell 1
  have gf:=cX6.fz
  simp at g0 g1
  clear hk2
  go_upto_region 19 with fail
  generalize(w7.setCell ⟨X6,0,none⟩ (.int .i64 3)).setCell ⟨X6,1,none⟩ (.int .i64 n)=w8 at*
  clear g0 g1 gf cX6 cR7
  have g0:=cX8.cell 0
  have g1:=cX8.cell 1
  have g2:=cX8.cell 2
  have g3:=cX8.cell 3
  have g4:=cX8.cell 4
  simp at g0 g1 g2 g3 g4
  have c9:=((((cR8.set 0 (.int .i64 3)).set 1 (.int .i64 n)).set 2 (.string z.word)).set 3 (.string z.text)).set 4 (.slice a6 z.nums.length c6)
  simp only[fe7,ff1,ff2]at c9
  have e0:=cR8.cell 0
  have e1:=cR8.cell 1
  have e2:=cR8.cell 2
  have e3:=cR8.cell 3
  have e4:=cR8.cell 4
  have ef:=cR8.fz
  simp at e0 e1 e2 e3 e4
  go_wp2_with fail
  refine bodyPost_ret (results_cell_row rfl _ _ R 82 _ (0,0) _ rfl (by first|exact c9.at_|exact cR8.at_) Tryz.underlying82 rfl (by kernel_rfl)) rfl ?_
  exact⟨_,H6,rfl,c9.x,by rw[hV.out,hz.out];exact⟨_,rfl,s6⟩⟩
 |a3 y q hx hk2 hV=>
  replace hV:=fe6 hV
  replace hlq:(N:Int)=(q.length:Int)+3:=by have h:=hlq.out;(try simp only[ff8,fg1]at h);omega
  have hm:(2:Int)<(N:Int):=by omega
  have hm2:(2:Int)≤(N:Int):=by omega
  obtain⟨M,hM⟩:∃M,(y::q).length=M:=⟨_,rfl⟩
  have hNM:N-2=M:=by rw[←hM,←hN.out];simp
  obtain⟨aT,Z7⟩:∃aT,(if c2=2 then some (⟨b1,o1,none⟩:Addr)else some ⟨b1,o1+2,none⟩)=aT:=⟨_,rfl⟩
  have sT:=(ak1 rfl s2 Z7).mono (y3.le cR2.x.holds)
  rw[hM]at sT
  have aD0:(J9 (y::q)).size≤2000000:=by have q1:=N7 x (b::y::q);have q2:=N7 b (y::q);omega
  have hw2:=fun(H1:j5) (W:World) (hW:j4 H1 W) (ha:Sl H1 (.slice aT M (c2-2)) (y::q))=>aj3 (.slice aT M (c2-2)) y (q) aD0 (by simp at hcn;omega) H1 W hW ha
  obtain⟨z,hz⟩:∃z,A7 (y::q)=z:=⟨_,rfl⟩
  rw[hz]at hw2 hk2
  replace hz:=fe6 hz
  replace hw2:=fe6 hw2
  replace hM:=fe6 hM
  replace hk2:=fe6 hk2
  clear aD0
  have t1:=j6 (l:=[114,101,97,100,115]) (show x≠Z6 by rw[hx];decide)
  have t2:=G8 (l:=[97,116]) hx
  have t3:=j6 (l:=[108,105,110,101]) (show x≠ad5 by rw[hx];decide)
  clear hx
  replace hlq:=fe6 hlq
  go_upto_region 17 with(go_at_call 71;refine(hw2.out _ _ K7.x.holds sT).mono ?_;rintro e w6 ⟨_,H6,rfl,y6,v6,rfl,s6⟩;obtain⟨a6,c6,rfl,_,_⟩:=s6.form;have cR6:=K7.ext y6)
  have cX6:=J4.new cR6.x #[.int .i64 z.kind,.int .i64 z.of,.string z.word,.string z.text,.slice a6 z.nums.length c6] 82
  have cR7:=cR6.alloc (.cells #[.int .i64 z.kind,.int .i64 z.of,.string z.word,.string z.text,.slice a6 z.nums.length c6] 82)
  have aY2:R≠w6.heap.size:=fh5 cR6.lt
  generalize w6.alloc (.cells #[.int .i64 z.kind,.int .i64 z.of,.string z.word,.string z.text,.slice a6 z.nums.length c6] 82)=w7 at*
  generalize w6.heap.size=X6 at*
  clear K7 cR6 hw2
  have hz2:(z.kind==2)=false:=beq_eq_false_iff_ne.2 hk2.out
  have g0:=cX6.cell 0
  simp at g0
  clear hk2
  have c9:=((((cR7.set 0 (.int .i64 0)).set 1 (.int .i64 0)).set 2 (.string ⟨#[]⟩)).set 3 (.string ⟨#[]⟩)).set 4 (.slice none 0 0)
  simp only[fe7,ff1,ff2]at c9
  have e0:=cR7.cell 0
  have e1:=cR7.cell 1
  have e2:=cR7.cell 2
  have e3:=cR7.cell 3
  have e4:=cR7.cell 4
  have ef:=cR7.fz
  simp at e0 e1 e2 e3 e4
  go_wp2_with fail
  refine bodyPost_ret (results_cell_row rfl _ _ R 82 _ (0,0) _ rfl (by first|exact c9.at_|exact cR7.at_) Tryz.underlying82 rfl (by kernel_rfl)) rfl ?_
  first|exact⟨_,H6,rfl,c9.x,by rw[hV.out];exact⟨_,rfl,Sl.Y9 H6⟩⟩|exact⟨_,H6,rfl,cR7.x,by rw[hV.out];exact⟨_,rfl,Sl.Y9 H6⟩⟩
 |l1 q hx hq1 hV=>
  replace hV:=fe6 hV
  replace hlq:(N:Int)=(q.length:Int)+2:=by have h:=hlq.out;(try simp only[ff8,fg1]at h);omega
  have hm:(N:Int)<4:=by omega
  have t1:=j6 (l:=[114,101,97,100,115]) (show x≠Z6 by rw[hx];decide)
  have t2:=j6 (l:=[97,116]) (show x≠wAt by rw[hx];decide)
  have t3:=G8 (l:=[108,105,110,101]) hx
  clear hx
  replace hlq:=fe6 hlq
  have c9:=((((K7.set 0 (.int .i64 0)).set 1 (.int .i64 0)).set 2 (.string ⟨#[]⟩)).set 3 (.string ⟨#[]⟩)).set 4 (.slice none 0 0)
  simp only[fe7,ff1,ff2]at c9
  have e0:=K7.cell 0
  have e1:=K7.cell 1
  have e2:=K7.cell 2
  have e3:=K7.cell 3
  have e4:=K7.cell 4
  have ef:=K7.fz
  simp at e0 e1 e2 e3 e4
  go_wp2_with fail
  refine bodyPost_ret (results_cell_row rfl _ _ R 82 _ (0,0) _ rfl (by first|exact c9.at_|exact K7.at_) Tryz.underlying82 rfl (by kernel_rfl)) rfl ?_
  first|exact⟨_,H3,rfl,c9.x,by rw[hV.out];exact⟨_,rfl,Sl.Y9 H3⟩⟩|exact⟨_,H3,rfl,K7.x,by rw[hV.out];exact⟨_,rfl,Sl.Y9 H3⟩⟩
 |l2 y z1 q hx hy hV=>
  replace hV:=fe6 hV
  replace hlq:(N:Int)=(q.length:Int)+4:=by have h:=hlq.out;(try simp only[ff8,fg1]at h);omega
  have hm:¬(N:Int)<4:=by omega
  have hm3:(2:Int)<(N:Int):=by omega
  have hm4:(3:Int)<(N:Int):=by omega
  have hm5:(3:Int)≤(N:Int):=by omega
  obtain⟨b2,o2,k2,he,_,r2⟩:=s2.str (show At (x::b::y::z1::q) 2 y from rfl)
  rw[hN.out]at he
  cases he
  replace r2:=lift (y3.le cR2.x.holds) r2
  (try simp only[fh2]at r2)
  have ti:=j6 (l:=[105,115]) hy
  clear hy
  have t1:=j6 (l:=[114,101,97,100,115]) (show x≠Z6 by rw[hx];decide)
  have t2:=j6 (l:=[97,116]) (show x≠wAt by rw[hx];decide)
  have t3:=G8 (l:=[108,105,110,101]) hx
  clear hx
  replace hlq:=fe6 hlq
  have c9:=((((K7.set 0 (.int .i64 0)).set 1 (.int .i64 0)).set 2 (.string ⟨#[]⟩)).set 3 (.string ⟨#[]⟩)).set 4 (.slice none 0 0)
  simp only[fe7,ff1,ff2]at c9
  have e0:=K7.cell 0
  have e1:=K7.cell 1
  have e2:=K7.cell 2
  have e3:=K7.cell 3
  have e4:=K7.cell 4
  have ef:=K7.fz
  simp at e0 e1 e2 e3 e4
  go_wp2_with fail
  refine bodyPost_ret (results_cell_row rfl _ _ R 82 _ (0,0) _ rfl (by first|exact c9.at_|exact K7.at_) Tryz.underlying82 rfl (by kernel_rfl)) rfl ?_
  first|exact⟨_,H3,rfl,c9.x,by rw[hV.out];exact⟨_,rfl,Sl.Y9 H3⟩⟩|exact⟨_,H3,rfl,K7.x,by rw[hV.out];exact⟨_,rfl,Sl.Y9 H3⟩⟩
 |l3 y z1 q hx hy hn1 hn2 hV=>
  replace hV:=fe6 hV
  replace hlq:(N:Int)=(q.length:Int)+4:=by have h:=hlq.out;(try simp only[ff8,fg1]at h);omega
  have hm:¬(N:Int)<4:=by omega
  have hm3:(2:Int)<(N:Int):=by omega
  have hm4:(3:Int)<(N:Int):=by omega
  have hm5:(3:Int)≤(N:Int):=by omega
  have hm6:((N:Int)==4)=true:=beq_iff_eq.2 (by rw[hn2]at hlq;simpa using hlq)
  obtain⟨b2,o2,k2,he,_,r2⟩:=s2.str (show At (x::b::y::z1::q) 2 y from rfl)
  rw[hN.out]at he
  cases he
  replace r2:=lift (y3.le cR2.x.holds) r2
  (try simp only[fh2]at r2)
  obtain⟨b3,o3,k3,he,_,r3⟩:=s2.str (show At (x::b::y::z1::q) 3 z1 from rfl)
  rw[hN.out]at he
  cases he
  replace r3:=lift (y3.le cR2.x.holds) r3
  (try simp only[fh2]at r3)
  have ti:=G8 (l:=[105,115]) hy
  have tn:=G8 (l:=[110,111,116]) hn1
  clear hy hn1 hn2
  have t1:=j6 (l:=[114,101,97,100,115]) (show x≠Z6 by rw[hx];decide)
  have t2:=j6 (l:=[97,116]) (show x≠wAt by rw[hx];decide)
  have t3:=G8 (l:=[108,105,110,101]) hx
  clear hx
  replace hlq:=fe6 hlq
  have c9:=((((K7.set 0 (.int .i64 6)).set 1 (.int .i64 n)).set 2 (.string ⟨#[]⟩)).set 3 (.string ⟨#[]⟩)).set 4 (.slice none 0 0)
  simp only[fe7,ff1,ff2]at c9
  have e0:=K7.cell 0
  have e1:=K7.cell 1
  have e2:=K7.cell 2
  have e3:=K7.cell 3
  have e4:=K7.cell 4
  have ef:=K7.fz
  simp at e0 e1 e2 e3 e4
  go_wp2_with fail
  refine bodyPost_ret (results_cell_row rfl _ _ R 82 _ (0,0) _ rfl (by first|exact c9.at_|exact K7.at_) Tryz.underlying82 rfl (by kernel_rfl)) rfl ?_
  first|exact⟨_,H3,rfl,c9.x,by rw[hV.out];exact⟨_,rfl,Sl.Y9 H3⟩⟩|exact⟨_,H3,rfl,K7.x,by rw[hV.out];exact⟨_,rfl,Sl.Y9 H3⟩⟩
 |l4a y z1 q hx hy hn9 hk2 hV=>
  replace hV:=fe6 hV
  replace hlq:(N:Int)=(q.length:Int)+4:=by have h:=hlq.out;(try simp only[ff8,fg1]at h);omega
  have hm:¬(N:Int)<4:=by omega
  have hm3:(2:Int)<(N:Int):=by omega
  have hm4:(3:Int)<(N:Int):=by omega
  have hm5:(3:Int)≤(N:Int):=by omega
  have hm6:((N:Int)==4)=false:=beq_eq_false_iff_ne.2 fun e=>hn9 (List.eq_nil_of_length_eq_zero (by omega))
  clear hn9
  obtain⟨b2,o2,k2,he,_,r2⟩:=s2.str (show At (x::b::y::z1::q) 2 y from rfl)
  rw[hN.out]at he
  cases he
  replace r2:=lift (y3.le cR2.x.holds) r2
  (try simp only[fh2]at r2)
  obtain⟨b3,o3,k3,he,_,r3⟩:=s2.str (show At (x::b::y::z1::q) 3 z1 from rfl)
  rw[hN.out]at he
  cases he
  replace r3:=lift (y3.le cR2.x.holds) r3
  (try simp only[fh2]at r3)
  have ti:=G8 (l:=[105,115]) hy
  clear hy
  obtain⟨M,hM⟩:∃M,(z1::q).length=M:=⟨_,rfl⟩
  have hNM:N-3=M:=by rw[←hM,←hN.out];simp
  obtain⟨aT,Z7⟩:∃aT,(if c2=3 then some (⟨b1,o1,none⟩:Addr)else some ⟨b1,o1+3,none⟩)=aT:=⟨_,rfl⟩
  have sT:=(bn5 rfl s2 Z7).mono (y3.le cR2.x.holds)
  rw[hM]at sT
  have aD0:(J9 (z1::q)).size≤2000000:=by have q1:=N7 x (b::y::z1::q);have q2:=N7 b (y::z1::q);have q3:=N7 y (z1::q);omega
  have hw2:=fun(H1:j5) (W:World) (hW:j4 H1 W) (ha:Sl H1 (.slice aT M (c2-3)) (z1::q))=>aj3 (.slice aT M (c2-3)) z1 (q) aD0 (by simp at hcn;omega) H1 W hW ha
  obtain⟨z,hz⟩:∃z,A7 (z1::q)=z:=⟨_,rfl⟩
  rw[hz]at hw2 hk2
  replace hz:=fe6 hz
  replace hw2:=fe6 hw2
  replace hM:=fe6 hM
  replace hk2:=fe6 hk2
  clear aD0
  have t1:=j6 (l:=[114,101,97,100,115]) (show x≠Z6 by rw[hx];decide)
  have t2:=j6 (l:=[97,116]) (show x≠wAt by rw[hx];decide)
  have t3:=G8 (l:=[108,105,110,101]) hx
  clear hx
  replace hlq:=fe6 hlq
  go_upto_region 26 with(go_at_call 71;refine(hw2.out _ _ K7.x.holds sT).mono ?_;rintro e w6 ⟨_,H6,rfl,y6,v6,rfl,s6⟩;obtain⟨a6,c6,rfl,_,_⟩:=s6.form;have cR6:=K7.ext y6)
  have cX6:=J4.new cR6.x #[.int .i64 z.kind,.int .i64 z.of,.string z.word,.string z.text,.slice a6 z.nums.length c6] 82
  have cR7:=cR6.alloc (.cells #[.int .i64 z.kind,.int .i64 z.of,.string z.word,.string z.text,.slice a6 z.nums.length c6] 82)
  have aY2:R≠w6.heap.size:=fh5 cR6.lt
  generalize w6.alloc (.cells #[.int .i64 z.kind,.int .i64 z.of,.string z.word,.string z.text,.slice a6 z.nums.length c6] 82)=w7 at*
  generalize w6.heap.size=X6 at*
  clear K7 cR6 hw2
  have hz2:(z.kind==1)=true:=beq_iff_eq.2 hk2.out
  have cX8:=(cX6.set 0 (.int .i64 5)).set 1 (.int .i64 n)
  have cR8:=(cR7.off (a:=⟨X6,0,none⟩) cX6.ob cX6.oH (Ne.symm aY2) (.int .i64 5)).off (a:=⟨X6,1,none⟩) cX6.ob cX6.oH (Ne.symm aY2) (.int .i64 n)
  simp only[fe7,ff1,ff2]at cX8
  have g0:=cX6.cell 0
  have g1:=cX6.cell 1
  have gf:=cX6.fz
  simp at g0 g1
  clear hk2
  go_upto_region 28 with fail
  generalize(w7.setCell ⟨X6,0,none⟩ (.int .i64 5)).setCell ⟨X6,1,none⟩ (.int .i64 n)=w8 at*
  clear g0 g1 gf cX6 cR7
  have g0:=cX8.cell 0
  have g1:=cX8.cell 1
  have g2:=cX8.cell 2
  have g3:=cX8.cell 3
  have g4:=cX8.cell 4
  simp at g0 g1 g2 g3 g4
  have c9:=((((cR8.set 0 (.int .i64 5)).set 1 (.int .i64 n)).set 2 (.string z.word)).set 3 (.string z.text)).set 4 (.slice a6 z.nums.length c6)
  simp only[fe7,ff1,ff2]at c9
  have e0:=cR8.cell 0
  have e1:=cR8.cell 1
  have e2:=cR8.cell 2
  have e3:=cR8.cell 3
  have e4:=cR8.cell 4
  have ef:=cR8.fz
  simp at e0 e1 e2 e3 e4
  go_wp2_with fail
  refine bodyPost_ret (results_cell_row rfl _ _ R 82 _ (0,0) _ rfl (by first|exact c9.at_|exact cR8.at_) Tryz.underlying82 rfl (by kernel_rfl)) rfl ?_
  exact⟨_,H6,rfl,c9.x,by rw[hV.out,hz.out];exact⟨_,rfl,s6⟩⟩
 |l4b y z1 q hx hy hn9 hn8 hk2 hV=>
  replace hV:=fe6 hV
  replace hlq:(N:Int)=(q.length:Int)+4:=by have h:=hlq.out;(try simp only[ff8,fg1]at h);omega
  have hm:¬(N:Int)<4:=by omega
  have hm3:(2:Int)<(N:Int):=by omega
  have hm4:(3:Int)<(N:Int):=by omega
  have hm5:(3:Int)≤(N:Int):=by omega
  have hm6:((N:Int)==4)=true:=beq_iff_eq.2 (by rw[hn9]at hlq;simpa using hlq)
  have tn:=j6 (l:=[110,111,116]) hn8
  clear hn8 hn9
  obtain⟨b2,o2,k2,he,_,r2⟩:=s2.str (show At (x::b::y::z1::q) 2 y from rfl)
  rw[hN.out]at he
  cases he
  replace r2:=lift (y3.le cR2.x.holds) r2
  (try simp only[fh2]at r2)
  obtain⟨b3,o3,k3,he,_,r3⟩:=s2.str (show At (x::b::y::z1::q) 3 z1 from rfl)
  rw[hN.out]at he
  cases he
  replace r3:=lift (y3.le cR2.x.holds) r3
  (try simp only[fh2]at r3)
  have ti:=G8 (l:=[105,115]) hy
  clear hy
  obtain⟨M,hM⟩:∃M,(z1::q).length=M:=⟨_,rfl⟩
  have hNM:N-3=M:=by rw[←hM,←hN.out];simp
  obtain⟨aT,Z7⟩:∃aT,(if c2=3 then some (⟨b1,o1,none⟩:Addr)else some ⟨b1,o1+3,none⟩)=aT:=⟨_,rfl⟩
  have sT:=(bn5 rfl s2 Z7).mono (y3.le cR2.x.holds)
  rw[hM]at sT
  have aD0:(J9 (z1::q)).size≤2000000:=by have q1:=N7 x (b::y::z1::q);have q2:=N7 b (y::z1::q);have q3:=N7 y (z1::q);omega
  have hw2:=fun(H1:j5) (W:World) (hW:j4 H1 W) (ha:Sl H1 (.slice aT M (c2-3)) (z1::q))=>aj3 (.slice aT M (c2-3)) z1 (q) aD0 (by simp at hcn;omega) H1 W hW ha
  obtain⟨z,hz⟩:∃z,A7 (z1::q)=z:=⟨_,rfl⟩
  rw[hz]at hw2 hk2
  replace hz:=fe6 hz
  replace hw2:=fe6 hw2
  replace hM:=fe6 hM
  replace hk2:=fe6 hk2
  clear aD0
  have t1:=j6 (l:=[114,101,97,100,115]) (show x≠Z6 by rw[hx];decide)
  have t2:=j6 (l:=[97,116]) (show x≠wAt by rw[hx];decide)
  have t3:=G8 (l:=[108,105,110,101]) hx
  clear hx
  replace hlq:=fe6 hlq
  go_upto_region 26 with(go_at_call 71;refine(hw2.out _ _ K7.x.holds sT).mono ?_;rintro e w6 ⟨_,H6,rfl,y6,v6,rfl,s6⟩;obtain⟨a6,c6,rfl,_,_⟩:=s6.form;have cR6:=K7.ext y6)
  have cX6:=J4.new cR6.x #[.int .i64 z.kind,.int .i64 z.of,.string z.word,.string z.text,.slice a6 z.nums.length c6] 82
  have cR7:=cR6.alloc (.cells #[.int .i64 z.kind,.int .i64 z.of,.string z.word,.string z.text,.slice a6 z.nums.length c6] 82)
  have aY2:R≠w6.heap.size:=fh5 cR6.lt
  generalize w6.alloc (.cells #[.int .i64 z.kind,.int .i64 z.of,.string z.word,.string z.text,.slice a6 z.nums.length c6] 82)=w7 at*
  generalize w6.heap.size=X6 at*
  clear K7 cR6 hw2
  have hz2:(z.kind==1)=true:=beq_iff_eq.2 hk2.out
  have cX8:=(cX6.set 0 (.int .i64 5)).set 1 (.int .i64 n)
  have cR8:=(cR7.off (a:=⟨X6,0,none⟩) cX6.ob cX6.oH (Ne.symm aY2) (.int .i64 5)).off (a:=⟨X6,1,none⟩) cX6.ob cX6.oH (Ne.symm aY2) (.int .i64 n)
  simp only[fe7,ff1,ff2]at cX8
  have g0:=cX6.cell 0
  have g1:=cX6.cell 1
  have gf:=cX6.fz
  simp at g0 g1
  clear hk2
  go_upto_region 28 with fail
  generalize(w7.setCell ⟨X6,0,none⟩ (.int .i64 5)).setCell ⟨X6,1,none⟩ (.int .i64 n)=w8 at*
  clear g0 g1 gf cX6 cR7
  have g0:=cX8.cell 0
  have g1:=cX8.cell 1
  have g2:=cX8.cell 2
  have g3:=cX8.cell 3
  have g4:=cX8.cell 4
  simp at g0 g1 g2 g3 g4
  have c9:=((((cR8.set 0 (.int .i64 5)).set 1 (.int .i64 n)).set 2 (.string z.word)).set 3 (.string z.text)).set 4 (.slice a6 z.nums.length c6)
  simp only[fe7,ff1,ff2]at c9
  have e0:=cR8.cell 0
  have e1:=cR8.cell 1
  have e2:=cR8.cell 2
  have e3:=cR8.cell 3
  have e4:=cR8.cell 4
  have ef:=cR8.fz
  simp at e0 e1 e2 e3 e4
  go_wp2_with fail
  refine bodyPost_ret (results_cell_row rfl _ _ R 82 _ (0,0) _ rfl (by first|exact c9.at_|exact cR8.at_) Tryz.underlying82 rfl (by kernel_rfl)) rfl ?_
  exact⟨_,H6,rfl,c9.x,by rw[hV.out,hz.out];exact⟨_,rfl,s6⟩⟩
 |l5a y z1 q hx hy hn9 hk2 hV=>
  replace hV:=fe6 hV
  replace hlq:(N:Int)=(q.length:Int)+4:=by have h:=hlq.out;(try simp only[ff8,fg1]at h);omega
  have hm:¬(N:Int)<4:=by omega
  have hm3:(2:Int)<(N:Int):=by omega
  have hm4:(3:Int)<(N:Int):=by omega
  have hm5:(3:Int)≤(N:Int):=by omega
  have hm6:((N:Int)==4)=false:=beq_eq_false_iff_ne.2 fun e=>hn9 (List.eq_nil_of_length_eq_zero (by omega))
  clear hn9
  obtain⟨b2,o2,k2,he,_,r2⟩:=s2.str (show At (x::b::y::z1::q) 2 y from rfl)
  rw[hN.out]at he
  cases he
  replace r2:=lift (y3.le cR2.x.holds) r2
  (try simp only[fh2]at r2)
  obtain⟨b3,o3,k3,he,_,r3⟩:=s2.str (show At (x::b::y::z1::q) 3 z1 from rfl)
  rw[hN.out]at he
  cases he
  replace r3:=lift (y3.le cR2.x.holds) r3
  (try simp only[fh2]at r3)
  have ti:=G8 (l:=[105,115]) hy
  clear hy
  obtain⟨M,hM⟩:∃M,(z1::q).length=M:=⟨_,rfl⟩
  have hNM:N-3=M:=by rw[←hM,←hN.out];simp
  obtain⟨aT,Z7⟩:∃aT,(if c2=3 then some (⟨b1,o1,none⟩:Addr)else some ⟨b1,o1+3,none⟩)=aT:=⟨_,rfl⟩
  have sT:=(bn5 rfl s2 Z7).mono (y3.le cR2.x.holds)
  rw[hM]at sT
  have aD0:(J9 (z1::q)).size≤2000000:=by have q1:=N7 x (b::y::z1::q);have q2:=N7 b (y::z1::q);have q3:=N7 y (z1::q);omega
  have hw2:=fun(H1:j5) (W:World) (hW:j4 H1 W) (ha:Sl H1 (.slice aT M (c2-3)) (z1::q))=>aj3 (.slice aT M (c2-3)) z1 (q) aD0 (by simp at hcn;omega) H1 W hW ha
  obtain⟨z,hz⟩:∃z,A7 (z1::q)=z:=⟨_,rfl⟩
  rw[hz]at hw2 hk2
  replace hz:=fe6 hz
  replace hw2:=fe6 hw2
  replace hM:=fe6 hM
  replace hk2:=fe6 hk2
  clear aD0
  have t1:=j6 (l:=[114,101,97,100,115]) (show x≠Z6 by rw[hx];decide)
  have t2:=j6 (l:=[97,116]) (show x≠wAt by rw[hx];decide)
  have t3:=G8 (l:=[108,105,110,101]) hx
  clear hx
  replace hlq:=fe6 hlq
  go_upto_region 26 with(go_at_call 71;refine(hw2.out _ _ K7.x.holds sT).mono ?_;rintro e w6 ⟨_,H6,rfl,y6,v6,rfl,s6⟩;obtain⟨a6,c6,rfl,_,_⟩:=s6.form;have cR6:=K7.ext y6)
  have cX6:=J4.new cR6.x #[.int .i64 z.kind,.int .i64 z.of,.string z.word,.string z.text,.slice a6 z.nums.length c6] 82
  have cR7:=cR6.alloc (.cells #[.int .i64 z.kind,.int .i64 z.of,.string z.word,.string z.text,.slice a6 z.nums.length c6] 82)
  have aY2:R≠w6.heap.size:=fh5 cR6.lt
  generalize w6.alloc (.cells #[.int .i64 z.kind,.int .i64 z.of,.string z.word,.string z.text,.slice a6 z.nums.length c6] 82)=w7 at*
  generalize w6.heap.size=X6 at*
  clear K7 cR6 hw2
  have hz2:(z.kind==1)=false:=beq_eq_false_iff_ne.2 hk2.out
  have g0:=cX6.cell 0
  simp at g0
  clear hk2
  have c9:=((((cR7.set 0 (.int .i64 0)).set 1 (.int .i64 0)).set 2 (.string ⟨#[]⟩)).set 3 (.string ⟨#[]⟩)).set 4 (.slice none 0 0)
  simp only[fe7,ff1,ff2]at c9
  have e0:=cR7.cell 0
  have e1:=cR7.cell 1
  have e2:=cR7.cell 2
  have e3:=cR7.cell 3
  have e4:=cR7.cell 4
  have ef:=cR7.fz
  simp at e0 e1 e2 e3 e4
  go_wp2_with fail
  refine bodyPost_ret (results_cell_row rfl _ _ R 82 _ (0,0) _ rfl (by first|exact c9.at_|exact cR7.at_) Tryz.underlying82 rfl (by kernel_rfl)) rfl ?_
  first|exact⟨_,H6,rfl,c9.x,by rw[hV.out];exact⟨_,rfl,Sl.Y9 H6⟩⟩|exact⟨_,H6,rfl,cR7.x,by rw[hV.out];exact⟨_,rfl,Sl.Y9 H6⟩⟩
 |l5b y z1 q hx hy hn9 hn8 hk2 hV=>
  replace hV:=fe6 hV
  replace hlq:(N:Int)=(q.length:Int)+4:=by have h:=hlq.out;(try simp only[ff8,fg1]at h);omega
  have hm:¬(N:Int)<4:=by omega
  have hm3:(2:Int)<(N:Int):=by omega
  have hm4:(3:Int)<(N:Int):=by omega
  have hm5:(3:Int)≤(N:Int):=by omega
  have hm6:((N:Int)==4)=true:=beq_iff_eq.2 (by rw[hn9]at hlq;simpa using hlq)
  have tn:=j6 (l:=[110,111,116]) hn8
  clear hn8 hn9
  obtain⟨b2,o2,k2,he,_,r2⟩:=s2.str (show At (x::b::y::z1::q) 2 y from rfl)
  rw[hN.out]at he
  cases he
  replace r2:=lift (y3.le cR2.x.holds) r2
  (try simp only[fh2]at r2)
  obtain⟨b3,o3,k3,he,_,r3⟩:=s2.str (show At (x::b::y::z1::q) 3 z1 from rfl)
  rw[hN.out]at he
  cases he
  replace r3:=lift (y3.le cR2.x.holds) r3
  (try simp only[fh2]at r3)
  have ti:=G8 (l:=[105,115]) hy
  clear hy
  obtain⟨M,hM⟩:∃M,(z1::q).length=M:=⟨_,rfl⟩
  have hNM:N-3=M:=by rw[←hM,←hN.out];simp
  obtain⟨aT,Z7⟩:∃aT,(if c2=3 then some (⟨b1,o1,none⟩:Addr)else some ⟨b1,o1+3,none⟩)=aT:=⟨_,rfl⟩
  have sT:=(bn5 rfl s2 Z7).mono (y3.le cR2.x.holds)
  rw[hM]at sT
  have aD0:(J9 (z1::q)).size≤2000000:=by have q1:=N7 x (b::y::z1::q);have q2:=N7 b (y::z1::q);have q3:=N7 y (z1::q);omega
  have hw2:=fun(H1:j5) (W:World) (hW:j4 H1 W) (ha:Sl H1 (.slice aT M (c2-3)) (z1::q))=>aj3 (.slice aT M (c2-3)) z1 (q) aD0 (by simp at hcn;omega) H1 W hW ha
  obtain⟨z,hz⟩:∃z,A7 (z1::q)=z:=⟨_,rfl⟩
  rw[hz]at hw2 hk2
  replace hz:=fe6 hz
  replace hw2:=fe6 hw2
  replace hM:=fe6 hM
  replace hk2:=fe6 hk2
  clear aD0
  have t1:=j6 (l:=[114,101,97,100,115]) (show x≠Z6 by rw[hx];decide)
  have t2:=j6 (l:=[97,116]) (show x≠wAt by rw[hx];decide)
  have t3:=G8 (l:=[108,105,110,101]) hx
  clear hx
  replace hlq:=fe6 hlq
  go_upto_region 26 with(go_at_call 71;refine(hw2.out _ _ K7.x.holds sT).mono ?_;rintro e w6 ⟨_,H6,rfl,y6,v6,rfl,s6⟩;obtain⟨a6,c6,rfl,_,_⟩:=s6.form;have cR6:=K7.ext y6)
  have cX6:=J4.new cR6.x #[.int .i64 z.kind,.int .i64 z.of,.string z.word,.string z.text,.slice a6 z.nums.length c6] 82
  have cR7:=cR6.alloc (.cells #[.int .i64 z.kind,.int .i64 z.of,.string z.word,.string z.text,.slice a6 z.nums.length c6] 82)
  have aY2:R≠w6.heap.size:=fh5 cR6.lt
  generalize w6.alloc (.cells #[.int .i64 z.kind,.int .i64 z.of,.string z.word,.string z.text,.slice a6 z.nums.length c6] 82)=w7 at*
  generalize w6.heap.size=X6 at*
  clear K7 cR6 hw2
  have hz2:(z.kind==1)=false:=beq_eq_false_iff_ne.2 hk2.out
  have g0:=cX6.cell 0
  simp at g0
  clear hk2
  have c9:=((((cR7.set 0 (.int .i64 0)).set 1 (.int .i64 0)).set 2 (.string ⟨#[]⟩)).set 3 (.string ⟨#[]⟩)).set 4 (.slice none 0 0)
  simp only[fe7,ff1,ff2]at c9
  have e0:=cR7.cell 0
  have e1:=cR7.cell 1
  have e2:=cR7.cell 2
  have e3:=cR7.cell 3
  have e4:=cR7.cell 4
  have ef:=cR7.fz
  simp at e0 e1 e2 e3 e4
  go_wp2_with fail
  refine bodyPost_ret (results_cell_row rfl _ _ R 82 _ (0,0) _ rfl (by first|exact c9.at_|exact cR7.at_) Tryz.underlying82 rfl (by kernel_rfl)) rfl ?_
  first|exact⟨_,H6,rfl,c9.x,by rw[hV.out];exact⟨_,rfl,Sl.Y9 H6⟩⟩|exact⟨_,H6,rfl,cR7.x,by rw[hV.out];exact⟨_,rfl,Sl.Y9 H6⟩⟩
end
end Go.Proofs.YtbliehinagkldaaGreatDoor
