/- Lemmas and walks on which the claims of this seat lean (names and blanks made short by a program): ORead2 ORead3 OTown3 ODeskL ODeskA OCorr OAsk1 OLaw4 OLaw5 OLaw6 OLaw7 OLaw8 ODoP OAsk2. -/
import Derived.Test.YtbliehinagkldaaGreatDoorG02
import Derived.Test.YtbliehinagkldaaGreatDoorG03
import Derived.Test.YtbliehinagkldaaGreatDoorG04
import Derived.Test.YtbliehinagkldaaGreatDoorG06
import Derived.Test.YtbliehinagkldaaGreatDoorG07
import Derived.Test.YtbliehinagkldaaGreatDoorG08
import Derived.Test.YtbliehinagkldaaGreatDoorG21
import Derived.Laws.EntriesVeiled

set_option linter.all false
set_option maxRecDepth 100000
set_option maxHeartbeats 16000000
open Go.Lib renaming hid → fe6
open List renaming setIfInBounds_toArray → fe7, getElem?_cons_zero → fe8, getElem?_cons_succ → fe9, getElem?_toArray → ff0, set_cons_zero → ff1, set_cons_succ → ff2, getD_eq_getElem?_getD → ff3, length_append → ff4, drop_succ_cons → ff5, drop_zero → ff6, length_singleton → ff7, length_cons → ff8, nil_append → ff9, getElem?_eq_getElem → fg0, length_nil → fg1, cons_append → fg2, push_toArray → fg3, length_map → fg5, length_take → fg6, take_of_length_le → fg7
open Array renaming replicate_zero → fg8, replicate_succ → fg9
open Nat renaming le_refl → fh0, le_trans → fh1, add_zero → fh2, zero_le → fh3, lt_of_lt_of_le → fh4, ne_of_lt → fh5, reduceAdd → fh6, reduceSub → fh7
open Int renaming toNat_natCast → fh8
open Bool renaming and_eq_true → fh9
namespace Go.Proofs.YtbliehinagkldaaGreatDoor
section
open Go.RowKit
attribute [local go_sem] j4.drew j4.alloc j4.drewN WB.holds Oper.semAt_some
structure ao9 (R:Nat) (T:TypeId) (w:World) (a b:Value):Prop where
 at_:w.heap[R]? =some (.cells #[a,b] T (0,0))
section
variable {R:Nat} {T:TypeId} {w w':World} {a b:Value}
theorem ao9.cells (r:ao9 R T w a b):w.cell? ⟨R,0,none⟩=some a∧w.cell? ⟨R,1,none⟩=some b∧∀i,w.frozen? ⟨R,i,none⟩=false:=by
 refine⟨?_, ?_,fun i=>Lib.frozen_of_heap r.at_ i⟩<;>(rw[Lib.cell_of_heap r.at_];rfl)
theorem ao9.set (r:ao9 R T w a b) (a' b':Value):ao9 R T ((w.setCell ⟨R,0,none⟩ a').setCell ⟨R,1,none⟩ b') a' b':=by
 have:=M7 (i:=1) (M7 (i:=0) r.at_ a') b'
 simp only[fe7,ff1,ff2]at this
 exact⟨this⟩
theorem ao9.set1 (r:ao9 R T w a b) (b':Value):ao9 R T (w.setCell ⟨R,1,none⟩ b') a b':=by
 have:=M7 (i:=1) r.at_ b'
 simp only[fe7,ff1,ff2]at this
 exact⟨this⟩
theorem ao9.other (r:ao9 R T w a b) {g:Nat} (i:Nat) (u:Value) (hg:g≠R):ao9 R T (w.setCell ⟨g,i,none⟩ u) a b:=⟨(heap_setCell_other w ⟨g,i,none⟩ R u (Ne.symm hg)).trans r.at_⟩
theorem ao9.below (r:ao9 R T w a b) {n:Nat} (hb:Below n w w') (hn:R<n):ao9 R T w' a b:=⟨(hb.block R hn).trans r.at_⟩
theorem ao9.lt (r:ao9 R T w a b):R<w.heap.size:=(Array.getElem?_eq_some_iff.1 r.at_).1
theorem ao9.alloc (r:ao9 R T w a b) (o:Obj):ao9 R T (w.alloc o) a b:=⟨(heap_alloc_old w o r.lt).trans r.at_⟩
theorem Ext.set2 {w0:World} {H0 H:j5} (x:Ext w0 H0 w H) (hR:w0.heap.size≤R) (hH:H R=none) (a' b':Value):Ext w0 H0 ((w.setCell ⟨R,0,none⟩ a').setCell ⟨R,1,none⟩ b') H:=
 (x.setCell (a:=⟨R,0,none⟩) hR hH a').setCell (a:=⟨R,1,none⟩) hR hH b'
end
theorem cT7 (va:Value) (s:ByteArray) (q:List ByteArray) (hl:q.length≤1000) (H:j5) (d:Doors H) (w:World) (hw:j4 H w) (ha:Sl H va (s::q)) (hn:T9 q=none):
 Calls Tryz.prog 118 #[va] w (P9 w H (s::q)):=by
 obtain⟨b,o,c,rfl,hss,r0⟩:=ha.str (show At (s::q) 0 s from rfl)
 have hcap:q.length+1≤c:=by obtain⟨_,_,e,h1,_⟩:=ha.form;cases e;exact h1
 have hcI:(1:Int)≤(c:Int):=by omega
 have hq0:(1:Int)≤((q.length:Int)+1):=by omega
 have hq1:((q.length:Int)+1)≤(c:Int):=by omega
 obtain⟨aT,Z7⟩:∃aT,(if c=1 then some (⟨b,o,none⟩:Addr)else some ⟨b,o+1,none⟩)=aT:=⟨_,rfl⟩
 have hsT:=ax8 rfl ha Z7
 have F5:=fun(H1:j5) (hle:D8 H H1) (W:World) (hW:j4 H1 W)=>U5 _ q (by omega) H1 (d.mono hle) W hW (hsT.mono hle)
 unfold V9 at F5
 rw[hn]at F5
 have hk:(A7 (s::q)).kind≠1:=by rw[aN9 (p:=s::q) hn];decide
 unfold P9
 simp only[if_neg hk]
 replace F5:=fe6 F5
 clear hn hk ha hsT d
 go_enter Tryz.func118,Tryz.ntmps118
 go_upto_region 1 with(refine af8 rfl _ rfl (Ext.refl hw) ?_;intro B w1 H1 hle hx hB hBw)
 have hb0:∀W,j4 H1 W→W.cell? ⟨B,0,none⟩=some (.slice (some ⟨b,o,none⟩) (q.length+1) c):=fun W hW=>D7 hB hW 0
 have hw1:=hx.holds
 have rz:ao9 w1.heap.size 145 (w1.alloc (.cells #[.string ⟨#[]⟩,.nilFunc] 145)) _ _:=⟨heap_alloc_new w1 _⟩
 have xa:=hx.alloc (.cells #[.string ⟨#[]⟩,.nilFunc] 145)
 have hRH:H1 w1.heap.size=none:=hw1.D6 (fh0 _)
 have hRb:w.heap.size≤w1.heap.size:=hx.below.size
 have hRl:=rz.lt
 go_wp2_with(go_at_call 123;refine(F5.out H1 hle _ (hw1.alloc _)).mono ?_;rintro e w2 ⟨rfl,hb2⟩;have r2:=(rz.below hb2 hRl).alloc (.cells #[.slice none 0 0] 24);obtain⟨z0,z1,zf⟩:=r2.cells)
 (try simp only[Exit.inBlock,Exit.then])
 refine bodyPost_ret (N8 rfl _ _ w1.heap.size 145 _ (0,0) _ rfl (r2.set _ _).at_ Tryz.underlying145 rfl (by kernel_rfl)) rfl ?_
 exact⟨rfl,(((xa.step (hb2.mono xa.below.size) (xa.holds.below hb2)).alloc _).set2 hRb hRH _ _).below⟩
theorem cC3 (va:Value) (s:ByteArray) (q:List ByteArray) (hl:q.length≤1000) (H:j5) (d:Doors H) (w:World) (hw:j4 H w) (ha:Sl H va (s::q)) (hz:(J9 (s::q)).size≤100000) (hss:s.size≤100000) {ns:List Int} (hn:T9 q=some ns) (hm:U3 s≠(ns.length:Int)):
 Calls Tryz.prog 118 #[va] w (P9 w H (s::q)):=by
 obtain⟨b,o,c,rfl,cT8,r0⟩:=ha.str (show At (s::q) 0 s from rfl)
 have hcap:q.length+1≤c:=by obtain⟨_,_,e,h1,_⟩:=ha.form;cases e;exact h1
 have hcI:(1:Int)≤(c:Int):=by omega
 have hq0:(1:Int)≤((q.length:Int)+1):=by omega
 have hq1:((q.length:Int)+1)≤(c:Int):=by omega
 obtain⟨aT,Z7⟩:∃aT,(if c=1 then some (⟨b,o,none⟩:Addr)else some ⟨b,o+1,none⟩)=aT:=⟨_,rfl⟩
 have hsT:=ax8 rfl ha Z7
 have F5:=fun(H1:j5) (hle:D8 H H1) (W:World) (hW:j4 H1 W)=>U5 _ q (by omega) H1 (d.mono hle) W hW (hsT.mono hle)
 unfold V9 at F5
 rw[hn]at F5
 replace F5:=fe6 F5
 have hnl:=(ax2 hn).2
 have hjn:=fun(H1:j5) (hle:D8 H H1) (W:World) (hW:j4 H1 W)=>bw5 _ (s::q) (by simp;omega) hz H1 W hW (ha.mono hle)
 have hI:K8 (ns.length:Int):=⟨by omega,by omega⟩
 have hit:=fun(H1:j5) (hle:D8 H H1) (W:World) (hW:j4 H1 W)=>ap8 (ns.length:Int) hI H1 (d.mono hle) W hW
 have hkz:¬9223372036854775807<s.size+(G6 (ns.length:Int)).size:=by
  have h1:(G6 (ns.length:Int)).size≤5:=by
   show(Lib.itoa (ns.length:Int)).length≤5
   rw[ay2];exact aI6 _ 4 (by omega)
  omega
 clear hnl
 replace hjn:=fe6 hjn
 replace hit:=fe6 hit
 obtain⟨J,hJ⟩:∃J,J9 (s::q)=J:=⟨_,rfl⟩
 rw[hJ]at hjn
 have hk:(A7 (s::q)).kind≠1:=cz9 hn hm
 unfold P9
 simp only[if_neg hk]
 have t0:((s++G6 (ns.length:Int)).toList==[109,97,99,104,105,110,101,51])=false:=j6 (aj8 (w:=R7) (d:=3) (by decide) (by decide) (by decide) (fun h=>hm (by obtain⟨h1,h2⟩:=h;rw[h1,h2];decide)))
 have t1:((s++G6 (ns.length:Int)).toList==[115,116,111,112,115,50])=false:=j6 (aj8 (w:=Y6) (d:=2) (by decide) (by decide) (by decide) (fun h=>hm (by obtain⟨h1,h2⟩:=h;rw[h1,h2];decide)))
 have t2:((s++G6 (ns.length:Int)).toList==[116,114,97,105,110,49])=false:=j6 (aj8 (w:=ac6) (d:=1) (by decide) (by decide) (by decide) (fun h=>hm (by obtain⟨h1,h2⟩:=h;rw[h1,h2];decide)))
 have t3:((s++G6 (ns.length:Int)).toList==[108,101,97,118,101,115,50])=false:=j6 (aj8 (w:=Q8) (d:=2) (by decide) (by decide) (by decide) (fun h=>hm (by obtain⟨h1,h2⟩:=h;rw[h1,h2];decide)))
 have t4:((s++G6 (ns.length:Int)).toList==[98,117,110,100,108,101,51])=false:=j6 (aj8 (w:=Z0) (d:=3) (by decide) (by decide) (by decide) (fun h=>hm (by obtain⟨h1,h2⟩:=h;rw[h1,h2];decide)))
 have t5:((s++G6 (ns.length:Int)).toList==[103,97,112,49])=false:=j6 (aj8 (w:=ar9) (d:=1) (by decide) (by decide) (by decide) (fun h=>hm (by obtain⟨h1,h2⟩:=h;rw[h1,h2];decide)))
 have t6:((s++G6 (ns.length:Int)).toList==[99,97,115,116,49])=false:=j6 (aj8 (w:=R8) (d:=1) (by decide) (by decide) (by decide) (fun h=>hm (by obtain⟨h1,h2⟩:=h;rw[h1,h2];decide)))
 have t7:((s++G6 (ns.length:Int)).toList==[98,114,111,107,101,49])=false:=j6 (aj8 (w:=O6) (d:=1) (by decide) (by decide) (by decide) (fun h=>hm (by obtain⟨h1,h2⟩:=h;rw[h1,h2];decide)))
 have t8:((s++G6 (ns.length:Int)).toList==[119,97,110,116,50])=false:=j6 (aj8 (w:=Y2) (d:=2) (by decide) (by decide) (by decide) (fun h=>hm (by obtain⟨h1,h2⟩:=h;rw[h1,h2];decide)))
 generalize G6 (ns.length:Int)=u at*
 clear hm hk ha hsT d hz hn
 go_enter Tryz.func118,Tryz.ntmps118
 go_upto_region 1 with(refine af8 rfl _ rfl (Ext.refl hw) ?_;intro B w1 H1 hle hx hB hBw)
 have hb0:∀W,j4 H1 W→W.cell? ⟨B,0,none⟩=some (.slice (some ⟨b,o,none⟩) (q.length+1) c):=fun W hW=>D7 hB hW 0
 have hw1:=hx.holds
 have rz:ao9 w1.heap.size 145 (w1.alloc (.cells #[.string ⟨#[]⟩,.nilFunc] 145)) _ _:=⟨heap_alloc_new w1 _⟩
 have xa:=hx.alloc (.cells #[.string ⟨#[]⟩,.nilFunc] 145)
 have hRH:H1 w1.heap.size=none:=hw1.D6 (fh0 _)
 have hRb:w.heap.size≤w1.heap.size:=hx.below.size
 have hRl:=rz.lt
 go_upto_region 2 with(go_at_call 123;refine(F5.out H1 hle _ (hw1.alloc _)).mono ?_;rintro e w2 ⟨v2,H2,rfl,x2,o2⟩;obtain⟨a2,c2,rfl,_,_⟩:=o2.form)
 obtain⟨H3,y3,l3,s3,hsame⟩:=(o2.weaken xa.below.size).close (xa.trans x2)
 obtain⟨y4,l4,hA4⟩:=y3.newF #[.slice a2 ns.length c2] 24
 have hR4:(H3.put w2.heap.size (.cells #[.slice a2 ns.length c2] 24 (0,0))) w1.heap.size=none:=by
  have hlt:w1.heap.size<w2.heap.size:=fh4 hRl x2.below.size
  rw[j5.F3 _ _ (fh5 hlt),hsame _ (fun e=>by have:=(o2.lt _ e).1;omega),x2.same _ hRl]
  exact hRH
 have r4:=(rz.below x2.below hRl).alloc (.cells #[.slice a2 ns.length c2] 24)
 have lx:=x2.le xa.holds
 have l14:D8 H1 (H3.put w2.heap.size (.cells #[.slice a2 ns.length c2] 24 (0,0))):=(lx.trans l3).trans l4
 have aa7:Cap (H3.put w2.heap.size (.cells #[.slice a2 ns.length c2] 24 (0,0))) w2.heap.size ns:=⟨_,hA4,s3.mono l4⟩
 clear o2 x2 hsame s3 l3 lx l4 y3 rz
 generalize H3.put w2.heap.size (.cells #[.slice a2 ns.length c2] 24 (0,0))=H4 at*
 generalize w2.alloc (.cells #[.slice a2 ns.length c2] 24)=w4 at*
 generalize w2.heap.size=A at*
 have hw4:=y4.holds
 have hA0:∀W,j4 H4 W→W.cell? ⟨A,0,none⟩=some (.slice a2 ns.length c2):=fun W hW=>D7 hA4 hW 0
 replace hb0:=lift l14 hb0
 have hr0:=lift (hle.trans l14) r0
 simp only[fh2]at hr0
 have hBH:=fe6 (l14 _ _ hB)
 clear r0 hB xa hx hw1 hRl
 go_upto_region 5 with(go_at_call 148;refine(hjn.out H4 (hle.trans l14) _ hw4).mono ?_;rintro e w5 ⟨rfl,hb5⟩)
 have y5:=y4.step (hb5.mono y4.below.size) (hw4.below hb5)
 have r5:=(r4.below hb5 r4.lt).alloc (.cells #[.string J,.nilFunc] 145)
 have cE:=J4.new y5 #[.string J,.nilFunc] 145
 have rE:ao9 w5.heap.size 145 (w5.alloc (.cells #[.string J,.nilFunc] 145)) _ _:=⟨cE.at_⟩
 have hRE:w1.heap.size≠w5.heap.size:=fh5 (fh4 r4.lt hb5.size)
 generalize w5.alloc (.cells #[.string J,.nilFunc] 145)=w6 at*
 generalize w5.heap.size=E at*
 generalize w1.heap.size=R at*
 have hw6:=cE.x.holds
 clear y5 y4 r4 hw4 hb5
 refine E8 H4 (by kernel_rfl) (by kernel_rfl) hw6 (fun hne=> ?_)
 repeat go_big_quiet_step((first|(go_at_call 149;exact Calls.am7 (hit.out H4 (hle.trans l14) _ (WB.holds _)))))
 refine wpQuiet_nil ?_
 rintro⟨w2,hw2,hb2⟩
 clear hne
 replace cE:=cE.below hb2
 replace rE:=rE.below hb2 rE.lt
 replace r5:=r5.below hb2 r5.lt
 clear hw6
 obtain⟨y0,y1,yf⟩:=r5.cells
 go_wp2
 (try simp only[Exit.inBlock,Exit.then])
 refine bodyPost_ret (N8 rfl _ _ R 145 _ (0,0) _ rfl (r5.set _ _).at_ Tryz.underlying145 rfl (by kernel_rfl)) rfl ?_
 exact⟨rfl,(cE.x.set2 hRb hR4 _ _).below⟩
end
section
open Go.RowKit
attribute [local go_sem] j4.drew j4.alloc j4.drewN WB.holds Oper.semAt_some
theorem bW2 {l:List Int} (h:l.length=1):∃x,l=[x]:=by match l,h with|[x],_=>exact⟨x,rfl⟩
theorem du5 {l:List Int} (h:l.length=2):∃x y,l=[x,y]:=by match l,h with|[x,y],_=>exact⟨x,y,rfl⟩
theorem dU8 {l:List Int} (h:l.length=3):∃x y z,l=[x,y,z]:=by match l,h with|[x,y,z],_=>exact⟨x,y,z,rfl⟩
theorem ag7 {s w:ByteArray} {n d:Nat} {l:List UInt8} (hw:aD6 (C8 w)=[]) (hd:d<10) (hl:J8 (C8 w++[UInt8.ofNat (48+d)])=J8 l):((s++G6 (n:Int)).toList==l)=decide (s=w∧n=d):=by
 by_cases h:s=w∧n=d
 ·rw[decide_eq_true h];exact G8 (dI2 hd hl h)
 ·rw[decide_eq_false h];exact j6 (aj8 hw hd hl h)
theorem cT9 (va:Value) (s:ByteArray) (q:List ByteArray) (hl:q.length≤1000) (H:j5) (d:Doors H) (w:World) (hw:j4 H w) (ha:Sl H va (s::q)) (hz:(J9 (s::q)).size≤100000) (hss:s.size≤100000) {ns:List Int} (hn:T9 q=some ns) (hc:(s=R7∧ns.length=3)∨(s=Y6∧ns.length=2)∨(s=ac6∧ns.length=1)∨(s=Q8∧ns.length=2)∨(s=Z0∧ns.length=3)∨(s=ar9∧ns.length=1)∨(s=R8∧ns.length=1)∨(s=O6∧ns.length=1)∨(s=Y2∧ns.length=2)):
 Calls Tryz.prog 118 #[va] w (P9 w H (s::q)):=by
 obtain⟨b,o,c,rfl,cT8,r0⟩:=ha.str (show At (s::q) 0 s from rfl)
 have hcap:q.length+1≤c:=by obtain⟨_,_,e,h1,_⟩:=ha.form;cases e;exact h1
 have hcI:(1:Int)≤(c:Int):=by omega
 have hq0:(1:Int)≤((q.length:Int)+1):=by omega
 have hq1:((q.length:Int)+1)≤(c:Int):=by omega
 obtain⟨aT,Z7⟩:∃aT,(if c=1 then some (⟨b,o,none⟩:Addr)else some ⟨b,o+1,none⟩)=aT:=⟨_,rfl⟩
 have hsT:=ax8 rfl ha Z7
 have F5:=fun(H1:j5) (hle:D8 H H1) (W:World) (hW:j4 H1 W)=>U5 _ q (by omega) H1 (d.mono hle) W hW (hsT.mono hle)
 unfold V9 at F5
 rw[hn]at F5
 replace F5:=fe6 F5
 have hnl:=(ax2 hn).2
 have hjn:=fun(H1:j5) (hle:D8 H H1) (W:World) (hW:j4 H1 W)=>bw5 _ (s::q) (by simp;omega) hz H1 W hW (ha.mono hle)
 have hI:K8 (ns.length:Int):=⟨by omega,by omega⟩
 have hit:=fun(H1:j5) (hle:D8 H H1) (W:World) (hW:j4 H1 W)=>ap8 (ns.length:Int) hI H1 (d.mono hle) W hW
 have hkz:¬9223372036854775807<s.size+(G6 (ns.length:Int)).size:=by
  have h1:(G6 (ns.length:Int)).size≤5:=by
   show(Lib.itoa (ns.length:Int)).length≤5
   rw[ay2];exact aI6 _ 4 (by omega)
  omega
 clear hnl
 replace hjn:=fe6 hjn
 replace hit:=fe6 hit
 obtain⟨J,hJ⟩:∃J,J9 (s::q)=J:=⟨_,rfl⟩
 rw[hJ]at hjn
 have hm:U3 s=(ns.length:Int):=by
  rcases hc with⟨hs,hnn⟩|⟨hs,hnn⟩|⟨hs,hnn⟩|⟨hs,hnn⟩|⟨hs,hnn⟩|⟨hs,hnn⟩|⟨hs,hnn⟩|⟨hs,hnn⟩|⟨hs,hnn⟩<;>(rw[hs,hnn];decide)
 unfold P9
 simp only[bj2 hn hm,if_true]
 rw[hJ]
 have hmf:∀(fn:Fn) (first cap:Array Value) (w:World),(Instr.makeFunc fn first cap).run Tryz.prog w= .ok (.func fn first cap) w:=fun _ _ _ _=>rfl
 have t0:=fe6 (ag7 (s:=s) (n:=ns.length) (w:=R7) (d:=3) (l:=[109,97,99,104,105,110,101,51]) (by decide) (by decide) (by decide))
 have t1:=fe6 (ag7 (s:=s) (n:=ns.length) (w:=Y6) (d:=2) (l:=[115,116,111,112,115,50]) (by decide) (by decide) (by decide))
 have t2:=fe6 (ag7 (s:=s) (n:=ns.length) (w:=ac6) (d:=1) (l:=[116,114,97,105,110,49]) (by decide) (by decide) (by decide))
 have t3:=fe6 (ag7 (s:=s) (n:=ns.length) (w:=Q8) (d:=2) (l:=[108,101,97,118,101,115,50]) (by decide) (by decide) (by decide))
 have t4:=fe6 (ag7 (s:=s) (n:=ns.length) (w:=Z0) (d:=3) (l:=[98,117,110,100,108,101,51]) (by decide) (by decide) (by decide))
 have t5:=fe6 (ag7 (s:=s) (n:=ns.length) (w:=ar9) (d:=1) (l:=[103,97,112,49]) (by decide) (by decide) (by decide))
 have t6:=fe6 (ag7 (s:=s) (n:=ns.length) (w:=R8) (d:=1) (l:=[99,97,115,116,49]) (by decide) (by decide) (by decide))
 have t7:=fe6 (ag7 (s:=s) (n:=ns.length) (w:=O6) (d:=1) (l:=[98,114,111,107,101,49]) (by decide) (by decide) (by decide))
 have t8:=fe6 (ag7 (s:=s) (n:=ns.length) (w:=Y2) (d:=2) (l:=[119,97,110,116,50]) (by decide) (by decide) (by decide))
 generalize G6 (ns.length:Int)=u at*
 replace hc:=fe6 hc
 clear hm ha hsT d hz hn
 go_enter Tryz.func118,Tryz.ntmps118
 go_upto_region 1 with(refine af8 rfl _ rfl (Ext.refl hw) ?_;intro B w1 H1 hle hx hB hBw)
 have hb0:∀W,j4 H1 W→W.cell? ⟨B,0,none⟩=some (.slice (some ⟨b,o,none⟩) (q.length+1) c):=fun W hW=>D7 hB hW 0
 have hw1:=hx.holds
 have rz:ao9 w1.heap.size 145 (w1.alloc (.cells #[.string ⟨#[]⟩,.nilFunc] 145)) _ _:=⟨heap_alloc_new w1 _⟩
 have xa:=hx.alloc (.cells #[.string ⟨#[]⟩,.nilFunc] 145)
 have hRH:H1 w1.heap.size=none:=hw1.D6 (fh0 _)
 have hRb:w.heap.size≤w1.heap.size:=hx.below.size
 have hRl:=rz.lt
 go_upto_region 2 with(go_at_call 123;refine(F5.out H1 hle _ (hw1.alloc _)).mono ?_;rintro e w2 ⟨v2,H2,rfl,x2,o2⟩;obtain⟨a2,c2,rfl,_,_⟩:=o2.form)
 obtain⟨H3,y3,l3,s3,hsame⟩:=(o2.weaken xa.below.size).close (xa.trans x2)
 obtain⟨y4,l4,hA4⟩:=y3.newF #[.slice a2 ns.length c2] 24
 have hR4:(H3.put w2.heap.size (.cells #[.slice a2 ns.length c2] 24 (0,0))) w1.heap.size=none:=by
  have hlt:w1.heap.size<w2.heap.size:=fh4 hRl x2.below.size
  rw[j5.F3 _ _ (fh5 hlt),hsame _ (fun e=>by have:=(o2.lt _ e).1;omega),x2.same _ hRl]
  exact hRH
 have r4:=(rz.below x2.below hRl).alloc (.cells #[.slice a2 ns.length c2] 24)
 have lx:=x2.le xa.holds
 have l14:D8 H1 (H3.put w2.heap.size (.cells #[.slice a2 ns.length c2] 24 (0,0))):=(lx.trans l3).trans l4
 have aa7:Cap (H3.put w2.heap.size (.cells #[.slice a2 ns.length c2] 24 (0,0))) w2.heap.size ns:=⟨_,hA4,s3.mono l4⟩
 clear o2 x2 hsame s3 l3 lx l4 y3 rz
 generalize H3.put w2.heap.size (.cells #[.slice a2 ns.length c2] 24 (0,0))=H4 at*
 generalize w2.alloc (.cells #[.slice a2 ns.length c2] 24)=w4 at*
 generalize w2.heap.size=A at*
 have hw4:=y4.holds
 have hA0:∀W,j4 H4 W→W.cell? ⟨A,0,none⟩=some (.slice a2 ns.length c2):=fun W hW=>D7 hA4 hW 0
 replace hb0:=lift l14 hb0
 have hr0:=lift (hle.trans l14) r0
 simp only[fh2]at hr0
 have hBH:=fe6 (l14 _ _ hB)
 clear r0 hB xa hx hw1 hRl
 go_upto_region 5 with(go_at_call 148;refine(hjn.out H4 (hle.trans l14) _ hw4).mono ?_;rintro e w5 ⟨rfl,hb5⟩)
 have y5:=y4.step (hb5.mono y4.below.size) (hw4.below hb5)
 have r5:=(r4.below hb5 r4.lt).alloc (.cells #[.string J,.nilFunc] 145)
 have cE:=J4.new y5 #[.string J,.nilFunc] 145
 have rE:ao9 w5.heap.size 145 (w5.alloc (.cells #[.string J,.nilFunc] 145)) _ _:=⟨cE.at_⟩
 have hRE:w1.heap.size≠w5.heap.size:=fh5 (fh4 r4.lt hb5.size)
 generalize w5.alloc (.cells #[.string J,.nilFunc] 145)=w6 at*
 generalize w5.heap.size=E at*
 generalize w1.heap.size=R at*
 have hw6:=cE.x.holds
 clear y5 y4 r4 hw4 hb5
 refine E8 H4 (by kernel_rfl) (by kernel_rfl) hw6 (fun hne=> ?_)
 repeat go_big_quiet_step((first|(go_at_call 149;exact Calls.am7 (hit.out H4 (hle.trans l14) _ (WB.holds _)))))
 refine wpQuiet_nil ?_
 rintro⟨w2,hw2,hb2⟩
 clear hne
 replace cE:=cE.below hb2
 replace rE:=rE.below hb2 rE.lt
 replace r5:=r5.below hb2 r5.lt
 clear hw6
 rcases hc.out with⟨hs,hnn⟩|⟨hs,hnn⟩|⟨hs,hnn⟩|⟨hs,hnn⟩|⟨hs,hnn⟩|⟨hs,hnn⟩|⟨hs,hnn⟩|⟨hs,hnn⟩|⟨hs,hnn⟩
 ·have e0:=t0.out.trans (decide_eq_true ⟨hs,hnn⟩)
  replace hs:=fe6 hs
  replace hnn:=fe6 hnn
  obtain⟨k0,k1,kf⟩:=rE.cells
  have rE2:=rE.set1 (.func (.func 150) #[] #[.pointer (some ⟨A,0,none⟩)])
  have rR2:=r5.other (g:=E) 1 (.func (.func 150) #[] #[.pointer (some ⟨A,0,none⟩)]) (Ne.symm hRE)
  have cE2:=cE.set 1 (.func (.func 150) #[] #[.pointer (some ⟨A,0,none⟩)])
  obtain⟨k2,k3,kg⟩:=rE2.cells
  obtain⟨y0,y1,yf⟩:=rR2.cells
  obtain⟨x,y,z,hns⟩:=dU8 hnn.out
  rw[hns]at aa7
  replace hns:=fe6 hns
  have hcapB:=fe6 aa7
  replace rR2:=fe6 rR2
  replace cE2:=fe6 cE2
  clear rE rE2 cE aa7 r5 hc
  go_wp2
  (try simp only[Exit.inBlock,Exit.then])
  refine bodyPost_ret (N8 rfl _ _ R 145 _ (0,0) _ rfl (rR2.out.set _ _).at_ Tryz.underlying145 rfl (by kernel_rfl)) rfl ?_
  refine⟨_,H4,rfl,cE2.out.x.set2 hRb hR4 _ _, ?_⟩
  rw[hs.out,hns.out]
  exact⟨_,_,rfl,enters_of Tryz.func150 (by kernel_rfl) rfl,fun H1 hle w0 W H0 O vm vb vt um uo ua t r v=>bV7 r v (hcapB.out.mono hle)⟩
 ·have e0:=t0.out.trans (decide_eq_false fun h=>absurd (hs.symm.trans h.1) (by decide))
  have e1:=t1.out.trans (decide_eq_true ⟨hs,hnn⟩)
  replace hs:=fe6 hs
  replace hnn:=fe6 hnn
  obtain⟨k0,k1,kf⟩:=rE.cells
  have rE2:=rE.set1 (.func (.func 152) #[] #[.pointer (some ⟨A,0,none⟩)])
  have rR2:=r5.other (g:=E) 1 (.func (.func 152) #[] #[.pointer (some ⟨A,0,none⟩)]) (Ne.symm hRE)
  have cE2:=cE.set 1 (.func (.func 152) #[] #[.pointer (some ⟨A,0,none⟩)])
  obtain⟨k2,k3,kg⟩:=rE2.cells
  obtain⟨y0,y1,yf⟩:=rR2.cells
  obtain⟨x,y,hns⟩:=du5 hnn.out
  rw[hns]at aa7
  replace hns:=fe6 hns
  have hcapB:=fe6 aa7
  replace rR2:=fe6 rR2
  replace cE2:=fe6 cE2
  clear rE rE2 cE aa7 r5 hc
  go_wp2
  (try simp only[Exit.inBlock,Exit.then])
  refine bodyPost_ret (N8 rfl _ _ R 145 _ (0,0) _ rfl (rR2.out.set _ _).at_ Tryz.underlying145 rfl (by kernel_rfl)) rfl ?_
  refine⟨_,H4,rfl,cE2.out.x.set2 hRb hR4 _ _, ?_⟩
  rw[hs.out,hns.out]
  exact⟨_,_,rfl,enters_of Tryz.func152 (by kernel_rfl) rfl,fun H1 hle w0 W H0 O vm vb vt um uo ua t r v=>cq8 r v (hcapB.out.mono hle)⟩
 ·have e0:=t0.out.trans (decide_eq_false fun h=>absurd (hs.symm.trans h.1) (by decide))
  have e1:=t1.out.trans (decide_eq_false fun h=>absurd (hs.symm.trans h.1) (by decide))
  have e2:=t2.out.trans (decide_eq_true ⟨hs,hnn⟩)
  replace hs:=fe6 hs
  replace hnn:=fe6 hnn
  obtain⟨k0,k1,kf⟩:=rE.cells
  have rE2:=rE.set1 (.func (.func 154) #[] #[.pointer (some ⟨A,0,none⟩)])
  have rR2:=r5.other (g:=E) 1 (.func (.func 154) #[] #[.pointer (some ⟨A,0,none⟩)]) (Ne.symm hRE)
  have cE2:=cE.set 1 (.func (.func 154) #[] #[.pointer (some ⟨A,0,none⟩)])
  obtain⟨k2,k3,kg⟩:=rE2.cells
  obtain⟨y0,y1,yf⟩:=rR2.cells
  obtain⟨x,hns⟩:=bW2 hnn.out
  rw[hns]at aa7
  replace hns:=fe6 hns
  have hcapB:=fe6 aa7
  replace rR2:=fe6 rR2
  replace cE2:=fe6 cE2
  clear rE rE2 cE aa7 r5 hc
  go_wp2
  (try simp only[Exit.inBlock,Exit.then])
  refine bodyPost_ret (N8 rfl _ _ R 145 _ (0,0) _ rfl (rR2.out.set _ _).at_ Tryz.underlying145 rfl (by kernel_rfl)) rfl ?_
  refine⟨_,H4,rfl,cE2.out.x.set2 hRb hR4 _ _, ?_⟩
  rw[hs.out,hns.out]
  exact⟨_,_,rfl,enters_of Tryz.func154 (by kernel_rfl) rfl,fun H1 hle w0 W H0 O vm vb vt um uo ua t r v=>cq7 r v (hcapB.out.mono hle)⟩
 ·have e0:=t0.out.trans (decide_eq_false fun h=>absurd (hs.symm.trans h.1) (by decide))
  have e1:=t1.out.trans (decide_eq_false fun h=>absurd (hs.symm.trans h.1) (by decide))
  have e2:=t2.out.trans (decide_eq_false fun h=>absurd (hs.symm.trans h.1) (by decide))
  have e3:=t3.out.trans (decide_eq_true ⟨hs,hnn⟩)
  replace hs:=fe6 hs
  replace hnn:=fe6 hnn
  obtain⟨k0,k1,kf⟩:=rE.cells
  have rE2:=rE.set1 (.func (.func 156) #[] #[.pointer (some ⟨A,0,none⟩)])
  have rR2:=r5.other (g:=E) 1 (.func (.func 156) #[] #[.pointer (some ⟨A,0,none⟩)]) (Ne.symm hRE)
  have cE2:=cE.set 1 (.func (.func 156) #[] #[.pointer (some ⟨A,0,none⟩)])
  obtain⟨k2,k3,kg⟩:=rE2.cells
  obtain⟨y0,y1,yf⟩:=rR2.cells
  obtain⟨x,y,hns⟩:=du5 hnn.out
  rw[hns]at aa7
  replace hns:=fe6 hns
  have hcapB:=fe6 aa7
  replace rR2:=fe6 rR2
  replace cE2:=fe6 cE2
  clear rE rE2 cE aa7 r5 hc
  go_wp2
  (try simp only[Exit.inBlock,Exit.then])
  refine bodyPost_ret (N8 rfl _ _ R 145 _ (0,0) _ rfl (rR2.out.set _ _).at_ Tryz.underlying145 rfl (by kernel_rfl)) rfl ?_
  refine⟨_,H4,rfl,cE2.out.x.set2 hRb hR4 _ _, ?_⟩
  rw[hs.out,hns.out]
  exact⟨_,_,rfl,enters_of Tryz.func156 (by kernel_rfl) rfl,fun H1 hle w0 W H0 O vm vb vt um uo ua t r v=>cg2 r v (hcapB.out.mono hle)⟩
 ·have e0:=t0.out.trans (decide_eq_false fun h=>absurd (hs.symm.trans h.1) (by decide))
  have e1:=t1.out.trans (decide_eq_false fun h=>absurd (hs.symm.trans h.1) (by decide))
  have e2:=t2.out.trans (decide_eq_false fun h=>absurd (hs.symm.trans h.1) (by decide))
  have e3:=t3.out.trans (decide_eq_false fun h=>absurd (hs.symm.trans h.1) (by decide))
  have e4:=t4.out.trans (decide_eq_true ⟨hs,hnn⟩)
  replace hs:=fe6 hs
  replace hnn:=fe6 hnn
  obtain⟨k0,k1,kf⟩:=rE.cells
  have rE2:=rE.set1 (.func (.func 158) #[] #[.pointer (some ⟨A,0,none⟩)])
  have rR2:=r5.other (g:=E) 1 (.func (.func 158) #[] #[.pointer (some ⟨A,0,none⟩)]) (Ne.symm hRE)
  have cE2:=cE.set 1 (.func (.func 158) #[] #[.pointer (some ⟨A,0,none⟩)])
  obtain⟨k2,k3,kg⟩:=rE2.cells
  obtain⟨y0,y1,yf⟩:=rR2.cells
  obtain⟨x,y,z,hns⟩:=dU8 hnn.out
  rw[hns]at aa7
  replace hns:=fe6 hns
  have hcapB:=fe6 aa7
  replace rR2:=fe6 rR2
  replace cE2:=fe6 cE2
  clear rE rE2 cE aa7 r5 hc
  go_wp2
  (try simp only[Exit.inBlock,Exit.then])
  refine bodyPost_ret (N8 rfl _ _ R 145 _ (0,0) _ rfl (rR2.out.set _ _).at_ Tryz.underlying145 rfl (by kernel_rfl)) rfl ?_
  refine⟨_,H4,rfl,cE2.out.x.set2 hRb hR4 _ _, ?_⟩
  rw[hs.out,hns.out]
  exact⟨_,_,rfl,enters_of Tryz.func158 (by kernel_rfl) rfl,fun H1 hle w0 W H0 O vm vb vt um uo ua t r v=>cg1 r v (hcapB.out.mono hle)⟩
 ·have e0:=t0.out.trans (decide_eq_false fun h=>absurd (hs.symm.trans h.1) (by decide))
  have e1:=t1.out.trans (decide_eq_false fun h=>absurd (hs.symm.trans h.1) (by decide))
  have e2:=t2.out.trans (decide_eq_false fun h=>absurd (hs.symm.trans h.1) (by decide))
  have e3:=t3.out.trans (decide_eq_false fun h=>absurd (hs.symm.trans h.1) (by decide))
  have e4:=t4.out.trans (decide_eq_false fun h=>absurd (hs.symm.trans h.1) (by decide))
  have e5:=t5.out.trans (decide_eq_true ⟨hs,hnn⟩)
  replace hs:=fe6 hs
  replace hnn:=fe6 hnn
  obtain⟨k0,k1,kf⟩:=rE.cells
  have rE2:=rE.set1 (.func (.func 160) #[] #[.pointer (some ⟨A,0,none⟩)])
  have rR2:=r5.other (g:=E) 1 (.func (.func 160) #[] #[.pointer (some ⟨A,0,none⟩)]) (Ne.symm hRE)
  have cE2:=cE.set 1 (.func (.func 160) #[] #[.pointer (some ⟨A,0,none⟩)])
  obtain⟨k2,k3,kg⟩:=rE2.cells
  obtain⟨y0,y1,yf⟩:=rR2.cells
  obtain⟨x,hns⟩:=bW2 hnn.out
  rw[hns]at aa7
  replace hns:=fe6 hns
  have hcapB:=fe6 aa7
  replace rR2:=fe6 rR2
  replace cE2:=fe6 cE2
  clear rE rE2 cE aa7 r5 hc
  go_wp2
  (try simp only[Exit.inBlock,Exit.then])
  refine bodyPost_ret (N8 rfl _ _ R 145 _ (0,0) _ rfl (rR2.out.set _ _).at_ Tryz.underlying145 rfl (by kernel_rfl)) rfl ?_
  refine⟨_,H4,rfl,cE2.out.x.set2 hRb hR4 _ _, ?_⟩
  rw[hs.out,hns.out]
  exact⟨_,_,rfl,enters_of Tryz.func160 (by kernel_rfl) rfl,fun H1 hle w0 W H0 O vm vb vt um uo ua t r v=>cQ1 r (hcapB.out.mono hle)⟩
 ·have e0:=t0.out.trans (decide_eq_false fun h=>absurd (hs.symm.trans h.1) (by decide))
  have e1:=t1.out.trans (decide_eq_false fun h=>absurd (hs.symm.trans h.1) (by decide))
  have e2:=t2.out.trans (decide_eq_false fun h=>absurd (hs.symm.trans h.1) (by decide))
  have e3:=t3.out.trans (decide_eq_false fun h=>absurd (hs.symm.trans h.1) (by decide))
  have e4:=t4.out.trans (decide_eq_false fun h=>absurd (hs.symm.trans h.1) (by decide))
  have e5:=t5.out.trans (decide_eq_false fun h=>absurd (hs.symm.trans h.1) (by decide))
  have e6:=t6.out.trans (decide_eq_true ⟨hs,hnn⟩)
  replace hs:=fe6 hs
  replace hnn:=fe6 hnn
  obtain⟨k0,k1,kf⟩:=rE.cells
  have rE2:=rE.set1 (.func (.func 161) #[] #[.pointer (some ⟨A,0,none⟩),.pointer (some ⟨B,0,none⟩)])
  have rR2:=r5.other (g:=E) 1 (.func (.func 161) #[] #[.pointer (some ⟨A,0,none⟩),.pointer (some ⟨B,0,none⟩)]) (Ne.symm hRE)
  have cE2:=cE.set 1 (.func (.func 161) #[] #[.pointer (some ⟨A,0,none⟩),.pointer (some ⟨B,0,none⟩)])
  obtain⟨k2,k3,kg⟩:=rE2.cells
  obtain⟨y0,y1,yf⟩:=rR2.cells
  have hcw:=fe6 (show bI4 H4 B ⟨#[99,97,115,116]⟩from⟨b,o,q.length+1,c,hBH.out,Nat.succ_pos _,fun W hW=>by rw[hr0 W hW,hs.out];rfl⟩)
  obtain⟨x,hns⟩:=bW2 hnn.out
  rw[hns]at aa7
  replace hns:=fe6 hns
  have hcapB:=fe6 aa7
  replace rR2:=fe6 rR2
  replace cE2:=fe6 cE2
  clear rE rE2 cE aa7 r5 hc
  go_wp2
  (try simp only[Exit.inBlock,Exit.then])
  refine bodyPost_ret (N8 rfl _ _ R 145 _ (0,0) _ rfl (rR2.out.set _ _).at_ Tryz.underlying145 rfl (by kernel_rfl)) rfl ?_
  refine⟨_,H4,rfl,cE2.out.x.set2 hRb hR4 _ _, ?_⟩
  rw[hs.out,hns.out]
  exact⟨_,_,rfl,enters_of Tryz.func161 (by kernel_rfl) rfl,fun H1 hle w0 W H0 O vm vb vt um uo ua t r v=>cA9 r v (hcapB.out.mono hle) (hcw.out.mono hle)⟩
 ·have e0:=t0.out.trans (decide_eq_false fun h=>absurd (hs.symm.trans h.1) (by decide))
  have e1:=t1.out.trans (decide_eq_false fun h=>absurd (hs.symm.trans h.1) (by decide))
  have e2:=t2.out.trans (decide_eq_false fun h=>absurd (hs.symm.trans h.1) (by decide))
  have e3:=t3.out.trans (decide_eq_false fun h=>absurd (hs.symm.trans h.1) (by decide))
  have e4:=t4.out.trans (decide_eq_false fun h=>absurd (hs.symm.trans h.1) (by decide))
  have e5:=t5.out.trans (decide_eq_false fun h=>absurd (hs.symm.trans h.1) (by decide))
  have e6:=t6.out.trans (decide_eq_false fun h=>absurd (hs.symm.trans h.1) (by decide))
  have e7:=t7.out.trans (decide_eq_true ⟨hs,hnn⟩)
  replace hs:=fe6 hs
  replace hnn:=fe6 hnn
  obtain⟨k0,k1,kf⟩:=rE.cells
  have rE2:=rE.set1 (.func (.func 161) #[] #[.pointer (some ⟨A,0,none⟩),.pointer (some ⟨B,0,none⟩)])
  have rR2:=r5.other (g:=E) 1 (.func (.func 161) #[] #[.pointer (some ⟨A,0,none⟩),.pointer (some ⟨B,0,none⟩)]) (Ne.symm hRE)
  have cE2:=cE.set 1 (.func (.func 161) #[] #[.pointer (some ⟨A,0,none⟩),.pointer (some ⟨B,0,none⟩)])
  obtain⟨k2,k3,kg⟩:=rE2.cells
  obtain⟨y0,y1,yf⟩:=rR2.cells
  have hcw:=fe6 (show bI4 H4 B ⟨#[98,114,111,107,101]⟩from⟨b,o,q.length+1,c,hBH.out,Nat.succ_pos _,fun W hW=>by rw[hr0 W hW,hs.out];rfl⟩)
  obtain⟨x,hns⟩:=bW2 hnn.out
  rw[hns]at aa7
  replace hns:=fe6 hns
  have hcapB:=fe6 aa7
  replace rR2:=fe6 rR2
  replace cE2:=fe6 cE2
  clear rE rE2 cE aa7 r5 hc
  go_wp2
  (try simp only[Exit.inBlock,Exit.then])
  refine bodyPost_ret (N8 rfl _ _ R 145 _ (0,0) _ rfl (rR2.out.set _ _).at_ Tryz.underlying145 rfl (by kernel_rfl)) rfl ?_
  refine⟨_,H4,rfl,cE2.out.x.set2 hRb hR4 _ _, ?_⟩
  rw[hs.out,hns.out]
  exact⟨_,_,rfl,enters_of Tryz.func161 (by kernel_rfl) rfl,fun H1 hle w0 W H0 O vm vb vt um uo ua t r v=>cr5 r v (hcapB.out.mono hle) (hcw.out.mono hle)⟩
 ·have e0:=t0.out.trans (decide_eq_false fun h=>absurd (hs.symm.trans h.1) (by decide))
  have e1:=t1.out.trans (decide_eq_false fun h=>absurd (hs.symm.trans h.1) (by decide))
  have e2:=t2.out.trans (decide_eq_false fun h=>absurd (hs.symm.trans h.1) (by decide))
  have e3:=t3.out.trans (decide_eq_false fun h=>absurd (hs.symm.trans h.1) (by decide))
  have e4:=t4.out.trans (decide_eq_false fun h=>absurd (hs.symm.trans h.1) (by decide))
  have e5:=t5.out.trans (decide_eq_false fun h=>absurd (hs.symm.trans h.1) (by decide))
  have e6:=t6.out.trans (decide_eq_false fun h=>absurd (hs.symm.trans h.1) (by decide))
  have e7:=t7.out.trans (decide_eq_false fun h=>absurd (hs.symm.trans h.1) (by decide))
  have e8:=t8.out.trans (decide_eq_true ⟨hs,hnn⟩)
  replace hs:=fe6 hs
  replace hnn:=fe6 hnn
  obtain⟨k0,k1,kf⟩:=rE.cells
  have rE2:=rE.set1 (.func (.func 163) #[] #[.pointer (some ⟨A,0,none⟩)])
  have rR2:=r5.other (g:=E) 1 (.func (.func 163) #[] #[.pointer (some ⟨A,0,none⟩)]) (Ne.symm hRE)
  have cE2:=cE.set 1 (.func (.func 163) #[] #[.pointer (some ⟨A,0,none⟩)])
  obtain⟨k2,k3,kg⟩:=rE2.cells
  obtain⟨y0,y1,yf⟩:=rR2.cells
  obtain⟨x,y,hns⟩:=du5 hnn.out
  rw[hns]at aa7
  replace hns:=fe6 hns
  have hcapB:=fe6 aa7
  replace rR2:=fe6 rR2
  replace cE2:=fe6 cE2
  clear rE rE2 cE aa7 r5 hc
  go_wp2
  (try simp only[Exit.inBlock,Exit.then])
  refine bodyPost_ret (N8 rfl _ _ R 145 _ (0,0) _ rfl (rR2.out.set _ _).at_ Tryz.underlying145 rfl (by kernel_rfl)) rfl ?_
  refine⟨_,H4,rfl,cE2.out.x.set2 hRb hR4 _ _, ?_⟩
  rw[hs.out,hns.out]
  exact⟨_,_,rfl,enters_of Tryz.func163 (by kernel_rfl) rfl,fun H1 hle w0 W H0 O vm vb vt um uo ua t r v=>cA8 r v (hcapB.out.mono hle)⟩
end
section
open Go.RowKit
attribute [local go_sem] j4.drew j4.alloc j4.drewN WB.holds Oper.semAt_some Q9 O1 J7
theorem bm4 {He:j5} {base:Nat} {w:World} {D:Nat} {gm gb gt gu go' ga rv:Value} {g:D5} {recs:List Rec} (d:L8 He base w D gm gb gt gu go' ga rv g recs) (v:F6 g=true) (line:Int):
 Calls Tryz.prog 79 #[.pointer (some ⟨D,0,none⟩),.int .i64 line] w (Post w He fun u H'=>bt6 H' u (U8 g (ahead recs line))):=by
 obtain⟨HP,hw,hle0,hD,hR⟩:=d.put
 have hl:=d.l
 have hT:=d.t
 have hHe:=d.h
 clear d
 obtain⟨a0,c0,rfl,_,_⟩:=hT.h.m.form
 obtain⟨a1,c1,rfl,_,_⟩:=hT.h.b.form
 obtain⟨a2,c2,rfl,_,_⟩:=hT.h.t.form
 obtain⟨a3,c3,rfl,_,_⟩:=hT.s.m.form
 obtain⟨a4,c4,rfl,_,_⟩:=hT.s.o.form
 obtain⟨a5,c5,rfl,_,_⟩:=hT.s.a.form
 have f0:∀W',j4 HP W'→W'.cell? ⟨D,0,none⟩=_:=fun W' h=>D7 hD h 0
 have f1:∀W',j4 HP W'→W'.cell? ⟨D,1,none⟩=_:=fun W' h=>D7 hD h 1
 have f2:∀W',j4 HP W'→W'.cell? ⟨D,2,none⟩=_:=fun W' h=>D7 hD h 2
 have f3:∀W',j4 HP W'→W'.cell? ⟨D,3,none⟩=_:=fun W' h=>D7 hD h 3
 have f4:∀W',j4 HP W'→W'.cell? ⟨D,4,none⟩=_:=fun W' h=>D7 hD h 4
 have f5:∀W',j4 HP W'→W'.cell? ⟨D,5,none⟩=_:=fun W' h=>D7 hD h 5
 have f6:∀W',j4 HP W'→W'.cell? ⟨D,6,none⟩=_:=fun W' h=>D7 hD h 6
 have f7:∀W',j4 HP W'→W'.cell? ⟨D,7,none⟩=_:=fun W' h=>D7 hD h 7
 simp at f0 f1 f2 f3 f4 f5 f6 f7
 refine Calls.aw5 (r:=none) (n:=3) (callsIn_of_wp_marks Tryz.func79 rfl trivial (wpIn_wide.2 ?_) rfl)
 simp only[Tryz.ntmps79,List.size_toArray,ff8,fg1,fh6,fh7,fg9,fg8,fg3,List.append_toArray,ff9,fg2]
 go_upto_region 2 with fail
 have hz:=heap_alloc_new w (.cells #[.slice none 0 0,.slice none 0 0,.slice none 0 0,.int .i64 0,.slice none 0 0,.slice none 0 0,.slice none 0 0,.int .i64 0] 32)
 generalize hR0:w.heap.size=R0 at hz ⊢
 have x1:=(Ext.refl hw).alloc (.cells #[.slice none 0 0,.slice none 0 0,.slice none 0 0,.int .i64 0,.slice none 0 0,.slice none 0 0,.slice none 0 0,.int .i64 0] 32)
 have hz2:=(Below.heap_alloc _ (.cells #[.slice a0 g.h.ms.length c0,.slice a1 g.h.bs.length c1,.slice a2 g.h.ts.length c2,.int .i64 g.h.ch,.slice a3 g.s.mo.length c3,.slice a4 g.s.wo.length c4,.slice a5 g.s.wa.length c5,.int .i64 g.s.fr] 32) R0 (by rw[World.size_alloc];omega)).trans hz
 have ht1:=heap_alloc_new (w.alloc (.cells #[.slice none 0 0,.slice none 0 0,.slice none 0 0,.int .i64 0,.slice none 0 0,.slice none 0 0,.slice none 0 0,.int .i64 0] 32)) (.cells #[.slice a0 g.h.ms.length c0,.slice a1 g.h.bs.length c1,.slice a2 g.h.ts.length c2,.int .i64 g.h.ch,.slice a3 g.s.mo.length c3,.slice a4 g.s.wo.length c4,.slice a5 g.s.wa.length c5,.int .i64 g.s.fr] 32)
 replace x1:=x1.alloc (.cells #[.slice a0 g.h.ms.length c0,.slice a1 g.h.bs.length c1,.slice a2 g.h.ts.length c2,.int .i64 g.h.ch,.slice a3 g.s.mo.length c3,.slice a4 g.s.wo.length c4,.slice a5 g.s.wa.length c5,.int .i64 g.s.fr] 32)
 have hsz:((w.alloc (.cells #[.slice none 0 0,.slice none 0 0,.slice none 0 0,.int .i64 0,.slice none 0 0,.slice none 0 0,.slice none 0 0,.int .i64 0] 32)).alloc (.cells #[.slice a0 g.h.ms.length c0,.slice a1 g.h.bs.length c1,.slice a2 g.h.ts.length c2,.int .i64 g.h.ch,.slice a3 g.s.mo.length c3,.slice a4 g.s.wo.length c4,.slice a5 g.s.wa.length c5,.int .i64 g.s.fr] 32)).heap.size=R0+2:=by
  rw[World.size_alloc,World.size_alloc,hR0]
 rw[World.size_alloc,hR0]at ht1
 have hbe:Below w.heap.size w ((w.alloc (.cells #[.slice none 0 0,.slice none 0 0,.slice none 0 0,.int .i64 0,.slice none 0 0,.slice none 0 0,.slice none 0 0,.int .i64 0] 32)).alloc (.cells #[.slice a0 g.h.ms.length c0,.slice a1 g.h.bs.length c1,.slice a2 g.h.ts.length c2,.int .i64 g.h.ch,.slice a3 g.s.mo.length c3,.slice a4 g.s.wo.length c4,.slice a5 g.s.wa.length c5,.int .i64 g.s.fr] 32)):=x1.below
 generalize(w.alloc (.cells #[.slice none 0 0,.slice none 0 0,.slice none 0 0,.int .i64 0,.slice none 0 0,.slice none 0 0,.slice none 0 0,.int .i64 0] 32)).alloc (.cells #[.slice a0 g.h.ms.length c0,.slice a1 g.h.bs.length c1,.slice a2 g.h.ts.length c2,.int .i64 g.h.ch,.slice a3 g.s.mo.length c3,.slice a4 g.s.wo.length c4,.slice a5 g.s.wa.length c5,.int .i64 g.s.fr] 32)=w1 at*
 have hw1:=x1.holds
 have hgo:=fun(W:World) (hW:j4 HP W)=>bI5 _ _ _ _ _ _ rv g recs line v D He HP W hW hle0 hT hD hR (by omega)
 replace hgo:=fe6 (hgo w1 hw1)
 clear f0 f1 f2 f3 f4 f5 f6 f7 hR hD
 go_wp2_with(go_at_call 77;refine hgo.out.mono ?_;rintro e w2 ⟨lb,H2,rfl,x2,hit⟩)
 have hw2:=x2.holds
 have hle2:=x2.le hw1
 have hn0:∀b,w.heap.size≤b→b<w1.heap.size→H2 b=none:=fun b h1 h2=>(x2.same b h2).trans (hw.D6 h1)
 have hHn:∀b,w.heap.size≤b→He b=none:=fun b h=>hHe.D6 h
 have bW3:=x2.below
 have hj0:ba8 w.heap.size w HP He (R0+1) R0 g H2 [] w2:=
  ⟨x1.trans x2,hn0 _ (by omega) (by omega),hn0 _ (by omega) (by omega),by omega,⟨(bW3.block R0 (by omega)).trans hz2⟩,He,_,_,_,_,_,_,⟨hHe.below (hbe.trans (bW3.mono hbe.size)),fun b o e=> .inl (hHe.lt e),D8.refl _,fun _ _=>rfl⟩,hHn _ (by omega),hHn _ (by omega),hT,⟨(bW3.block (R0+1) (by omega)).trans ht1⟩⟩
 have hs2:w.heap.size≤w2.heap.size:=fh1 hbe.size bW3.size
 have hs3:R0+2≤w2.heap.size:=by have:=bW3.size;omega
 clear hz hz2 ht1 x1 hsz hbe hw1 hgo x2 hn0 hHn bW3
 refine(wpIn_wide (n:=3)).1 (at6 (k:=3) (H:=H2) rfl (enters_of Tryz.func126 (by kernel_rfl) rfl) hw2 hit (fun _ _ _ ⟨_,e,_⟩=>by rw[e];rfl) (fun _ _ _ _ _ ⟨p,e,h1,h2⟩=>⟨p,e,h1,h2⟩)
  (J:=ba8 w.heap.size w HP He (R0+1) R0 g)
  (Jx:=fun _ _ _ _=>False)
  (J2:=fun Hc pre x args aa W=>ba8 w.heap.size w HP He (R0+1) R0 g Hc pre W∧∃LB p,(W.heap[LB]? =some (.cells #[.int .i64 x.1.ln,p] 142 (0,0))∧Hc LB=none)∧RdP He p x.1.en∧aa={tmps:= #[.pointer (some ⟨D,0,none⟩),.int .i64 line,undef,undef,.pointer (some ⟨R0,0,none⟩),.pointer (some ⟨R0+1,0,none⟩),.pointer (some ⟨LB,0,none⟩),.bool x.2,.pointer (some ⟨D,0,none⟩),.pointer (some ⟨D,0,none⟩),.pointer (some ⟨D,0,none⟩),.agg #[.slice a0 g.h.ms.length c0,.slice a1 g.h.bs.length c1,.slice a2 g.h.ts.length c2,.int .i64 g.h.ch,.slice a3 g.s.mo.length c3,.slice a4 g.s.wo.length c4,.slice a5 g.s.wa.length c5,.int .i64 g.s.fr],.pointer (some ⟨D,0,none⟩),.int .i64 line,.func (.func 126) #[] lb,.agg #[.int .i64 x.1.ln,p],.bool x.2,undef,undef,undef,undef,undef,undef,undef,undef,undef],defers:=[]})
  (ba8.abides hs2 hs2) (fun _ _ _ _ _ _ h _ _=>h) (fun _ _ _=> ?hJ2) hj0 ?assign ?body ?done ?stop)
 case hJ2=>exact fun _ _ _ _ _ ⟨h1,LB,p,h2,h3,e⟩ hh ht=>⟨ba8.abides hs2 hs2 _ _ _ _ _ h1 hh ht,LB,p,ht.keep _ _ _ _ h2.1 h2.2,h3,e⟩
 case assign=>
  rintro l Hc pre x W args hl hWc K5 hj ⟨p,rfl,hi,hrd⟩ hpre
  have hja:=ba8.abides (g:=g) (fh0 w.heap.size) (fh0 _) _ _ _ _ _ hj hWc (Q6.bN5 ((Ext.refl hWc).alloc (.cells #[.int .i64 x.1.ln,p] 142)) hj.x.below.size)
  have hLn:=heap_alloc_new W (.cells #[.int .i64 x.1.ln,p] 142)
  have hWn:=hWc.D6 (fh0 W.heap.size)
  obtain⟨q,rfl⟩:∃q,p= .pointer q:=by
   cases he:x.1.en with
   |none=>rw[he]at hrd;exact⟨none,hrd⟩
   |some y=>rw[he]at hrd;exact⟨_,hrd.choose_spec.1⟩
  gi_wp2
  exact⟨hWc.alloc _,hja,_,_,⟨hLn,hWn⟩,hrd,rfl⟩
 case body=>
  rintro l rc Hc pre x args aa W hl hrc hWc K5 ⟨p',rfl,hi,du6⟩ hpre ⟨hj,LB,p,hLB,hrd,rfl⟩
  clear du6
  have aE0:=cS5 g pre x
  obtain⟨jx,jtb,jr0,jne,jr,K,vm,vb,vt,um,uo,ua,jk,k1,k2,tw,row⟩:=hj
  have vp:=cB7 v pre
  obtain⟨⟨ln,en⟩,b⟩:=x
  simp only at hrd hi aE0 hLB ⊢
  cases b with
  |false=>
   simp only[Bool.false_eq_true,if_false]at aE0
   replace aE0:=fe6 aE0
   gi_wp2
   exact⟨hWc,jx,jtb,jr0,jne,jr,K,vm,vb,vt,um,uo,ua,jk,k1,k2,by rw[aE0.out];exact tw,by rw[aE0.out];exact row⟩
  |true=>
   obtain⟨y,hy⟩:=cr9 _ (hpre.subset (show(⟨⟨ln,en⟩,true⟩:Rec × Bool)∈pre++[(⟨ln,en⟩,true)]by simp)) rfl
   simp only at hy
   subst hy
   obtain⟨E,rfl,hE⟩:=hrd
   simp only[if_true,ac9]at aE0
   have hon:=cr6 E y vm vb vt um uo ua (aD9 g pre) vp K W jk.h (hE.mono jk.le) tw
   unfold aX0 at hon
   generalize aD9 g pre=t at*
   obtain⟨t2,b2,hcb⟩:∃t2 b2,changed t y.word y.nums=(t2,b2):=⟨_,_,rfl⟩
   rw[hcb]at hon aE0
   simp only at aE0
   replace aE0:=fe6 aE0
   obtain⟨m0,m1,m2,m3,m4,m5,m6,m7,mf⟩:=row.cells
   have n0:W.cell? ⟨LB,0,none⟩=some (.int .i64 ln):=by simp[World.cell?,hLB.1]
   have n1:W.cell? ⟨LB,1,none⟩=some (.pointer (some ⟨E,0,none⟩)):=by simp[World.cell?,hLB.1]
   replace hon:=fe6 hon
   clear hcb
   gi_wp2_with (gi_at_call 119;go_must (refine(Calls.wide hon.out).mono ?_;rintro e w3 ⟨_,G3,rfl,xg,u,rfl,qm,qb,qt,qu,qo,qa,rfl,tw2⟩;obtain⟨p0,n0',rfl,_,_⟩:=tw2.h.m.form;obtain⟨p1,n1',rfl,_,_⟩:=tw2.h.b.form;obtain⟨p2,n2,rfl,_,_⟩:=tw2.h.t.form;obtain⟨p3,n3,rfl,_,_⟩:=tw2.s.m.form;obtain⟨p4,n4,rfl,_,_⟩:=tw2.s.o.form;obtain⟨p5,n5,rfl,_,_⟩:=tw2.s.a.form;obtain⟨K4,jk4,tw4,hs4⟩:=jk.ext xg hWc jx.below.size tw2;have k14:=(hs4 _ row.lt).trans k1;have k24:=(hs4 _ jr.lt).trans k2;have jx3:=jx.step (xg.below.mono jx.below.size) (hWc.below xg.below);have jr3:=jr.below xg.below jr.lt;have dV1:=row.below xg.below row.lt;obtain⟨z0,z1,z2,z3,z4,z5,z6,z7,zf⟩:=dV1.cells))
   have rz:=dV1.set (.slice p0 t2.h.ms.length n0') (.slice p1 t2.h.bs.length n1') (.slice p2 t2.h.ts.length n2) (.int .i64 t2.h.ch) (.slice p3 t2.s.mo.length n3) (.slice p4 t2.s.wo.length n4) (.slice p5 t2.s.wa.length n5) (.int .i64 t2.s.fr)
   have hs0:=jx.below.size
   have jx4:=Ext.aC3 jx3 (R:=R0+1) (by omega) jtb (.slice p0 t2.h.ms.length n0') (.slice p1 t2.h.bs.length n1') (.slice p2 t2.h.ts.length n2) (.int .i64 t2.h.ch) (.slice p3 t2.s.mo.length n3) (.slice p4 t2.s.wo.length n4) (.slice p5 t2.s.wa.length n5) (.int .i64 t2.s.fr)
   have jr4:=jr3.off jne (.slice p0 t2.h.ms.length n0') (.slice p1 t2.h.bs.length n1') (.slice p2 t2.h.ts.length n2) (.int .i64 t2.h.ch) (.slice p3 t2.s.mo.length n3) (.slice p4 t2.s.wo.length n4) (.slice p5 t2.s.wa.length n5) (.int .i64 t2.s.fr)
   have jk5:=jk4.with (M9.setH jk4.h k14 (.slice p0 t2.h.ms.length n0') (.slice p1 t2.h.bs.length n1') (.slice p2 t2.h.ts.length n2) (.int .i64 t2.h.ch) (.slice p3 t2.s.mo.length n3) (.slice p4 t2.s.wo.length n4) (.slice p5 t2.s.wa.length n5) (.int .i64 t2.s.fr))
   exact⟨jx4.holds,jx4,jtb,jr0,jne,jr4,K4,_,_,_,_,_,_,jk5,k14,k24,by rw[aE0.out];exact tw4,by rw[aE0.out];exact rz⟩
 case done=>
  rintro DD Hc W hDD hWc K5 hdef ⟨jx,jtb,jr0,jne,jr,K,vm,vb,vt,um,uo,ua,jk,k1,k2,tw,row⟩
  rw[cS7]at tw row
  obtain⟨p0,n0,rfl,_,_⟩:=tw.h.m.form;obtain⟨p1,n1,rfl,_,_⟩:=tw.h.b.form;obtain⟨p2,n2,rfl,_,_⟩:=tw.h.t.form;obtain⟨p3,n3,rfl,_,_⟩:=tw.s.m.form;obtain⟨p4,n4,rfl,_,_⟩:=tw.s.o.form;obtain⟨p5,n5,rfl,_,_⟩:=tw.s.a.form
  have hDW:=hWc.at_ _ _ hdef
  have hDlt:=(Array.getElem?_eq_some_iff.1 hDW).1
  obtain⟨m0,m1,m2,m3,m4,m5,m6,m7,mf⟩:=row.cells
  obtain⟨z0,z1,z2,z3,z4,z5,z6,z7,zf⟩:=jr.cells
  obtain⟨t,ht⟩:∃t,Hid (U8 g (ahead recs line)=t):=⟨_,rfl⟩
  simp only[ht.out]at m0 m1 m2 m3 m4 m5 m6 m7 tw row
  go_wp2_with fail
  have rz:=jr.set (.slice p0 t.h.ms.length n0) (.slice p1 t.h.bs.length n1) (.slice p2 t.h.ts.length n2) (.int .i64 t.h.ch) (.slice p3 t.s.mo.length n3) (.slice p4 t.s.wo.length n4) (.slice p5 t.s.wa.length n5) (.int .i64 t.s.fr)
  have hKz:=M9.setH jk.h k2 (.slice p0 t.h.ms.length n0) (.slice p1 t.h.bs.length n1) (.slice p2 t.h.ts.length n2) (.int .i64 t.h.ch) (.slice p3 t.s.mo.length n3) (.slice p4 t.s.wo.length n4) (.slice p5 t.s.wa.length n5) (.int .i64 t.s.fr)
  have hbz:=(Ext.aC3 jx (by omega) jr0 (.slice p0 t.h.ms.length n0) (.slice p1 t.h.bs.length n1) (.slice p2 t.h.ts.length n2) (.int .i64 t.h.ch) (.slice p3 t.s.mo.length n3) (.slice p4 t.s.wo.length n4) (.slice p5 t.s.wa.length n5) (.int .i64 t.s.fr)).below
  have hne:R0≠DD:=by omega
  have hDz:=(bw0 (W:=W) (S:=R0) hne.symm (.slice p0 t.h.ms.length n0) (.slice p1 t.h.bs.length n1) (.slice p2 t.h.ts.length n2) (.int .i64 t.h.ch) (.slice p3 t.s.mo.length n3) (.slice p4 t.s.wo.length n4) (.slice p5 t.s.wa.length n5) (.int .i64 t.s.fr)).trans hDW
  have rz2:=rz.am3 hne (.deferred none)
  refine ak6 hDz (results_cell_row rfl _ _ R0 32 _ (0,0) _ rfl rz2.at_ Tryz.underlying32 rfl (by kernel_rfl)) ?_
  exact⟨_,K,rfl,⟨ao7 hbz (by omega) (Array.getElem?_eq_some_iff.1 hDz).1,(jk.with hKz).am3 hDz (by omega) _,jk.same⟩,by rw[ht.out];exact⟨_,_,_,_,_,_,rfl,tw⟩⟩
 case stop=>rintro _ _ _ _ _ _ _ _ _ _ h;exact h.elim
end
section
open Go.RowKit
structure Only (D:Nat) (rv:Value) (w w':World):Prop where
 b:Below 0 w w'
 k:∀b,b<w.heap.size→b≠D→rv.ownBlock≠some b→w'.heap[b]? =w.heap[b]?
theorem Only.of {D:Nat} {rv:Value} {w w':World} (h:Below w.heap.size w w'):Only D rv w w':=⟨h.mono (fh3 _),fun b hb _ _=>h.block b hb⟩
theorem Only.trans {D:Nat} {rv rv':Value} {a b c:World} (h:Only D rv a b) (k:Only D rv' b c) (hr:∀g,g<a.heap.size→rv'.ownBlock=some g→rv.ownBlock=some g):Only D rv a c:=
 ⟨h.b.trans k.b,fun g hg h1 h2=>(k.k g (fh4 hg h.b.size) h1 (fun e=>h2 (hr g hg e))).trans (h.k g hg h1 h2)⟩
theorem Only.below {D n:Nat} {rv:Value} {w w':World} (h:Only D rv w w') (hn:n≤w.heap.size) (hD:n≤D) (hr:∀g,rv.ownBlock=some g→n≤g):Below n w w':=
 ⟨h.b.os,h.b.tape,h.b.output,h.b.size,fun g hg=>h.k g (by omega) (by omega) (fun e=>by have:=hr g e;omega)⟩
theorem Only.setRow {D i:Nat} {rv:Value} {w w':World} {g:Nat} (h:Only D rv w w') (hg:rv.ownBlock=some g∨g=D∨w.heap.size≤g) (u:Value):Only D rv w (w'.setCell ⟨g,i,none⟩ u):=
 ⟨h.b.setCell (fh3 _) u,fun b hb h1 h2=>(heap_setCell_other w' ⟨g,i,none⟩ b u (by rintro rfl;rcases hg with hg|hg|hg;exact h2 hg;exact h1 hg;omega)).trans (h.k b hb h1 h2)⟩
section
variable {He:j5} {base:Nat} {w w':World} {D:Nat} {gm gb gt gu go' ga rv:Value} {g:D5} {recs:List Rec}
theorem L8.lt (d:L8 He base w D gm gb gt gu go' ga rv g recs):D<w.heap.size:=(Array.getElem?_eq_some_iff.1 d.row).1
theorem L8.ext {H':j5} (d:L8 He base w D gm gb gt gu go' ga rv g recs) (hx:Ext w He w' H'):L8 H' base w' D gm gb gt gu go' ga rv g recs:=
 ⟨hx.holds,(hx.below.block D d.lt).trans d.row,(hx.same D d.lt).trans d.nD,d.t.mono (hx.le d.h),d.own.ext d.h hx,d.l⟩
theorem L8.below (d:L8 He base w D gm gb gt gu go' ga rv g recs) (hb:Below w.heap.size w w'):L8 He base w' D gm gb gt gu go' ga rv g recs:=d.ext ⟨hb,d.h.below hb,fun _ _=>rfl⟩
theorem L8.neD (d:L8 He base w D gm gb gt gu go' ga rv g recs):rv.ownBlock≠some D:=fun e=>by
 obtain⟨cur,h⟩:=d.own.X7 e
 rw[d.row]at h
 simp only[Option.some.injEq,Obj.cells.injEq]at h
 exact absurd h.2.1 (by decide)
theorem L8.ex2 {b o c k:Nat} {r:Rec} {p:Value} {en:Option F7} (d:L8 He base w D gm gb gt gu go' ga rv g recs) (hv:rv= .slice (some ⟨b,o,none⟩) recs.length c) (hk:At recs k r) (hp:RdP He p en):
 rv.ownBlock=some b∧o=0∧base≤b∧He b=none∧(∃u,w.cell? ⟨b,o+k*2+1,none⟩=some u)∧w.frozen? ⟨b,o+k*2+1,none⟩=false∧
   L8 He base (w.setCell ⟨b,o+k*2+1,none⟩ p) D gm gb gt gu go' ga rv g (recs.set k ⟨r.ln,en⟩):=by
 subst hv
 obtain⟨g',e⟩:=d.own.addr rfl (by have:=hk.lt;omega)
 cases e
 obtain⟨ds,⟨p0,hds,hi,hp0⟩,h1,h2,h3,h4,h5⟩:=d.own.as9 hk
 have hne:b≠D:=fun e=>d.neD (by rw[←e];rfl)
 have e1:(0:Nat)+k*2+1=k*Enc.sz Rec+1:=by show 0+k*2+1=k*2+1;omega
 rw[e1]
 refine⟨rfl,rfl,h1,h2,⟨p0,h4 1 _ (by rw[hds];rfl)⟩,h5 _,d.h.setCell (a:=⟨b,_,none⟩) h2 _, ?_,d.nD,d.t, ?_,by rw[List.length_set];exact d.l⟩
 ·exact(heap_setCell_other w ⟨b,_,none⟩ D p (Ne.symm hne)).trans d.row
 ·refine d.own.aV3 hk (by decide) fun ds ⟨q,e,k1,k2⟩=>⟨p, ?_,k1,hp⟩
  rw[e];rfl
end
end
section
open Go.RowKit
section
variable {He:j5} {base:Nat} {w W':World} {D:Nat} {gm gb gt gu go' ga rv v':Value} {g:D5} {recs:List Rec} {r:Rec}
theorem L8.app {o:Obj} (d:L8 He base w D gm gb gt gu go' ga rv g recs) (hl:recs.length<1000) (ho:Own He base W' 142 v' (recs++[r])) (hg:(w.alloc o).grownBy W' rv.ownBlock) (hw:j4 He W'):
 W'.cell? ⟨D,8,none⟩=some rv∧W'.frozen? ⟨D,8,none⟩=false∧Only D rv w (W'.setCell ⟨D,8,none⟩ v')∧L8 He base (W'.setCell ⟨D,8,none⟩ v') D gm gb gt gu go' ga v' g (recs++[r]):=by
 have hD:W'.heap[D]? =some (.cells #[gm,gb,gt,.int .i64 g.h.ch,gu,go',ga,.int .i64 g.s.fr,rv] 137 (0,0)):=
  (hg.block D (by rw[World.size_alloc];have:=d.lt;omega) (fun e=>d.neD e.symm)).trans ((heap_alloc_old w o d.lt).trans d.row)
 have hne:v'.ownBlock≠some D:=fun e=>by
  obtain⟨cur,h⟩:=ho.X7 e
  rw[hD]at h
  simp only[Option.some.injEq,Obj.cells.injEq]at h
  exact absurd h.2.1 (by decide)
 refine⟨by rw[Lib.cell_of_heap hD];rfl,Lib.frozen_of_heap hD 8, ?_,hw.setCell (a:=⟨D,8,none⟩) d.nD _, ?_,d.nD,d.t,ho.setCell (a:=⟨D,8,none⟩) hne _,by rw[ff4,ff7];omega⟩
 ·refine Only.setRow ⟨?_,fun b hb h1 h2=> ?_⟩ (.inr (.inl rfl)) v'
  ·exact((Below.refl 0 w).alloc (fh3 _) o).grown hg (fh3 _) (fun _ _=>fh3 _)
  ·exact(hg.block b (by rw[World.size_alloc];omega) (fun e=>h2 e.symm)).trans (heap_alloc_old w o hb)
 ·have:=M7 (i:=8) hD v'
  simp only[fe7,ff1,ff2]at this
  exact this
end
end
section
open Go.RowKit
attribute [local go_sem] j4.drew j4.alloc j4.drewN WB.holds Oper.semAt_some Q9 O1 J7
def bit (b:Bool):Int:=if b then 1 else 0
theorem bm5 (b:Bool) (w:World):Calls Tryz.prog 120 #[.int .i64 (bit b)] w (fun e w'=>e= .returned (.string (ae4 b))∧w=w'):=by
 have x0:∀w:World,(Instr.index 238 (.agg #[.string ⟨#[110,111]⟩,.string ⟨#[111,107]⟩]) (.int .i64 0)).run Tryz.prog w= .ok (.string ⟨#[110,111]⟩) w:=fun _=>by kernel_rfl
 have x1:∀w:World,(Instr.index 238 (.agg #[.string ⟨#[110,111]⟩,.string ⟨#[111,107]⟩]) (.int .i64 1)).run Tryz.prog w= .ok (.string ⟨#[111,107]⟩) w:=fun _=>by kernel_rfl
 cases b
 all_goals
  simp only[bit,if_true,Bool.false_eq_true,if_false]
  go_enter Tryz.func120,Tryz.ntmps120
  go_wp2
  go_ret
  exact⟨rfl,rfl⟩
def aE1 (recs:List Rec) (was is:List Int):Nat→ByteArray
 |0=>wOk
 |k+1=>if is.getD k 0=was.getD k 0 then aE1 recs was is k else aE1 recs was is k++(((⟨#[32]⟩++G6 (recs.getD k default).ln)++⟨#[58]⟩)++ae4 (decide (is.getD k 0=1)))
def cU0 (g:D5) (recs ap0:List Rec) (line:Int):ByteArray:=aE1 ap0 (al6 g recs line) (al6 g ap0 line) (al6 g ap0 line).length
def X8 (He:j5) (base:Nat) (w:World) (D:Nat) (gm gb gt gu go' ga rv:Value) (g:D5) (ap0:List Rec) (s:ByteArray) (e:Ending) (w':World):Prop:=
 ∃He' rv',e= .returned (.string s)∧Only D rv w w'∧(∀b,b<w.heap.size→He' b=He b)∧L8 He' base w' D gm gb gt gu go' ga rv' g ap0
def aE2 (recs:List Rec) (n line:Int) (en:Option F7):List Rec:=match av8 recs n line with
 |none=>recs
 |some k=>recs.set k ⟨n,en⟩
def bm6 (g:D5) (recs:List Rec) (n line:Int) (en:Option F7):ByteArray:=match av8 recs n line with
 |none=>wNo
 |some _=>cU0 g recs (aE2 recs n line en) line
theorem bm7 {n:Int} (h0:0≤n) (h1:n≤9999):(G6 n).size≤4:=by
 obtain⟨k,rfl⟩:=Int.eq_ofNat_of_zero_le h0
 show(Lib.itoa (k:Int)).length≤4
 rw[ay2];exact aI6 _ 3 (by omega)
theorem du7 (recs:List Rec) (was is:List Int) (hr:∀r∈recs,0≤r.ln∧r.ln≤9999) (k:Nat) (hk:k≤recs.length):(aE1 recs was is k).size≤2+8*k:=by
 induction k with
 |zero=>exact fh0 _
 |succ k ih=>
  have h:=ih (by omega)
  unfold aE1
  split
  ·omega
  ·have e:recs.getD k default=recs[k]:=by rw[ff3,fg0 (by omega)];rfl
   have h1:=hr recs[k] (List.getElem_mem _)
   have h2:=bm7 h1.1 h1.2
   have h3:(ae4 (decide (is.getD k 0=1))).size=2:=by cases decide (is.getD k 0=1)<;>rfl
   rw[e]
   simp only[ByteArray.size_append,h3]
   have h4:(⟨#[32]⟩:ByteArray).size=1:=rfl
   have h5:(⟨#[58]⟩:ByteArray).size=1:=rfl
   omega
theorem cd1 (recs:List Rec) (line:Int):(ahead recs line).length=((recs.map Rec.ln).takeWhile fun n=>decide (n<line)).length:=by
 unfold ahead
 rw[List.takeWhile_map,fg5];rfl
theorem dJ4 {recs:List Rec} {k:Nat} {r:Rec} (hk:At recs k r) (en:Option F7):(recs.set k ⟨r.ln,en⟩).map Rec.ln=recs.map Rec.ln:=by
 rw[List.map_set]
 refine List.ext_getElem? fun i=> ?_
 by_cases h:k=i
 ·subst h
  rw[List.getElem?_set_self (by rw[fg5];exact hk.lt),List.getElem?_map,show recs[k]? =some r from hk];rfl
 ·rw[List.getElem?_set_ne h]
theorem dh2 {g:D5} {recs:List Rec} {line:Int} {k:Nat} {y:Int} (h:At (al6 g recs line) k y):∃b,y=bit b:=by
 unfold al6 at h
 obtain⟨x,_,rfl⟩:=List.mem_map.1 h.mem
 exact⟨x.2,rfl⟩
theorem At.dB9 {l:List Int} {k:Nat} {y:Int} (h:At l k y):l.getD k 0=y:=by rw[ff3,show l[k]? =some y from h];rfl
theorem At.du8 {l:List Rec} {k:Nat} {y:Rec} (h:At l k y):l.getD k default=y:=by rw[ff3,show l[k]? =some y from h];rfl
theorem bF8 {He:j5} {base:Nat} {w:World} {D:Nat} {gm gb gt gu go' ga rv:Value} {g:D5} {recs:List Rec} (d:L8 He base w D gm gb gt gu go' ga rv g recs) (v:F6 g=true) (dr:Doors He) (hr:∀r∈recs,0≤r.ln∧r.ln≤9999) (line n:Int) (q:Option Addr) (en:Option F7) (hp:RdP He (.pointer q) en):
 Calls Tryz.prog 125 #[.pointer (some ⟨D,0,none⟩),.int .i64 line,.int .i64 n,.pointer q] w (X8 He base w D gm gb gt gu go' ga rv g (aE2 recs n line en) (bm6 g recs n line en)):=by
 have hfind:=cs3 d n line
 unfold X8 aE2 bm6
 cases hf:av8 recs n line with
 |none=>
  rw[hf]at hfind
  replace hfind:=fe6 hfind
  clear hf
  go_enter Tryz.func125,Tryz.ntmps125
  go_wp2_with(first|((go_at_call 124;refine hfind.out.mono ?_;rintro e w1 ⟨hb,_,rfl,rfl⟩))|((go_at_call 120;refine(bm5 false w1).mono ?_;rintro e w2 ⟨rfl,rfl⟩)))
  go_ret
  exact⟨He,rv,rfl,Only.of hb,fun _ _=>rfl,d.below hb⟩
 |some k=>
  rw[hf]at hfind
  have hrc:aE2 recs n line en=recs.set k ⟨n,en⟩:=by unfold aE2;rw[hf]
  obtain⟨r,hrk,hln,hlt⟩:=bI6 hf
  clear hf
  replace hfind:=fe6 hfind
  dsimp only
  generalize dh3:recs.set k ⟨n,en⟩=ap0
  rw[dh3]at hrc
  generalize hS:cU0 g recs ap0 line=S
  rw[←hrc]at hS
  replace hS:=fe6 hS
  go_enter Tryz.func125,Tryz.ntmps125
  go_upto_region 4 with(go_at_call 124;refine hfind.out.mono ?_;rintro e w1 ⟨hb,_,rfl,hk,b,o,c,hv,rfl⟩)
  have d1:=d.below hb
  have dC0:=fe6 (bF4 d1 v line)
  go_upto_region 5 with(go_at_call 179;refine dC0.out.mono ?_;rintro e w2 ⟨u1,H2,rfl,x2,hu1⟩)
  have d2:=d1.ext x2
  obtain⟨hob,rfl,hbb,eV5,⟨u0,hu0⟩,hfz,d3⟩:=d2.ex2 hv hrk (hp.mono (x2.le d1.h))
  simp only[Nat.zero_add]at hu0 hfz d3
  have hle:=(cc6 g recs line)
  have hlen3:=cc6 g (recs.set k ⟨r.ln,en⟩) line
  have hlen:(al6 g (recs.set k ⟨r.ln,en⟩) line).length=(al6 g recs line).length:=by rw[hlen3,hle,cd1,cd1,dJ4 hrk]
  have hlr:(al6 g (recs.set k ⟨r.ln,en⟩) line).length≤(recs.set k ⟨r.ln,en⟩).length:=by rw[hlen3];exact bw1 _ _
  have hr3:∀x∈recs.set k ⟨r.ln,en⟩,0≤x.ln∧x.ln≤9999:=fun x hx=>by
   rcases List.mem_or_eq_of_mem_set hx with h|rfl
   ·exact hr x h
   ·exact hr r hrk.mem
  have hon:=Only.of (D:=D) (rv:=rv) (hb.trans (x2.below.mono hb.size))
  replace hon:=hon.setRow (i:=k*2+1) (.inl hob) (.pointer q)
  rw[hln]at d3 hlen hlr hr3 hlen3
  have eK0:=d3.l
  rw[dh3]at d3 hlen hlr hr3
  have dC1:∀g',g'<w.heap.size→H2 g'=He g':=fun g' h=>x2.same g' (fh4 h hb.size)
  have ex3:=hon
  clear hlt hrk hv hk hle hlen3
  go_upto_region 7 with(go_at_call 120;refine(bm5 true _).mono ?_;rintro e w5 ⟨rfl,rfl⟩)
  generalize w2.setCell ⟨b,k*2+1,none⟩ (.pointer q)=w4 at*
  have dC2:=fe6 (bF4 d3 v line)
  go_wp2_with(go_at_call 179;refine dC2.out.mono ?_;rintro e w3 ⟨u2,H3,rfl,x3,hu2⟩;obtain⟨p2,c2,rfl,_,_⟩:=hu2.form)
  have hw3:=x3.holds
  have hle3:=x3.le d3.h
  have ex4:=hu1.mono hle3
  obtain⟨p1,c1,rfl,_,_⟩:=hu1.form
  have d5:=d3.ext x3
  have dr3:Doors H3:=((dr.mono (x2.le d1.h)).mono hle3)
  have hl5:=d3.l
  have ch8:=fun(k:Nat) (y:Int) (h:At (al6 g ap0 line) k y)=>dh2 h
  have hS2:Hid (aE1 ap0 (al6 g recs line) (al6 g ap0 line) (al6 g ap0 line).length=S):=by show _=_;rw[←hS.out,hrc];rfl
  clear hrc
  replace ch8:=fe6 ch8
  generalize al6 g ap0 line=L2 at*
  generalize al6 g recs line=L1 at*
  have ct5:=hon.trans (Only.of x3.below) (fun _ _ h=>h)
  have ex5:∀g',g'<w.heap.size→H3 g'=He g':=fun g' h=>(x3.same g' (fh4 h hon.b.size)).trans (dC1 g' h)
  have hle':=du7 ap0 L1 L2 hr3
  clear dC2 dC0 hfind d1 d2 d3 d hb dC1 hon ex3 x2 x3 hu1
  go_loopw [11,12,13,33] (fun out _ _ i wr=>∃(j:Nat) (acc:ByteArray),j≤L2.length∧i= .int .i64 j∧out= .string acc∧Hid (acc=aE1 ap0 L1 L2 j)∧Ext w3 H3 wr H3) (fun _ _ _ i _=>L2.length-(intOf i).toNat)
  case atStart=>exact⟨0,wOk,fh3 _,rfl,rfl,rfl,Ext.refl hw3⟩
  case round=>
   obtain⟨j,acc,hj,rfl,rfl,hacc,E5⟩:=hrel
   have hwr:=E5.holds
   by_cases hlk:j<L2.length
   ·obtain⟨y,hy⟩:=At.mk hlk
    obtain⟨x,hx⟩:=At.mk (xs:=L1) (k:=j) (by omega)
    obtain⟨rj,hrj⟩:=At.mk (xs:=ap0) (k:=j) (by omega)
    obtain⟨b2,o2,cc2,he2,hi2,hc2⟩:=hu2.int hy
    cases he2
    obtain⟨b1,o1,cc1,he1,hi1,hc1⟩:=ex4.int hx
    cases he1
    obtain⟨by',rfl⟩:=ch8.out _ _ hy
    have dj:=d5.ext E5
    obtain⟨ar,cr,hrv,_,_⟩:=dj.own.form
    subst hrv
    obtain⟨gr,rfl⟩:=dj.own.addr rfl (by have:=hrj.lt;omega)
    obtain⟨ds,⟨pj,hds,hij,hpj⟩,_,_,_,hcr,_⟩:=dj.own.as9 hrj
    have du9:=hcr 0 _ (by rw[hds];rfl)
    have hD8:wr.cell? ⟨D,8,none⟩=some (.slice (some ⟨gr,0,none⟩) ap0.length cr):=by simp[World.cell?,dj.row]
    simp only[Enc.sz,fh2]at du9
    have hx0:=hx.dB9
    have hy0:=hy.dB9
    have hr0:=hrj.du8
    have dV4:=hr3 rj hrj.mem
    have htl:=bm7 dV4.1 dV4.2
    have hal:=hle' j (by omega)
    rw[←hacc.out]at hal
    have hsucc:aE1 ap0 L1 L2 (j+1)=if bit by'=x then acc else acc++(((⟨#[32]⟩++G6 rj.ln)++⟨#[58]⟩)++ae4 by'):=by
     rw[hacc.out]
     show(if L2.getD j 0=L1.getD j 0 then _ else _++(((⟨#[32]⟩++G6 (ap0.getD j default).ln)++⟨#[58]⟩)++ae4 (decide (L2.getD j 0=1))))=_
     rw[hx0,hy0,hr0]
     have:decide (bit by'=1)=by':=by cases by'<;>rfl
     rw[this]
    have hit:=ap8 rj.ln (by unfold K8;omega) H3 dr3
    have hwd:=bm5 by'
    have hj0:(0:Int)≤(j:Int):=by omega
    have hj1:(j:Int)<(L2.length:Int):=by omega
    have hj2:(j:Int)<(L1.length:Int):=by omega
    have hj3:(j:Int)<(ap0.length:Int):=by omega
    have hok2:(ae4 by').size=2:=by cases by'<;>rfl
    replace hit:=fe6 hit
    replace hwd:=fe6 hwd
    clear dj hcr hds hpj ch8 hle' hy hx hrj hr3 hx0 hy0 hr0
    by_cases hyx:bit by'=x
    ·rw[if_pos hyx]at hsucc
     replace hsucc:=fe6 hsucc
     have hne:(bit by' != x)=false:=by rw[hyx];exact bne_self_eq_false x
     go_wp2
     go_roundw
     case rel=>exact⟨j+1,acc,hlk,by go_num,rfl,by show _=_;rw[hsucc.out],E5⟩
     case measure=>simp[intOf];omega
    ·rw[if_neg hyx]at hsucc
     replace hsucc:=fe6 hsucc
     have hne:(bit by' != x)=true:=bne_iff_ne.2 hyx
     generalize G6 rj.ln=u at*
     go_wp2_with(first|(go_at_call 149;refine(hit.out _ hwr).mono ?_;rintro e w6 ⟨rfl,hb6⟩)|(go_at_call 120;refine(hwd.out _).mono ?_;rintro e w7 ⟨rfl,rfl⟩))
     go_roundw
     case rel=>exact⟨j+1,_,hlk,by go_num,rfl,by show _=_;rw[hsucc.out],E5.step (hb6.mono E5.below.size) (hwr.below hb6)⟩
     case measure=>simp[intOf];omega
   ·have hje:j=L2.length:=by omega
    go_wp2_with fail
    go_ret
    rw[hS.out,←hS2.out,←hje,←hacc.out]
    exact⟨H3,rv,rfl,ct5.trans (Only.of E5.below) (fun _ _ h=>h),ex5,d5.ext E5⟩
end
section
open Go.RowKit
attribute [local go_sem] j4.drew j4.alloc j4.drewN WB.holds Oper.semAt_some
theorem bg4 (n e:Int) (w:World):Calls Tryz.prog 166 #[.int .i64 n,.int .i64 e] w fun r w'=>r= .returned (.tuple #[.iface 241 (.int .i64 n),.int .i64 e])∧w=w':=by
 go_enter Tryz.func166,Tryz.ntmps166
 go_wp2
 refine bodyPost_ret (results_tmp2 rfl _ _ _) rfl ?_
 exact⟨rfl,rfl⟩
theorem ct6 (a:Option Addr) (n c:Nat) (e:Int) (w:World):Calls Tryz.prog 168 #[.slice a n c,.int .i64 e] w fun r w'=>r= .returned (.tuple #[.iface 245 (.slice a n c),.int .i64 e])∧w=w':=by
 go_enter Tryz.func168,Tryz.ntmps168
 go_wp2
 refine bodyPost_ret (results_tmp2 rfl _ _ _) rfl ?_
 exact⟨rfl,rfl⟩
theorem cC4 (n:Int) (hn:K8 n) (H:j5) (d:Doors H) (w:World) (hw:j4 H w):Calls Tryz.prog 278 #[.int .i64 n] w (I1 w (.string (G6 n))):=by
 have hit:=fun(W:World) (hW:j4 H W)=>ap8 n hn H d W hW
 replace hit:=fe6 hit
 go_enter Tryz.func278,Tryz.ntmps278
 go_wp2_with(first|((go_at_call 149;refine(hit.out _ hw).mono ?_;rintro e w2 ⟨rfl,hb2⟩)))
 go_ret
 exact⟨rfl,hb2⟩
def bB2 (l:List Int):ByteArray:=if l=[]then bH2 else J9 (l.map G6)
theorem bF9 (l:List ByteArray) (m:Nat) (h:∀s∈l,s.size≤m):∀k,k≤l.length→(ah6 l k).length≤k*(m+1)
 |0,_=>by simp[ah6]
 |k+1,hk=>by
  have ih:=bF9 l m h k (by omega)
  have hs:=h (l.getD k ⟨#[]⟩) (by rw[ff3,fg0 (by omega)];exact List.getElem_mem _)
  have hb:(C8 (l.getD k ⟨#[]⟩)).length≤m:=by unfold C8;simpa using hs
  rw[aE8,ff4,ff4,Nat.add_mul]
  split<;>simp only[fg1,ff7]<;>omega
theorem bO3 (l:List ByteArray) (m:Nat) (h:∀s∈l,s.size≤m):(J9 l).size≤l.length*(m+1):=bF9 l m h _ (fh0 _)
theorem aC4 {n:Int} (h0:0≤n) (h1:n≤9999):(G6 n).size≤4:=by
 obtain⟨k,rfl⟩:=Int.eq_ofNat_of_zero_le h0
 show(Lib.itoa (k:Int)).length≤4
 rw[ay2];exact aI6 _ 3 (by omega)
theorem ct7 (v:Value) (l:List Int) (hl:l.length≤1000) (hb:∀x∈l,0≤x∧x≤9999) (H:j5) (d:Doors H) (w:World) (hw:j4 H w) (hv:Sl H v l):Calls Tryz.prog 279 #[v] w (I1 w (.string (bB2 l))):=by
 obtain⟨a,c,rfl,_,_⟩:=hv.form
 by_cases hn:l.length=0
 ·have e:bB2 l=bH2:=by unfold bB2;rw[if_pos (List.eq_nil_of_length_eq_zero hn)]
  have hz:((l.length:Int)==0)=true:=beq_iff_eq.2 (by omega)
  rw[e]
  clear e
  go_enter Tryz.func279,Tryz.ntmps279
  go_wp2
  go_ret
  exact⟨rfl,Below.refl _ _⟩
 ·have e:bB2 l=J9 (l.map G6):=by unfold bB2;rw[if_neg (fun h=>hn (by rw[h];rfl))]
  have hz:((l.length:Int)==0)=false:=beq_eq_false_iff_ne.2 (by omega)
  rw[e]
  clear e
  have hjz:(J9 (l.map G6)).size≤100000:=by
   have h1:=bO3 (l.map G6) 4 (fun s hs=>by
    obtain⟨x,hx,rfl⟩:=List.mem_map.1 hs
    exact aC4 (hb x hx).1 (hb x hx).2)
   rw[fg5]at h1
   omega
  have hjn:=fun(va:Value) (H1:j5) (W:World) (hW:j4 H1 W) (ha:Sl H1 va (l.map G6))=>bw5 va (l.map G6) (by rw[fg5];omega) hjz H1 W hW ha
  replace hjn:=fe6 hjn
  obtain⟨J,hJ⟩:∃J,Hid (J9 (l.map G6)=J):=⟨_,rfl⟩
  rw[hJ.out]
  have hit:=fun(n:Int) (hn:K8 n) (W:World) (hW:j4 H W)=>ap8 n hn H d W hW
  replace hit:=fe6 hit
  clear hjz
  go_enter Tryz.func279,Tryz.ntmps279
  go_wp2
  go_loopw [3,5,11] (fun v3 _ i wr=>∃k:Nat,k≤l.length∧i= .int .i64 (k:Int)∧Ext w H wr H∧Own H w.heap.size wr 9 v3 ((l.take k).map G6)) (fun _ _ i _=>l.length-(intOf i).toNat)
  case atStart=>exact⟨0,fh3 _,rfl,Ext.refl hw,Own.nil _ _ _ _⟩
  case round=>
   obtain⟨k,hk,rfl,E5,ho⟩:=hrel
   have hwr:=E5.holds
   have hk0:(0:Int)≤(k:Int):=by omega
   obtain⟨av,cv,rfl,_,_⟩:=ho.form
   by_cases hlk:k<l.length
   ·obtain⟨x,hx⟩:=At.mk hlk
    obtain⟨b,o,cc,he,hi,hc⟩:=hv.int hx
    cases he
    have hk1:(k:Int)<(l.length:Int):=by omega
    have hbx:=hb x hx.mem
    have hsz:(G6 x).size≤140737488355328:=fh1 (aC4 hbx.1 hbx.2) (by omega)
    have ex6:=fe6 (hit.out x hi)
    have hml:((l.take k).map G6).length≤1000:=by rw[fg5,fg6];omega
    have hsn:(l.take (k+1)).map G6=(l.take k).map G6++[G6 x]:=by rw[hx.take,List.map_append];rfl
    generalize G6 x=u at*
    generalize(l.take k).map G6=acc at*
    replace hsn:=fe6 hsn
    have hbS:Hid ((acc.length+1)*Enc.M4 ByteArray≤140737488355328):=by show _*16≤_;omega
    have aH8:Hid (acc.length+1≤9223372036854775807):=by show _≤_;omega
    go_wp2_with(first|((at_builtin;go_must (refine au7 (c:=1) (cs:=[.string u]) bi0 rfl _ _ rfl rfl o2 rfl ⟨rfl,hsz⟩ x2.holds hbS.out aH8.out x2.below.size ?_);intro v3 w3 o3 g3 hw3 _;have x3:=(x2.alloc _).grown g3 (fun k hk=>(o2.lt k hk).1) (fun k hk=>o2.free k hk)))|((go_at_call 149;refine(ex6.out _ hwr).mono ?_;rintro e w2 ⟨rfl,hb2⟩;have x2:=E5.step (hb2.mono E5.below.size) (hwr.below hb2);have o2:=ho.az2 hb2)))
    go_roundw
    case rel=>exact⟨k+1,hlk,by go_num,x3,by rw[hsn.out];exact o3⟩
    case measure=>simp[intOf];omega
   ·have hke:k=l.length:=by omega
    have hnk:¬(k:Int)<(l.length:Int):=by omega
    rw[hke,List.take_length]at ho
    obtain⟨H3,x3,I9,s3,_⟩:=ho.close E5
    have hw3:=x3.holds
    simp only[fg5,fg6]at s3 ⊢
    go_wp2_with(first|((go_at_call 148;refine(hjn.out _ H3 _ hw3 (by simpa [hke]using s3)).mono ?_;rintro e w2 ⟨rfl,hb2⟩)))
    go_ret
    rw[←hJ.out]
    exact⟨rfl,x3.below.trans (hb2.mono x3.below.size)⟩
end
section
def aQ7 (x:F7):Option F7:=if x.kind=1 then some x else none
def an3 (written:List F7) (i:Nat):Bool:=decide ((written.getD i E9).kind=1)
def ae9 (now:List F7) (i:Nat):Rec:=⟨(i:Int),aQ7 (now.getD i E9)⟩
def I6 (written now:List F7) (k:Nat):List Rec:=((List.range k).filter (an3 written)).map (ae9 now)
structure ac7 (written now:List F7):Prop where
 len:now.length=written.length
 no:∀i,(written.getD i E9).kind≠1→(now.getD i E9).kind≠1
theorem ab8 (written now:List F7) (k:Nat):I6 written now (k+1)=I6 written now k++(if an3 written k then [ae9 now k]else []):=by
 unfold I6
 rw[List.range_succ,List.filter_append,List.map_append]
 congr 1
 rw[List.filter_cons,List.filter_nil]
 split<;>rfl
theorem bO4 (t:D5) (i:Int) (x:F7):ac9 t ⟨i,aQ7 x⟩=M8 t x:=by
 unfold aQ7 M8
 by_cases h:x.kind=1
 ·rw[if_pos h,if_pos h];rfl
 ·rw[if_neg h,if_neg h];rfl
theorem bW4 (l:List F7) {k:Nat} (h:k<l.length):l.take (k+1)=l.take k++[l.getD k E9]:=by
 rw[List.take_succ,fg0 h,ff3,fg0 h];rfl
theorem bm8 {written now:List F7} (d:ac7 written now) (g:D5):∀k,k≤now.length→U8 g (I6 written now k)=Z5 g (now.take k)
 |0,_=>rfl
 |k+1,hk=>by
  rw[ab8,cc5,bm8 d g k (by omega),bW4 now (by omega),ck6]
  by_cases h:an3 written k=true
  ·rw[if_pos h]
   show(ac9 _ (ae9 now k)).1=_
   unfold ae9
   rw[bO4]
  ·rw[if_neg h]
   have h2:=d.no k (by unfold an3 at h;simpa using h)
   rw[bi9 h2];rfl
theorem bm9 (written now:List F7) (line:Int):∀k,ahead (I6 written now k) line=I6 written now (min line.toNat k)
 |0=>by rw[Nat.min_zero];rfl
 |k+1=>by
  have ih:=bm9 written now line k
  rw[ab8]
  unfold ahead at*
  rw[List.takeWhile_append,ih]
  by_cases h:k<line.toNat
  ·rw[Nat.min_eq_right (Nat.le_of_lt h),if_pos rfl,Nat.min_eq_right h,ab8]
   congr 1
   split
   ·rw[List.takeWhile_cons,if_pos (by unfold ae9;exact decide_eq_true (by show(k:Int)<line;omega))];rfl
   ·rfl
  ·rw[Nat.min_eq_left (by omega),Nat.min_eq_left (by omega)]
   by_cases e:(I6 written now line.toNat).length=(I6 written now k).length
   ·rw[if_pos e]
    have hpre:I6 written now k=I6 written now line.toNat:=by
     have h1:List.takeWhile (fun r=>decide (r.ln<line)) (I6 written now k)=I6 written now line.toNat:=by rw[ih,Nat.min_eq_left (by omega)]
     have h2:=List.takeWhile_prefix (l:=I6 written now k) (fun r=>decide (r.ln<line))
     rw[h1]at h2
     exact(h2.eq_of_length e).symm
    rw[hpre]
    split
    ·rw[List.takeWhile_cons,if_neg (by unfold ae9;simp;omega),List.append_nil]
    ·rw[List.takeWhile_nil,List.append_nil]
   ·rw[if_neg e]
theorem bw7 {written now:List F7} (d:ac7 written now) (g:D5) {line:Int} (h0:0≤line):U8 g (ahead (I6 written now now.length) line)=Z5 g (now.take line.toNat):=by
 rw[bm9,bm8 d g _ (Nat.min_le_right _ _)]
 by_cases h:line.toNat≤now.length
 ·rw[Nat.min_eq_left h]
 ·rw[Nat.min_eq_right (by omega),List.take_length,fg7 (by omega)]
end
section
theorem aU0 (g:D5) (now:List F7) {k:Nat} (hk:k<now.length):(O3 g now).getD k false=(M8 (Z5 g (now.take k)) (now.getD k E9)).2:=by
 have e:now=now.take k++(now[k]::now.drop (k+1)):=by rw[←List.drop_eq_getElem_cons hk,List.take_append_drop]
 have e2:now.getD k E9=now[k]:=by rw[ff3,fg0 hk];rfl
 rw[e2]
 conv=>lhs;rw[e,cz2]
 rw[ff3,List.getElem?_append_right (by rw[aE9,fg6];omega),aE9,fg6,Nat.min_eq_left (by omega),Nat.sub_self]
 rfl
theorem bw8 {written now:List F7} (d:ac7 written now) (g:D5):∀k,k≤now.length→U4 g (I6 written now k)=((List.range k).filter (an3 written)).map fun i=>(ae9 now i,(O3 g now).getD i false)
 |0,_=>rfl
 |k+1,hk=>by
  rw[ab8,bv8,bw8 d g k (by omega),bm8 d g k (by omega),List.range_succ,List.filter_append,List.map_append]
  congr 1
  rw[List.filter_cons,List.filter_nil]
  by_cases h:an3 written k=true
  ·rw[if_pos h,if_pos h]
   show [(ae9 now k,(ac9 _ (ae9 now k)).2)]=[(ae9 now k,_)]
   rw[aU0 g now (by omega)]
   unfold ae9
   rw[bO4]
  ·rw[if_neg h,if_neg h];rfl
theorem cd2 (written now:List F7) {line:Int} (h:(now.length:Int)≤line):ahead (I6 written now now.length) line=I6 written now now.length:=by
 rw[bm9,Nat.min_eq_right (by omega)]
theorem cd3 {written now:List F7} (d:ac7 written now) (g:D5) {line:Int} (h:(now.length:Int)≤line):al6 g (I6 written now now.length) line=((List.range now.length).filter (an3 written)).map fun i=>bit ((O3 g now).getD i false):=by
 unfold al6
 rw[cd2 written now h,bw8 d g _ (fh0 _),List.map_map]
 rfl
theorem dh4 {written now:List F7} (d:ac7 written now) (g:D5) {line:Int} (h:(now.length:Int)≤line):
 ((U4 g (ahead (I6 written now now.length) line)).filter fun x=>x.2).map (fun x=>match x.1.en with|some y=>y.text|none=>⟨#[]⟩)=bK9 g now:=by
 rw[cd2 written now h,bw8 d g _ (fh0 _)]
 unfold bK9 bf0
 rw[List.filter_map,List.map_map,List.filter_filter]
 have e:(List.range now.length).filter (fun a=>((fun x:Rec × Bool=>x.2) ∘ fun i=>(ae9 now i,(O3 g now).getD i false)) a&&an3 written a)=(List.range now.length).filter fun i=>(O3 g now).getD i false:=by
  refine List.filter_congr fun i hi=> ?_
  have hi':=List.mem_range.1 hi
  show((O3 g now).getD i false&&an3 written i)=_
  cases hb:(O3 g now).getD i false with
  |false=>rfl
  |true=>
   rw[aU0 g now hi']at hb
   have:an3 written i=true:=by
    by_cases hh:an3 written i=true
    ·exact hh
    ·have h2:=d.no i (by unfold an3 at hh;simpa using hh)
     rw[bi9 h2]at hb;cases hb
   rw[this];rfl
 rw[e]
 refine List.map_congr_left fun i hi=> ?_
 have hi2:=List.mem_filter.1 hi
 have hi':=List.mem_range.1 hi2.1
 have hb:=hi2.2
 rw[aU0 g now hi']at hb
 show(match (ae9 now i).en with|some y=>y.text|none=>⟨#[]⟩)=(now.getD i E9).text
 unfold ae9 aQ7
 by_cases hk:(now.getD i E9).kind=1
 ·rw[if_pos hk]
 ·rw[bi9 hk]at hb;cases hb
end
section
theorem bB3 (a b:ByteArray):C8 (a++b)=C8 a++C8 b:=by
 unfold C8
 simp[ByteArray.data_append]
theorem aH9 {α:Type} (l m:List α) (d:α) {k:Nat} (h:k<l.length):(l++m).getD k d=l.getD k d:=by
 rw[ff3,ff3,List.getElem?_append_left h]
theorem aC5 {α:Type} (l:List α) (x d:α):(l++[x]).getD l.length d=x:=by
 rw[ff3,List.getElem?_append_right (fh0 _),Nat.sub_self];rfl
theorem cd4 (R R':List Rec) (W W' V V':List Int):∀k,k≤R.length→k≤W.length→k≤V.length→aE1 (R++R') (W++W') (V++V') k=aE1 R W V k
 |0,_,_,_=>rfl
 |k+1,h1,h2,h3=>by
  show(if _ then _ else _)=(if _ then _ else _)
  rw[cd4 R R' W W' V V' k (by omega) (by omega) (by omega),aH9 R R' _ h1,aH9 W W' _ h2,aH9 V V' _ h3]
theorem dJ5 {a b:Bool}:bit a=bit b↔a=b:=by cases a<;>cases b<;>decide
theorem dJ6 (b:Bool):decide (bit b=1)=b:=by cases b<;>rfl
theorem dh5 (f:Nat→Rec) (wf vf:Nat→Bool):∀F:List Nat,C8 (aE1 (F.map f) (F.map fun i=>bit (wf i)) (F.map fun i=>bit (vf i)) F.length)=C8 wOk++F.flatMap fun i=>if vf i=wf i then []else [32]++C8 (G6 (f i).ln)++[58]++C8 (ae4 (vf i)):=
 ad1 (by show C8 wOk=C8 wOk++[];rw[List.append_nil]) fun F i ih=>by
  rw[List.map_append,List.map_append,List.map_append,List.flatMap_append,ff4,←List.append_assoc,←ih]
  show C8 (if(_++[bit (vf i)]).getD F.length 0=(_++[bit (wf i)]).getD F.length 0 then _ else _)=_
  have e1:(F.map (fun i=>bit (vf i))++[bit (vf i)]).getD F.length 0=bit (vf i):=by
   have:=aC5 (F.map fun i=>bit (vf i)) (bit (vf i)) 0
   rwa [fg5]at this
  have e2:(F.map (fun i=>bit (wf i))++[bit (wf i)]).getD F.length 0=bit (wf i):=by
   have:=aC5 (F.map fun i=>bit (wf i)) (bit (wf i)) 0
   rwa [fg5]at this
  have e3:(F.map f++[f i]).getD F.length default=f i:=by
   have:=aC5 (F.map f) (f i) default
   rwa [fg5]at this
  have e4:=cd4 (F.map f) [f i] (F.map fun i=>bit (wf i)) [bit (wf i)] (F.map fun i=>bit (vf i)) [bit (vf i)] F.length (by rw[fg5];exact fh0 _) (by rw[fg5];exact fh0 _) (by rw[fg5];exact fh0 _)
  simp only[List.map_cons,List.map_nil,e1,e2,e3,e4,dJ5,dJ6,List.flatMap_cons,List.flatMap_nil,List.append_nil]
  by_cases h:vf i=wf i
  ·rw[if_pos h,if_pos h,List.append_nil]
  ·rw[if_neg h,if_neg h,bB3,bB3,bB3,bB3]
   rfl
theorem aN1 {α:Type} (p:Nat→Bool) (f:Nat→List α) (h:∀i,p i=false→f i=[]):∀l:List Nat,(l.filter p).flatMap f=l.flatMap f
 |[]=>rfl
 |i::l=>by
  rw[List.filter_cons,List.flatMap_cons]
  cases hp:p i with
  |true=>rw[if_pos rfl,List.flatMap_cons,aN1 p f h l]
  |false=>rw[if_neg (by decide),h i hp,aN1 p f h l];rfl
theorem dh6 {written now now':List F7} (d:ac7 written now) (d':ac7 written now') (g:D5) {line:Int} (h:(now.length:Int)≤line):
 C8 (aE1 (I6 written now' now'.length) (al6 g (I6 written now now.length) line) (al6 g (I6 written now' now'.length) line) (al6 g (I6 written now' now'.length) line).length)=C8 (dy4 (O3 g now) (O3 g now')):=by
 have hl:now'.length=now.length:=d'.len.trans d.len.symm
 rw[cd3 d g h,cd3 d' g (by rw[hl];exact h),hl,fg5]
 show C8 (aE1 (((List.range now.length).filter (an3 written)).map (ae9 now')) _ _ _)=_
 rw[dh5 (ae9 now') (fun i=>(O3 g now).getD i false) (fun i=>(O3 g now').getD i false)]
 show _=C8 wOk++aP1 (O3 g now) (O3 g now') (O3 g now').length
 congr 1
 rw[aE9,hl]
 unfold aP1
 refine aN1 (an3 written) (fun i=>if(O3 g now').getD i false=(O3 g now).getD i false then []else [32]++C8 (G6 (i:Int))++[58]++C8 (ae4 ((O3 g now').getD i false))) (fun i hi=> ?_) _
 have hk:∀{n:List F7},ac7 written n→(O3 g n).getD i false=false:=fun{n} dn=>by
  by_cases hlt:i<n.length
  ·rw[aU0 g n hlt,bi9 (dn.no i (by unfold an3 at hi;simpa using hi))]
  ·rw[ff3,List.getElem?_eq_none (by rw[aE9];omega)];rfl
 rw[hk d,hk d'];rfl
end
section
def bw9 (written:List F7) (m:Nat):Nat:=((List.range m).filter (an3 written)).length
theorem aE3 (written now:List F7) (k:Nat):(I6 written now k).length=bw9 written k:=by unfold I6 bw9;rw[fg5]
theorem ba9 {written now:List F7} {m:Nat} (he:an3 written m=true):∀k,m<k→At (I6 written now k) (bw9 written m) (ae9 now m)
 |0,h=>by omega
 |k+1,h=>by
  rw[ab8]
  unfold At
  by_cases hk:m<k
  ·have ih:=ba9 (now:=now) he k hk
   rw[List.getElem?_append_left ih.lt];exact ih
  ·obtain rfl:m=k:=by omega
   rw[if_pos he,List.getElem?_append_right (by rw[aE3];exact fh0 _),aE3,Nat.sub_self];rfl
theorem cU1 (written now:List F7) {m k:Nat} (h:m≤k):I6 written now m<+:I6 written now k:=by
 induction h with
 |refl=>exact List.prefix_refl _
 |step _ ih=>
  refine ih.trans ?_
  rw[ab8]
  exact List.prefix_append _ _
theorem cC5 (written now:List F7) {m k:Nat} (h:m≤k):(I6 written now k).take (bw9 written m)=I6 written now m:=by
 obtain⟨t,ht⟩:=cU1 written now h
 rw[←ht,←aE3 written now m,List.take_left]
theorem aU1 {written now:List F7} {k:Nat} {r:Rec} (h:r∈I6 written now k):∃i,i<k∧an3 written i=true∧r=ae9 now i:=by
 unfold I6 at h
 obtain⟨i,hi,rfl⟩:=List.mem_map.1 h
 have:=List.mem_filter.1 hi
 exact⟨i,List.mem_range.1 this.1,this.2,rfl⟩
theorem bb4 {written:List F7} {n:Int} (h:at5 written n=true):∃m:Nat,n=(m:Int)∧m<written.length∧an3 written m=true:=by
 unfold at5 at h
 rw[fh9,fh9,decide_eq_true_eq,decide_eq_true_eq]at h
 obtain⟨⟨h1,h2⟩,h3⟩:=h
 obtain⟨m,rfl⟩:=Int.eq_ofNat_of_zero_le h1
 exact⟨m,rfl,by omega,by rw[fh8]at h3;exact h3⟩
theorem bn0 {written now:List F7} {n line:Int} (h:at5 written n=true) (hl:(written.length:Int)≤line):av8 (I6 written now written.length) n line=some (bw9 written n.toNat):=by
 obtain⟨m,rfl,hm,he⟩:=bb4 h
 rw[fh8]
 refine bN7 (ba9 he _ hm) ?_ ?_
 ·rw[cC5 _ _ (Nat.le_of_lt hm),List.any_eq_false]
  intro r hr
  obtain⟨i,hi,_,rfl⟩:=aU1 hr
  unfold aG7 ae9
  rw[fh9,decide_eq_true_eq,decide_eq_true_eq]
  rintro⟨h1,_⟩
  have h2:(i:Int)=(m:Int):=h1
  omega
 ·unfold aG7 ae9
  rw[fh9,decide_eq_true_eq,decide_eq_true_eq]
  exact⟨rfl,by omega⟩
theorem be4 {written now:List F7} {n line:Int} (h:at5 written n=false):av8 (I6 written now written.length) n line=none:=by
 refine bN6 ?_
 rw[List.any_eq_false]
 intro r hr
 obtain⟨i,hi,he,rfl⟩:=aU1 hr
 unfold aG7 ae9
 rw[fh9,decide_eq_true_eq]
 rintro⟨h1,_⟩
 have h2:(i:Int)=n:=h1
 subst h2
 unfold at5 at h
 rw[fh8]at h
 unfold an3 at he
 rw[he,decide_eq_true (by omega:(0:Int)≤(i:Int)),decide_eq_true (by omega:(i:Int)<(written.length:Int))]at h
 cases h
theorem aX6 (now:List F7) {m i:Nat} (y:F7) (h:i≠m):(now.set m y).getD i E9=now.getD i E9:=by
 rw[ff3,ff3,List.getElem?_set_ne (Ne.symm h)]
theorem ct8 (now:List F7) {m:Nat} (y:F7) (h:m<now.length):(now.set m y).getD m E9=y:=by
 rw[ff3,List.getElem?_set_self h];rfl
theorem bO5 (written now:List F7) {m:Nat} (y:F7):∀k,k≤m→I6 written (now.set m y) k=I6 written now k
 |0,_=>rfl
 |k+1,h=>by
  rw[ab8,ab8,bO5 written now y k (by omega)]
  have:ae9 (now.set m y) k=ae9 now k:=by unfold ae9;rw[aX6 now y (by omega)]
  rw[this]
theorem bO6 {written now:List F7} {m:Nat} (he:an3 written m=true) (hm:m<now.length) (y:F7):∀k,m<k→I6 written (now.set m y) k=(I6 written now k).set (bw9 written m) ⟨(m:Int),aQ7 y⟩
 |0,h=>by omega
 |k+1,h=>by
  rw[ab8,ab8]
  by_cases hk:m<k
  ·have ih:=bO6 he hm y k hk
   have hlt:=(ba9 (now:=now) he k hk).lt
   rw[ih,List.set_append_left _ _ hlt]
   have:ae9 (now.set m y) k=ae9 now k:=by unfold ae9;rw[aX6 now y (by omega)]
   rw[this]
  ·obtain rfl:m=k:=by omega
   rw[bO5 written now y m (fh0 _),if_pos he,if_pos he,List.set_append_right _ _ (by rw[aE3];exact fh0 _),aE3,Nat.sub_self]
   have:ae9 (now.set m y) m=⟨(m:Int),aQ7 y⟩:=by unfold ae9;rw[ct8 now y hm]
   rw[this];rfl
theorem bO7 {written now:List F7} (d:ac7 written now) {n line:Int} (h:at5 written n=true) (hl:(written.length:Int)≤line) (y:F7):aE2 (I6 written now written.length) n line (aQ7 y)=I6 written (now.set n.toNat y) written.length:=by
 unfold aE2
 rw[bn0 h hl]
 obtain⟨m,rfl,hm,he⟩:=bb4 h
 rw[fh8]
 exact(bO6 he (by rw[d.len];exact hm) y _ hm).symm
end
section
theorem dv0 (written:List F7) (x:F7) {i:Nat} (h:i<written.length):an3 (written++[x]) i=an3 written i:=by unfold an3;rw[aH9 written [x] E9 h]
theorem ct9 (written:List F7) (x:F7):an3 (written++[x]) written.length=decide (x.kind=1):=by unfold an3;rw[aC5]
theorem bn1 (written now:List F7) (x y:F7) (hl:now.length=written.length):∀k,k≤written.length→I6 (written++[x]) (now++[y]) k=I6 written now k
 |0,_=>rfl
 |k+1,h=>by
  rw[ab8,ab8,bn1 written now x y hl k (by omega),dv0 written x (by omega)]
  have:ae9 (now++[y]) k=ae9 now k:=by unfold ae9;rw[aH9 now [y] E9 (by omega)]
  rw[this]
theorem cU2 {written now:List F7} (d:ac7 written now) {x:F7} (hx:x.kind=1):I6 (written++[x]) (now++[x]) (written.length+1)=I6 written now written.length++[⟨(written.length:Int),some x⟩]:=by
 rw[ab8,bn1 written now x x d.len _ (fh0 _),ct9,decide_eq_true hx,if_pos rfl]
 congr 2
 unfold ae9 aQ7
 rw[←d.len,aC5,if_pos hx]
theorem bO8 {written now:List F7} (hl:now.length=written.length) {x y:F7} (hx:x.kind≠1):I6 (written++[x]) (now++[y]) (written.length+1)=I6 written now written.length:=by
 rw[ab8,bn1 written now x y hl _ (fh0 _),ct9,decide_eq_false hx,if_neg (by decide),List.append_nil]
theorem ac7.set {written now:List F7} (d:ac7 written now) {n:Int} (h:at5 written n=true) (y:F7):ac7 written (now.set n.toNat y):=by
 obtain⟨m,rfl,hm,he⟩:=bb4 h
 rw[fh8]
 refine⟨by rw[List.length_set];exact d.len,fun i hi=> ?_⟩
 by_cases e:i=m
 ·subst e;exact absurd (of_decide_eq_true he) hi
 ·rw[aX6 now y e];exact d.no i hi
theorem ac7.snoc {written now:List F7} (d:ac7 written now) {x y:F7} (hy:x.kind≠1→y.kind≠1):ac7 (written++[x]) (now++[y]):=by
 refine⟨by rw[ff4,ff4,d.len];rfl,fun i hi=> ?_⟩
 by_cases h:i<written.length
 ·rw[aH9 written [x] E9 h]at hi
  rw[aH9 now [y] E9 (by rw[d.len];exact h)]
  exact d.no i hi
 ·by_cases e:i=written.length
  ·subst e
   rw[aC5]at hi
   rw[←d.len,aC5]
   exact hy hi
  ·rw[ff3,List.getElem?_eq_none (by rw[ff4,d.len,ff7];omega)]
   exact(by decide:E9.kind≠1)
theorem cU3:ac7 [] []:=⟨rfl,fun i _=>by rw[List.getD_nil];exact(by decide:E9.kind≠1)⟩
theorem cC6 {written now:List F7} (d:ac7 written now) (x:F7):ac7 (written++[x]) (ak4 written now x):=by
 unfold ak4
 by_cases h1:x.kind=1
 ·rw[if_pos h1];exact d.snoc (fun h=>h)
 ·rw[if_neg h1]
  by_cases h2:(x.kind=5∨x.kind=6)∧at5 written x.of=true
  ·rw[if_pos h2]
   exact ac7.snoc (d.set h2.2 _) (fun _=>by decide)
  ·rw[if_neg h2]
   exact d.snoc (fun _=>by decide)
theorem aU2 (t:D5):∀l:List ByteArray,ac7 (M6 t l).written (M6 t l).now:=ad1 cU3 fun l s ih=>by
 rw[aP2]
 exact cC6 ih _
theorem dh7 {written now:List F7} (d:ac7 written now) (x:F7):I6 (written++[x]) (ak4 written now x) (written.length+1)=
 if x.kind=1 then I6 written now written.length++[⟨(written.length:Int),some x⟩]
 else if(x.kind=5∨x.kind=6)∧at5 written x.of=true then I6 written (ao6 now x) written.length else I6 written now written.length:=by
 unfold ak4
 by_cases h1:x.kind=1
 ·rw[if_pos h1,if_pos h1];exact cU2 d h1
 ·rw[if_neg h1,if_neg h1]
  by_cases h2:(x.kind=5∨x.kind=6)∧at5 written x.of=true
  ·rw[if_pos h2,if_pos h2]
   exact bO8 (by unfold ao6;rw[List.length_set];exact d.len) h1
  ·rw[if_neg h2,if_neg h2];exact bO8 d.len h1
end
section
def bg5 (recs:List Rec) (n line:Int):ByteArray:=match av8 recs n line with
 |none=>at0
 |some k=>match (recs.getD k default).en with
  |none=>au8
  |some x=>x.text
def cU4 (x:F7):Option F7:=if x.kind=5 then some (av1 x)else none
def doR (recs:List Rec) (line:Int) (x:F7):List Rec:=
 if x.kind=1 then recs++[⟨line,some x⟩]else if x.kind=5∨x.kind=6 then aE2 recs x.of line (cU4 x)else recs
def doS (g:D5) (recs:List Rec) (line:Int) (x:F7):ByteArray:=
 if x.kind=0 then ai7
 else if x.kind=1 then ae4 (changed (U8 g (ahead recs line)) x.word x.nums).2
 else if x.kind=2 then U6 (U8 g (ahead recs line)) x.word x.nums
 else if x.kind=3 then(if 0≤x.of∧x.of≤line then U6 (U8 g (ahead recs x.of)) x.word x.nums else at0)
 else if x.kind=4 then bg5 recs x.of line
 else bm6 g recs x.of line (cU4 x)
theorem cH9 (x:F7):cU4 x=aQ7 (av1 x):=by
 unfold cU4 aQ7 av1
 by_cases h:x.kind=5
 ·rw[if_pos h,if_pos h];rfl
 ·rw[if_neg h,if_neg h];rfl
theorem bJ1 {written:List F7} {n:Int}:at5 written n=true∨at5 written n=false:=by cases at5 written n<;>simp
theorem cu0 {written now:List F7} (d:ac7 written now) (g:D5) (x:F7):doS g (I6 written now written.length) (written.length:Int) x=ap9 g written now x:=by
 have hlen:=d.len
 have dC3:U8 g (ahead (I6 written now written.length) (written.length:Int))=Z5 g now:=by
  rw[←hlen,bw7 d g (by omega),fh8,List.take_length]
 unfold doS ap9
 by_cases h0:x.kind=0
 ·rw[if_pos h0,if_pos h0]
 rw[if_neg h0,if_neg h0]
 by_cases h1:x.kind=1
 ·rw[if_pos h1,if_pos h1,dC3]
 rw[if_neg h1,if_neg h1]
 by_cases h2:x.kind=2
 ·rw[if_pos h2,if_pos h2,dC3]
 rw[if_neg h2,if_neg h2]
 by_cases h3:x.kind=3
 ·rw[if_pos h3,if_pos h3,hlen]
  by_cases ho:0≤x.of∧x.of≤(written.length:Int)
  ·rw[if_pos ho,if_pos ho]
   have:=bw7 d g ho.1
   rw[hlen]at this
   rw[this]
  ·rw[if_neg ho,if_neg ho]
 rw[if_neg h3,if_neg h3]
 by_cases h4:x.kind=4
 ·rw[if_pos h4,if_pos h4]
  unfold bg5
  rcases bJ1 (written:=written) (n:=x.of)with he|he
  ·rw[bn0 he (Int.le_refl _),if_pos he]
   obtain⟨m,hm,hlt,heb⟩:=bb4 he
   rw[hm,fh8]
   have hat:=(ba9 (now:=now) heb written.length hlt).du8
   show(match ((I6 written now written.length).getD (bw9 written m) default).en with|none=>au8|some x=>x.text)=_
   rw[hat]
   unfold ae9 aQ7
   by_cases hk:(now.getD m E9).kind=1
   ·simp only[if_pos hk]
   ·simp only[if_neg hk]
  ·rw[be4 he,if_neg (by rw[he];decide)]
 rw[if_neg h4,if_neg h4]
 unfold bm6
 rcases bJ1 (written:=written) (n:=x.of)with he|he
 ·rw[bn0 he (Int.le_refl _),if_pos he]
  show cU0 g _ (aE2 _ _ _ _) _=_
  rw[cH9,bO7 d he (Int.le_refl _)]
  have d':ac7 written (now.set x.of.toNat (av1 x)):=d.set he _
  have key:=dh6 d d' g (line:=(written.length:Int)) (by rw[hlen];exact Int.le_refl _)
  rw[d'.len,hlen]at key
  exact ah1 key
 ·rw[be4 he,if_neg (by rw[he];decide)]
theorem dv1 {written now:List F7} (d:ac7 written now) (x:F7):doR (I6 written now written.length) (written.length:Int) x=I6 (written++[x]) (ak4 written now x) (written.length+1):=by
 rw[dh7 d x]
 unfold doR
 by_cases h1:x.kind=1
 ·rw[if_pos h1,if_pos h1]
 rw[if_neg h1,if_neg h1]
 by_cases h5:x.kind=5∨x.kind=6
 ·rw[if_pos h5]
  rcases bJ1 (written:=written) (n:=x.of)with he|he
  ·rw[if_pos ⟨h5,he⟩,cH9,bO7 d he (Int.le_refl _)]
   rfl
  ·rw[if_neg (fun h=>by rw[he]at h;exact absurd h.2 (by decide))]
   unfold aE2
   rw[be4 he]
 ·rw[if_neg h5,if_neg (fun h=>h5 h.1)]
theorem aX7 {s:ByteArray} (h:(A7 (C9 s)).kind≠0):A8 s=A7 (C9 s):=by
 unfold A8 ac8
 rw[if_pos h]
theorem bP0 {s:ByteArray} {a:ByteArray} (hs:C9 s=[a]) (h:(A7 (C9 s)).kind=0):A8 s=E9:=by
 rw[hs]at h
 unfold A8
 rw[hs]
 unfold ac8
 rw[if_neg (by rw[h];decide)]
theorem bP1 {s:ByteArray} {a b:ByteArray} {q:List ByteArray} (hs:C9 s=a::b::q) (h:(A7 (C9 s)).kind=0) (hn:O5 b=none):A8 s=E9:=by
 rw[hs]at h
 unfold A8
 rw[hs]
 unfold ac8
 rw[if_neg (by rw[h];decide)]
 simp only[hn]
def am6 (n:Int) (a:ByteArray) (q:List ByteArray):F7:=
 if a=Z6 then(if q=[]then{E9 with kind:=4,of:=n}else E9)
 else if a=wAt then(if q≠[]∧(A7 q).kind=2 then{A7 q with kind:=3,of:=n}else E9)
 else if a=ad5 then
  (match q with
  |is::e=>if e=[]∨is≠wIs then E9 else if e=[au8]then{E9 with kind:=6,of:=n}else if(A7 e).kind=1 then{A7 e with kind:=5,of:=n}else E9
  |[]=>E9)
 else E9
theorem bG0 {s:ByteArray} {a b:ByteArray} {q:List ByteArray} {n:Int} (hs:C9 s=a::b::q) (h:(A7 (C9 s)).kind=0) (hn:O5 b=some n):A8 s=am6 n a q:=by
 rw[hs]at h
 unfold A8
 rw[hs]
 unfold ac8
 rw[if_neg (by rw[h];decide)]
 simp only[hn]
 rfl
end
section
open Go.RowKit
attribute [local go_sem] j4.drew j4.alloc j4.drewN WB.holds Oper.semAt_some
def eg3 (H:j5) (ans:Value) (s:ByteArray):Prop:=
 (∃n,ans= .iface 241 (.int .i64 n)∧K8 n∧s=G6 n)∨
 (∃v l,ans= .iface 245 v∧Sl H v l∧l.length≤1000∧(∀x∈l,0≤x∧x≤9999)∧s=bB2 l)
def aN2 (t:D5) (w:ByteArray) (a:List Int) (u:Value) (H:j5):Prop:=
 ∃ans e,u= .tuple #[ans,.int .i64 e]∧(e=0→eg3 H ans (U6 t w a))∧(e≠0→U6 t w a=if e=3 then dy3 else at0)
def cu1 (H:j5) (fv:Value) (w:ByteArray) (a:List Int):Prop:=
 ∃f cap,fv= .func (.func f) #[] cap∧(∀args W,(callFunc f args).run Tryz.prog W= .ok (.enter f args) W)∧
  ∀H1,D8 H H1→∀(W:World) (vm vb vt um uo ua:Value) (t:D5),j4 H1 W→Twn H1 vm vb vt um uo ua t→F6 t=true→
   Calls Tryz.prog f (#[ah0 vm vb vt um uo ua t]++cap) W (Post W H1 (aN2 t w a))
theorem cu1.mono {H H':j5} (k:D8 H H') {fv:Value} {w:ByteArray} {a:List Int} (h:cu1 H fv w a):cu1 H' fv w a:=by
 obtain⟨f,cap,e,h1,h2⟩:=h
 exact⟨f,cap,e,h1,fun H1 hle=>h2 H1 (k.trans hle)⟩
theorem aX8 {t:D5} {w:ByteArray} {a:List Int} {n e:Int} {H:j5} (h:U6 t w a=at1 n e) (hn:0≤n∧n≤9999):aN2 t w a (.tuple #[.iface 241 (.int .i64 n),.int .i64 e]) H:=by
 refine⟨_,e,rfl,fun h0=> .inl ⟨n,rfl,⟨by omega,by omega⟩, ?_⟩,fun h0=> ?_⟩
 ·rw[h];unfold at1;rw[if_pos h0]
 ·rw[h];unfold at1;rw[if_neg h0]
theorem bx3 {t:D5} {w:ByteArray} {a:List Int} {l:List Int} {v:Value} {e:Int} {H:j5} (h:U6 t w a=as3 l e) (hs:Sl H v l) (hl:l.length≤1000∧∀x∈l,0≤x∧x≤9999):aN2 t w a (.tuple #[.iface 245 v,.int .i64 e]) H:=by
 refine⟨_,e,rfl,fun h0=> .inr ⟨v,l,rfl,hs,hl.1,hl.2, ?_⟩,fun h0=> ?_⟩
 ·rw[h];unfold as3;rw[if_neg (by omega)];rfl
 ·rw[h];unfold as3;rw[if_pos h0];unfold at1;rw[if_neg h0]
theorem eg4 {H:j5} {g:Nat} {lo hi:Int} {T:TypeId} (hp:H g=some (.cells #[.int .i64 lo,.int .i64 hi] T (0,0))) (h1:K8 lo) (h2:K8 hi):Sl H (.slice (some ⟨g,0,none⟩) 2 2) [lo,hi]:=by
 refine⟨some ⟨g,0,none⟩,2,rfl,fh0 _,by omega,by show 2*8≤140737488355328;omega,.inr ⟨g,0,_,_,_,rfl,hp,by show 0+2*1≤2;omega, ?_⟩⟩
 exact af6.2 ⟨rfl,fun z hz=>by
  rcases List.mem_cons.1 hz with rfl|hz
  ·exact h1
  ·rw[List.mem_singleton.1 hz];exact h2⟩
theorem bG1 {w W:World} {g:Nat} {H H1:j5} {t:D5} {x lo hi er:Int} (x4:Ext w H W H1) (hg:W.heap.size=g) (han:U6 t aN6 [x]=as3 [lo,hi] er) (hbd:(0≤lo∧lo≤9999)∧0≤hi∧hi≤9999):
 Post w H (aN2 t aN6 [x]) (.returned (.tuple #[.iface 245 (.slice (some ⟨g,0,none⟩) 2 2),.int .i64 er])) (W.alloc (.cells #[.int .i64 lo,.int .i64 hi] 3)):=by
 subst hg
 obtain⟨x5,_,hp⟩:=x4.newF #[.int .i64 lo,.int .i64 hi] 3
 refine⟨_,_,rfl,x5,bx3 han (eg4 hp ⟨by omega,by omega⟩ ⟨by omega,by omega⟩) ⟨by show 2≤1000;omega,fun z hz=> ?_⟩⟩
 rcases List.mem_cons.1 hz with rfl|hz
 ·exact hbd.1
 ·rw[List.mem_singleton.1 hz];exact hbd.2
theorem cg3 (H:j5) (w:World) (vm vb vt um uo ua:Value) (t:D5) (a:List Int) (hw:j4 H w) (ht:Twn H vm vb vt um uo ua t):
 Calls Tryz.prog 165 #[ah0 vm vb vt um uo ua t] w (Post w H (aN2 t aI3 a)):=by
 have han:U6 t aI3 a=at1 (am2 t.h) (aq2 (valid t.h)):=rfl
 have hbd:=cc9 t.h
 have hc:=fun(H1:j5) (W:World) (hW:j4 H1 W) (hle:D8 H H1)=>cA4 vm vb vt t.h H1 W hW (ht.h.mono hle)
 replace hc:=fe6 hc
 replace han:=fe6 han
 replace ht:=fe6 ht
 go_enter Tryz.func165,Tryz.ntmps165
 go_wp2_with(first|(refine af8 rfl _ rfl (Ext.refl hw) ?_;intro B w1 H1 hle hx hB hBw;obtain⟨hc0,hc1,hc2,hc3,hc4,O8,hc6,O9⟩:=I5 hB;clear hB hw;have hw1:=hx.holds)|((go_at_call 33;refine(hc.out _ _ hw1 hle).mono ?_;rintro e w2 ⟨rfl,hb2⟩))|((go_at_call 166;refine(bg4 _ _ _).mono ?_;rintro e w3 ⟨rfl,rfl⟩)))
 refine bodyPost_ret (results_tmp2 rfl _ _ _) rfl ?_
 exact⟨_,H1,rfl,hx.step (hb2.mono hx.below.size) (hw1.below hb2),aX8 han.out hbd⟩
theorem cu2 (H:j5) (w:World) (vm vb vt um uo ua:Value) (t:D5) (a:List Int) (hw:j4 H w) (ht:Twn H vm vb vt um uo ua t):
 Calls Tryz.prog 170 #[ah0 vm vb vt um uo ua t] w (Post w H (aN2 t aO9 a)):=by
 have han:U6 t aO9 a=at1 (bi4 t.h) (bi3 t.h):=rfl
 have hbd:=bO1 t.h
 have hc:=fun(H1:j5) (W:World) (hW:j4 H1 W) (hle:D8 H H1)=>de0 vm vb vt t.h H1 W hW (ht.h.mono hle)
 rw[(ba5 t.h).1,(ba5 t.h).2]at hc
 rw[(ba5 t.h).1]at hbd
 replace hc:=fe6 hc
 replace han:=fe6 han
 replace ht:=fe6 ht
 go_enter Tryz.func170,Tryz.ntmps170
 go_wp2_with(first|(refine af8 rfl _ rfl (Ext.refl hw) ?_;intro B w1 H1 hle hx hB hBw;obtain⟨hc0,hc1,hc2,hc3,hc4,O8,hc6,O9⟩:=I5 hB;clear hB hw;have hw1:=hx.holds)|((go_at_call 37;refine(hc.out _ _ hw1 hle).mono ?_;rintro e w2 ⟨rfl,hb2⟩))|((go_at_call 166;refine(bg4 _ _ _).mono ?_;rintro e w3 ⟨rfl,rfl⟩)))
 refine bodyPost_ret (results_tmp2 rfl _ _ _) rfl ?_
 exact⟨_,H1,rfl,hx.step (hb2.mono hx.below.size) (hw1.below hb2),aX8 han.out hbd⟩
theorem cU5 (H:j5) (w:World) (vm vb vt um uo ua:Value) (t:D5) (a:List Int) (hw:j4 H w) (ht:Twn H vm vb vt um uo ua t):
 Calls Tryz.prog 171 #[ah0 vm vb vt um uo ua t] w (Post w H (aN2 t bs8 a)):=by
 have han:U6 t bs8 a=at1 (newR t.s) (aa9 t.s true):=rfl
 have hbd:=cH3 t.s
 have hc:=fun(H1:j5) (W:World) (hW:j4 H1 W) (hle:D8 H H1)=>du3 um uo ua t.s H1 W hW (ht.s.mono hle)
 replace hc:=fe6 hc
 replace han:=fe6 han
 replace ht:=fe6 ht
 go_enter Tryz.func171,Tryz.ntmps171
 go_wp2_with(first|(refine af8 rfl _ rfl (Ext.refl hw) ?_;intro B w1 H1 hle hx hB hBw;obtain⟨hc0,hc1,hc2,hc3,hc4,O8,hc6,O9⟩:=I5 hB;clear hB hw;have hw1:=hx.holds)|((go_at_call 38;refine(hc.out _ _ hw1 hle).mono ?_;rintro e w2 ⟨rfl,hb2⟩))|((go_at_call 166;refine(bg4 _ _ _).mono ?_;rintro e w3 ⟨rfl,rfl⟩)))
 refine bodyPost_ret (results_tmp2 rfl _ _ _) rfl ?_
 exact⟨_,H1,rfl,hx.step (hb2.mono hx.below.size) (hw1.below hb2),aX8 han.out hbd⟩
theorem cC7 (H:j5) (w:World) (vm vb vt um uo ua:Value) (t:D5) (a:List Int) (hw:j4 H w) (ht:Twn H vm vb vt um uo ua t):
 Calls Tryz.prog 174 #[ah0 vm vb vt um uo ua t] w (Post w H (aN2 t bi1 a)):=by
 have han:U6 t bi1 a=at1 (aS6 t.s) (aS5 t.s):=rfl
 have hbd:=ct1 t.s
 have hc:=fun(H1:j5) (W:World) (hW:j4 H1 W) (hle:D8 H H1)=>dg8 um uo ua t.s H1 W hW (ht.s.mono hle)
 replace hc:=fe6 hc
 replace han:=fe6 han
 replace ht:=fe6 ht
 go_enter Tryz.func174,Tryz.ntmps174
 go_wp2_with(first|(refine af8 rfl _ rfl (Ext.refl hw) ?_;intro B w1 H1 hle hx hB hBw;obtain⟨hc0,hc1,hc2,hc3,hc4,O8,hc6,O9⟩:=I5 hB;clear hB hw;have hw1:=hx.holds)|((go_at_call 40;refine(hc.out _ _ hw1 hle).mono ?_;rintro e w2 ⟨rfl,hb2⟩))|((go_at_call 166;refine(bg4 _ _ _).mono ?_;rintro e w3 ⟨rfl,rfl⟩)))
 refine bodyPost_ret (results_tmp2 rfl _ _ _) rfl ?_
 exact⟨_,H1,rfl,hx.step (hb2.mono hx.below.size) (hw1.below hb2),aX8 han.out hbd⟩
theorem cC8 (H:j5) (w:World) (vm vb vt um uo ua:Value) (t:D5) (a:List Int) (hw:j4 H w) (ht:Twn H vm vb vt um uo ua t):
 Calls Tryz.prog 167 #[ah0 vm vb vt um uo ua t] w (Post w H (aN2 t aZ4 a)):=by
 have han:U6 t aZ4 a=as3 (ch2 t.h) (aq2 (valid t.h)):=rfl
 have hbd:=ct2 t.h
 have hc:=fun(H1:j5) (W:World) (hW:j4 H1 W) (hle:D8 H H1)=>dd9 vm vb vt t.h H1 W hW (ht.h.mono hle)
 rw[cq5]at hc hbd
 replace hc:=fe6 hc
 replace han:=fe6 han
 replace ht:=fe6 ht
 replace hbd:=fe6 hbd
 go_enter Tryz.func167,Tryz.ntmps167
 go_wp2_with(first|(refine af8 rfl _ rfl (Ext.refl hw) ?_;intro B w1 H1 hle hx hB hBw;obtain⟨hc0,hc1,hc2,hc3,hc4,O8,hc6,O9⟩:=I5 hB;clear hB hw;have hw1:=hx.holds)|((go_at_call 35;refine(hc.out _ _ hw1 hle).mono ?_;rintro e w2 ⟨_,H2,rfl,x2,v2,rfl,s2⟩;obtain⟨a2,c2,rfl,_,_⟩:=s2.form))|((go_at_call 168;refine(ct6 _ _ _ _ _).mono ?_;rintro e w3 ⟨rfl,rfl⟩)))
 refine bodyPost_ret (results_tmp2 rfl _ _ _) rfl ?_
 exact⟨_,H2,rfl,hx.trans x2,bx3 han.out s2 hbd.out⟩
theorem cg5 (H:j5) (w:World) (vm vb vt um uo ua:Value) (t:D5) (a:List Int) (hw:j4 H w) (ht:Twn H vm vb vt um uo ua t):
 Calls Tryz.prog 172 #[ah0 vm vb vt um uo ua t] w (Post w H (aN2 t aI4 a)):=by
 have han:U6 t aI4 a=as3 (az7 t.s) (ax6 (Y5 t.s)):=rfl
 have hbd:=bO2 t.s
 have hc:=fun(H1:j5) (W:World) (hW:j4 H1 W) (hle:D8 H H1)=>cB9 um uo ua t.s H1 W hW (ht.s.mono hle)
 replace hc:=fe6 hc
 replace han:=fe6 han
 replace ht:=fe6 ht
 replace hbd:=fe6 hbd
 go_enter Tryz.func172,Tryz.ntmps172
 go_wp2_with(first|(refine af8 rfl _ rfl (Ext.refl hw) ?_;intro B w1 H1 hle hx hB hBw;obtain⟨hc0,hc1,hc2,hc3,hc4,O8,hc6,O9⟩:=I5 hB;clear hB hw;have hw1:=hx.holds)|((go_at_call 39;refine(hc.out _ _ hw1 hle).mono ?_;rintro e w2 ⟨_,H2,rfl,x2,v2,rfl,s2⟩;obtain⟨a2,c2,rfl,_,_⟩:=s2.form))|((go_at_call 168;refine(ct6 _ _ _ _ _).mono ?_;rintro e w3 ⟨rfl,rfl⟩)))
 refine bodyPost_ret (results_tmp2 rfl _ _ _) rfl ?_
 exact⟨_,H2,rfl,hx.trans x2,bx3 han.out s2 hbd.out⟩
theorem cC9 (H:j5) (w:World) (vm vb vt um uo ua:Value) (t:D5) (a:List Int) (hw:j4 H w) (ht:Twn H vm vb vt um uo ua t) (v:F6 t=true):
 Calls Tryz.prog 164 #[ah0 vm vb vt um uo ua t] w (Post w H (aN2 t aZ3 a)):=by
 have hv:valid t.h=true:=by unfold F6 at v;rw[fh9]at v;exact v.1
 have he:aq2 (valid t.h)=0:=by rw[hv];rfl
 have hc:=fun(H1:j5) (W:World) (hW:j4 H1 W) (hle:D8 H H1)=>de5 vm vb vt t.h H1 W hW (ht.h.mono hle)
 have han:U6 t aZ3 a=G6 (if aT7 t.h then 1 else 0):=by rw[ds7];rfl
 rw[he]at hc
 cases hs:aT7 t.h
 all_goals
  rw[hs]at hc han
  replace hc:=fe6 hc
  have cU6:=han
  simp only[if_true,Bool.false_eq_true,if_false]at cU6
  replace cU6:=fe6 cU6
  clear hs han
  replace ht:=fe6 ht
  go_enter Tryz.func164,Tryz.ntmps164
  go_wp2_with(first|(refine af8 rfl _ rfl (Ext.refl hw) ?_;intro B w1 H1 hle hx hB hBw;obtain⟨hc0,hc1,hc2,hc3,hc4,O8,hc6,O9⟩:=I5 hB;clear hB hw;have hw1:=hx.holds)|((go_at_call 30;refine(hc.out _ _ hw1 hle).mono ?_;rintro e w2 ⟨rfl,hb2⟩)))
  refine bodyPost_ret (results_tmp2 rfl _ _ _) rfl ?_
  exact⟨_,H1,rfl,hx.step (hb2.mono hx.below.size) (hw1.below hb2),_,0,rfl,fun _=> .inl ⟨_,rfl,⟨by omega,by omega⟩,cU6.out⟩,fun h=>absurd rfl h⟩
theorem cD0 (H:j5) (w:World) (vm vb vt um uo ua:Value) (t:D5) (A:Nat) (x:Int) (hA:Cap H A [x]) (hw:j4 H w) (ht:Twn H vm vb vt um uo ua t):
 Calls Tryz.prog 169 #[ah0 vm vb vt um uo ua t,.pointer (some ⟨A,0,none⟩)] w (Post w H (aN2 t aZ5 [x])):=by
 have han:U6 t aZ5 [x]=at1 (bz8 t.h x) (bz7 t.h x):=rfl
 have hbd:=cc8 t.h x
 obtain⟨hI,b,o,c,q0,q1⟩:=hA.one
 have hc:=fun(H1:j5) (W:World) (hW:j4 H1 W) (hle:D8 H H1)=>dq8 vm vb vt t.h x hI H1 W hW (ht.h.mono hle)
 rw[(bl5 t.h x).1,(bl5 t.h x).2]at hc
 rw[(bl5 t.h x).1]at hbd
 replace hc:=fe6 hc
 replace han:=fe6 han
 replace ht:=fe6 ht
 replace hbd:=fe6 hbd
 go_enter Tryz.func169,Tryz.ntmps169
 go_upto_region 1 with(refine af8 rfl _ rfl (Ext.refl hw) ?_;intro B w1 H1 hle hx hB hBw;obtain⟨hc0,hc1,hc2,hc3,hc4,O8,hc6,O9⟩:=I5 hB;clear hB hw;have hw1:=hx.holds)
 replace q0:=lift hle q0
 replace q1:=lift hle q1
 refine E8 H1 (by kernel_rfl) (by kernel_rfl) hw1 (fun hne=> ?_)
 repeat go_big_quiet_step((first|(go_at_call 36;exact Calls.am7 (hc.out _ _ (WB.holds _) hle))|(go_at_call 166;exact Calls.dM1 (bg4 _ _ _))))
 refine wpQuiet_nil ?_
 rintro⟨w2,hw2,hb2⟩
 clear hne
 go_wp2
 refine bodyPost_ret (results_tmp2 rfl _ _ _) rfl ?_
 exact⟨_,H1,rfl,hx.step (hb2.mono hx.below.size) hw2,aX8 han.out hbd.out⟩
theorem cD1 (H:j5) (w:World) (vm vb vt um uo ua:Value) (t:D5) (A:Nat) (x:Int) (hA:Cap H A [x]) (hw:j4 H w) (ht:Twn H vm vb vt um uo ua t):
 Calls Tryz.prog 173 #[ah0 vm vb vt um uo ua t,.pointer (some ⟨A,0,none⟩)] w (Post w H (aN2 t aN6 [x])):=by
 have han:U6 t aN6 [x]=as3 [az0 t.s x,az1 t.s x] (aa9 t.s (as8 t.s x)):=rfl
 obtain⟨hI,b,o,c,q0,q1⟩:=hA.one
 have hbd:=bW1 t.s x
 have hc:=fun(H1:j5) (W:World) (hW:j4 H1 W) (hle:D8 H H1)=>dg4 um uo ua t.s x hI H1 W hW (ht.s.mono hle)
 generalize az0 t.s x=lo at*
 generalize az1 t.s x=hi at*
 generalize aa9 t.s (as8 t.s x)=er at*
 replace hc:=fe6 hc
 replace han:=fe6 han
 replace ht:=fe6 ht
 go_enter Tryz.func173,Tryz.ntmps173
 go_upto_region 1 with(refine af8 rfl _ rfl (Ext.refl hw) ?_;intro B w1 H1 hle hx hB hBw;obtain⟨hc0,hc1,hc2,hc3,hc4,O8,hc6,O9⟩:=I5 hB;clear hB hw;have hw1:=hx.holds)
 replace q0:=lift hle q0
 replace q1:=lift hle q1
 have hRn:H1 w1.heap.size=none:=hw1.D6 (fh0 _)
 refine U1 (S:=(fun w'=>j4 H1 w')) 11 (by kernel_rfl) (by kernel_rfl) ?_ (fun N9=> ?_)
 ·(try dsimp only)
  (first|assumption|exact j4.drew ‹_›|exact j4.alloc ‹_› _|exact j4.setCell (a:=⟨_,1,none⟩) (j4.setCell (a:=⟨_,0,none⟩) ‹_› hRn _) hRn _)
 simp only[ff8,fg1,fh6,fh7,fg9,fg8,fg3,ff9,fg2]
 refine hdA 0 ?_
 refine hdA 1 ?_
 refine hdA 2 ?_
 refine hdA 3 ?_
 refine hdA 4 ?_
 (try simp only[Act.put,fe7,ff1,ff2])
 refine hdR 5 [9] (fun K hK=> ?_) ?_
 ·(go_simp;go_at_call 31;refine(hc.out _ _ ‹_› hle).mono ?_;rintro e w3 ⟨rfl,hb3⟩;have hk3:j4 H1 w3:=j4.below ‹_› hb3;have x3:Ext w H w3 H1:=hx.drew.step (hb3.mono (by exact hx.below.size)) hk3;dsimp only)
  refine hK.out _ _ ?_ (fun I4=> ?_)
  ·(try dsimp only)
   (first|assumption|exact j4.drew ‹_›|exact j4.alloc ‹_› _|exact j4.setCell (a:=⟨_,1,none⟩) (j4.setCell (a:=⟨_,0,none⟩) ‹_› hRn _) hRn _)
  clear hK K N9
  refine hdA 6 ?_
  refine hdA 7 ?_
  refine hdA 8 ?_
  (try simp only[Act.put,fe7,ff1,ff2])
  refine hdR 9 [] (fun K hK=> ?_) r9.nil
  go_simp
  refine hK.out _ _ ?_ (fun F8=> ?_)
  ·(try dsimp only)
   (first|assumption|exact j4.drew ‹_›|exact j4.alloc ‹_› _|exact j4.setCell (a:=⟨_,1,none⟩) (j4.setCell (a:=⟨_,0,none⟩) ‹_› hRn _) hRn _)
  clear hK K I4
  (try simp only[Act.put,fe7,ff1,ff2])
  refine hdR 10 [] (fun K hK=> ?_) r9.nil
  go_simp
  refine hK.out _ _ ?_ (fun F9=> ?_)
  ·(try dsimp only)
   (first|assumption|exact j4.drew ‹_›|exact j4.alloc ‹_› _|exact j4.setCell (a:=⟨_,1,none⟩) (j4.setCell (a:=⟨_,0,none⟩) ‹_› hRn _) hRn _)
  clear hK K F8
  (try simp only[Act.put,fe7,ff1,ff2])
  refine G9 (by kernel_rfl) ?_
  simp only[ff5,ff6]
  go_wp2
  refine bodyPost_ret (results_tmp2 rfl _ _ _) rfl ?_
  refine bG1 (H1:=H1) ?_ (by first|rfl|(simp;done)|exact World.size_alloc _ _) han.out hbd
  first|exact x3.alloc _|exact(x3.setCell (a:=⟨_,0,none⟩) hx.below.size hRn _).setCell (a:=⟨_,1,none⟩) hx.below.size hRn _
 refine r9.cons (by simp only[ff0,fe9,fe8]<;>rfl) (fun K hK=> ?_) ?_
 ·go_simp
  refine hK.out _ _ ?_ (fun I4=> ?_)
  ·(try dsimp only)
   (first|assumption|exact j4.drew ‹_›|exact j4.alloc ‹_› _|exact j4.setCell (a:=⟨_,1,none⟩) (j4.setCell (a:=⟨_,0,none⟩) ‹_› hRn _) hRn _)
  clear hK K N9
  (try simp only[Act.put,fe7,ff1,ff2])
  refine hdR 5 [] (fun K hK=> ?_) r9.nil
  (go_simp;go_at_call 31;refine(hc.out _ _ ‹_› hle).mono ?_;rintro e w3 ⟨rfl,hb3⟩;have hk3:j4 H1 w3:=j4.below ‹_› hb3;have rz3:w3.heap[w1.heap.size]? =some (.cells #[.int .i64 0,.int .i64 0] 63 (0,0)):=(hb3.block _ (by simp)).trans (heap_alloc_new w1 _);have c0:w3.cell? ⟨w1.heap.size,0,none⟩=some (.int .i64 0):=(by simp[World.cell?,rz3]);have c1:w3.cell? ⟨w1.heap.size,1,none⟩=some (.int .i64 0):=(by simp[World.cell?,rz3]);have c2:=fun i=>Lib.frozen_of_heap rz3 i;have x3:Ext w H w3 H1:=(hx.alloc (.cells #[.int .i64 0,.int .i64 0] 63)).drew.step (hb3.mono (by have h9:=hx.below.size;show _≤(World.alloc w1 _).heap.size;rw[World.size_alloc];omega)) hk3;dsimp only)
  refine hK.out _ _ ?_ (fun F8=> ?_)
  ·(try dsimp only)
   (first|assumption|exact j4.drew ‹_›|exact j4.alloc ‹_› _|exact j4.setCell (a:=⟨_,1,none⟩) (j4.setCell (a:=⟨_,0,none⟩) ‹_› hRn _) hRn _)
  clear hK K I4
  refine hdA 6 ?_
  refine hdA 7 ?_
  refine hdA 8 ?_
  (try simp only[Act.put,fe7,ff1,ff2])
  refine hdR 10 [] (fun K hK=> ?_) r9.nil
  go_simp
  refine hK.out _ _ ?_ (fun F9=> ?_)
  ·(try dsimp only)
   (first|assumption|exact j4.drew ‹_›|exact j4.alloc ‹_› _|exact j4.setCell (a:=⟨_,1,none⟩) (j4.setCell (a:=⟨_,0,none⟩) ‹_› hRn _) hRn _)
  clear hK K F8
  (try simp only[Act.put,fe7,ff1,ff2])
  refine G9 (by kernel_rfl) ?_
  simp only[ff5,ff6]
  go_wp2
  refine bodyPost_ret (results_tmp2 rfl _ _ _) rfl ?_
  refine bG1 (H1:=H1) ?_ (by first|rfl|(simp;done)|exact World.size_alloc _ _) han.out hbd
  first|exact x3.alloc _|exact(x3.setCell (a:=⟨_,0,none⟩) hx.below.size hRn _).setCell (a:=⟨_,1,none⟩) hx.below.size hRn _
 exact r9.nil
end
end Go.Proofs.YtbliehinagkldaaGreatDoor
