/- Lemmas and the walk of the law OverseerBeside (names and blanks made short by a program). -/
import Derived.Test.YtbliehinagkldaaGreatDoorG01
import Derived.Test.YtbliehinagkldaaGreatDoorG02
import Derived.Test.YtbliehinagkldaaGreatDoorG03
import Derived.Test.YtbliehinagkldaaGreatDoorG04
import Derived.Test.YtbliehinagkldaaGreatDoorG05
import Derived.Test.YtbliehinagkldaaGreatDoorG10
import Derived.Test.YtbliehinagkldaaGreatDoorG19
import Derived.Deep.Slices
import Derived.SizedLaws
import Derived.OpenShut
import Derived.Lib.SmallJoins
import Derived.Deep.Strs
import Derived.ProofKit
import Derived.SevenTiedAt
import Derived.Rings
set_option linter.all false
set_option maxRecDepth 100000
set_option maxHeartbeats 16000000
open Go.Lib renaming hid → fe6
open Nat renaming le_refl → fh0, add_zero → fh2
open Bool renaming and_eq_true → fh9
namespace Go.Proofs.YtbliehinagkldaaGreatDoor
open Go.Proofs.YtbliehinagkldaaGreatDoor renaming u7 → uI7
section
theorem ck7 (t:D5) (l:List F7) (x:F7):O3 t (l++[x])=O3 t l++[(M8 (Z5 t l) x).2]:=by
 induction l generalizing t with
 |nil=>rfl
 |cons y l ih=>show _::O3 _ (l++[x])=_;rw[ih];rfl
end
section
open Go.RowKit Go.ChangeShapes Go.WideShapes Go.Deep
theorem aJ9 (w:World):j4 (ad6 w) w:=⟨fun _ _ e=>e⟩
end
section
theorem db4 {l:List F7} {x:F7} (hk:x.kind≠1) (he:(x.kind=5∨x.kind=6)→at5 l x.of=false):aa4 (l++[x])=aa4 l++[E9]:=by
 rw[aD5]
 unfold ak4
 rw[if_neg hk,if_neg]
 rintro⟨h1,h2⟩
 rw[he h1]at h2;cases h2
theorem dH2 {l:List F7} {x:F7} (hk:x.kind=1):aa4 (l++[x])=aa4 l++[x]:=by
 rw[aD5]
 unfold ak4
 rw[if_pos hk]
def cm6 (x:F7):F7:=if x.kind=1 then x else E9
theorem aI7:∀l:List F7,(∀x∈l,x.kind≠5∧x.kind≠6)→aa4 l=l.map cm6:=ad1 (fun _=>rfl) fun l x ih h=>by
 have hx:=h x (by simp)
 rw[List.map_append,List.map_singleton,←ih fun y hy=>h y (by simp[hy])]
 by_cases hk:x.kind=1
 ·rw[dH2 hk];unfold cm6;rw[if_pos hk]
 ·rw[db4 hk (by omega)];unfold cm6;rw[if_neg hk]
theorem bj0 {x:F7} (h:x.kind=1):cm6 x=x:=by unfold cm6;rw[if_pos h]
end
section
theorem bD8 (t:D5):∀l:List ByteArray,(∀s∈l,(A8 s).kind=1)→(M6 t l).ans=(O3 t (l.map A8)).map ae4:=ad1 (fun _=>rfl) fun l s ih h=>by
 have hl:=fun x (hx:x∈l)=>h x (by simp[hx])
 have hs:=h s (by simp)
 have hn:aa4 (l.map A8)=l.map A8:=by
  rw[aI7 _ fun x hx=>by
   obtain⟨y,hy,rfl⟩:=List.mem_map.1 hx
   have:=hl y hy;omega]
  rw[List.map_map]
  exact List.map_congr_left fun y hy=>bj0 (hl y hy)
 rw[bj1,ih hl,hn,List.map_append,List.map_singleton,ck7,List.map_append,List.map_singleton]
 unfold ap9 M8
 rw[if_neg (by omega),if_pos hs,if_pos hs]
def ad7 (w:ByteArray):Int:=
 if w=R7∨w=Y6∨w=ac6∨w=Q8∨w=Z0∨w=ar9 then 1 else if w=R8∨w=O6∨w=Y2 then 2 else 0
theorem cN2 {w:ByteArray} (h:ad7 w=1) (a:List Int):∃f:A9→Option A9,∀t:D5,M5 t w a=(f t.h).map fun h=>{t with h:=h}:=by
 refine⟨fun hh=>(M5 ⟨hh,default⟩ w a).map (·.h),fun t=> ?_⟩
 have hw:w=R7∨w=Y6∨w=ac6∨w=Q8∨w=Z0∨w=ar9:=by
  unfold ad7 at h
  split at h
  ·assumption
  ·split at h<;>cases h
 rcases hw with rfl|rfl|rfl|rfl|rfl|rfl
 ·rfl
 ·unfold M5
  simp only[show ¬Y6=R7 by decide,if_false,if_true]
  by_cases hi:inL t.h.ms (nth a 0)=true
  ·rw[if_pos hi,if_pos hi];rfl
  ·rw[if_neg hi,if_neg hi];rfl
 ·rfl
 ·unfold M5
  simp only[show ¬Q8=R7 by decide,show ¬Q8=Y6 by decide,show ¬Q8=ac6 by decide,if_false,if_true]
  by_cases hi:inL t.h.ts (nth a 0)=true
  ·rw[if_pos hi,if_pos hi];rfl
  ·rw[if_neg hi,if_neg hi];rfl
 ·rfl
 ·rfl
theorem db9 {w:ByteArray} (h:ad7 w=2) (a:List Int):∃f:G5→Option G5,∀t:D5,M5 t w a=(f t.s).map fun s=>{t with s:=s}:=by
 refine⟨fun ss=>(M5 ⟨default,ss⟩ w a).map (·.s),fun t=> ?_⟩
 have hw:w=R8∨w=O6∨w=Y2:=by
  unfold ad7 at h
  split at h
  ·cases h
  ·split at h
   ·assumption
   ·cases h
 rcases hw with rfl|rfl|rfl
 ·unfold M5
  simp only[show ¬R8=R7 by decide,show ¬R8=Y6 by decide,show ¬R8=ac6 by decide,show ¬R8=Q8 by decide,show ¬R8=Z0 by decide,show ¬R8=ar9 by decide,if_false,if_true]
  by_cases hi:inL t.s.mo (nth a 0)=true∧(mld t.s (nth a 0).toNat).br≠1
  ·rw[if_pos hi,if_pos hi];rfl
  ·rw[if_neg hi,if_neg hi];rfl
 ·unfold M5
  simp only[show ¬O6=R7 by decide,show ¬O6=Y6 by decide,show ¬O6=ac6 by decide,show ¬O6=Q8 by decide,show ¬O6=Z0 by decide,show ¬O6=ar9 by decide,show ¬O6=R8 by decide,if_false,if_true]
  by_cases hi:inL t.s.mo (nth a 0)=true∧(mld t.s (nth a 0).toNat).br≠1
  ·rw[if_pos hi,if_pos hi];rfl
  ·rw[if_neg hi,if_neg hi];rfl
 ·unfold M5
  simp only[show ¬Y2=R7 by decide,show ¬Y2=Y6 by decide,show ¬Y2=ac6 by decide,show ¬Y2=Q8 by decide,show ¬Y2=Z0 by decide,show ¬Y2=ar9 by decide,show ¬Y2=R8 by decide,show ¬Y2=O6 by decide,if_false,if_true]
  by_cases hi:inL t.s.wa (nth a 0)=true
  ·rw[if_pos hi,if_pos hi];rfl
  ·rw[if_neg hi,if_neg hi];rfl
theorem cf7 {w:ByteArray} (h:ad7 w=1) (a:List Int):∃f:A9→A9 × Bool,∀t:D5,F6 t=true→changed t w a=({t with h:=(f t.h).1},(f t.h).2):=by
 obtain⟨f,hf⟩:=cN2 h a
 refine⟨fun hh=>match f hh with|some k=>if valid k then(k,true)else(hh,false)|none=>(hh,false),fun t v=> ?_⟩
 unfold changed
 rw[hf]
 cases e:f t.h with
 |none=>simp[e]
 |some k=>
  have vs:Y5 t.s=true:=by unfold F6 at v;rw[fh9]at v;exact v.2
  have hv:F6 {t with h:=k}=valid k:=by unfold F6;simp only[vs,Bool.and_true]
  simp only[Option.map_some,e,hv]
  split<;>rfl
theorem cm8 {w:ByteArray} (h:ad7 w=2) (a:List Int):∃f:G5→G5 × Bool,∀t:D5,F6 t=true→changed t w a=({t with s:=(f t.s).1},(f t.s).2):=by
 obtain⟨f,hf⟩:=db9 h a
 refine⟨fun hh=>match f hh with|some k=>if Y5 k then(k,true)else(hh,false)|none=>(hh,false),fun t v=> ?_⟩
 unfold changed
 rw[hf]
 cases e:f t.s with
 |none=>simp[e]
 |some k=>
  have vs:valid t.h=true:=by unfold F6 at v;rw[fh9]at v;exact v.1
  have hv:F6 {t with s:=k}=Y5 k:=by unfold F6;simp only[vs,Bool.true_and]
  simp only[Option.map_some,e,hv]
  split<;>rfl
theorem bL3 {w:ByteArray} (h:U3 w≠-1):ad7 w=1∨ad7 w=2:=by
 unfold U3 at h
 unfold ad7
 split
 ·exact .inl rfl
 ·rename_i h1
  split
  ·exact .inr rfl
  ·rename_i h2
   exfalso
   simp only[not_or]at h1 h2
   rw[if_neg (by simp only[not_or];exact⟨h1.2.2.1,h1.2.2.2.2.2,h2.1,h2.2.1⟩),if_neg (by simp only[not_or];exact⟨h1.2.1,h1.2.2.2.1,h2.2.2⟩),if_neg (by simp only[not_or];exact⟨h1.1,h1.2.2.2.2.1⟩)]at h
   exact h rfl
theorem cz6 {p:List ByteArray} (h:(A7 p).kind=1):U3 (A7 p).word=((A7 p).nums.length:Int):=by
 unfold A7 at*
 cases en:T9 p.tail with
 |none=>rw[en]at h;cases h
 |some ns=>
  rw[en]at h
  simp only at h ⊢
  split at h
  ·rename_i h1;rw[if_pos h1];exact h1
  ·rename_i h1
   split at h
   ·cases h
   ·cases h
theorem cm9 {s:ByteArray} (h:(A8 s).kind=1):U3 (A8 s).word=((A8 s).nums.length:Int):=by
 have e:A8 s=A7 (C9 s):=bH4 (.inl h)
 rw[e]at h ⊢
 exact cz6 h
theorem ca6 {t:D5} (v:F6 t=true) {a b:ByteArray} {m n:List Int} (ha:ad7 a=1) (hb:ad7 b=2):
 (changed (changed t a m).1 b n).1=(changed (changed t b n).1 a m).1∧(changed (changed t a m).1 b n).2=(changed t b n).2∧(changed (changed t b n).1 a m).2=(changed t a m).2:=by
 obtain⟨f,hf⟩:=cf7 ha m
 obtain⟨g,hg⟩:=cm8 hb n
 have v1:=aG4 v a m
 have v2:=aG4 v b n
 rw[hg _ v1,hf _ v2,hf _ v,hg _ v]
 exact⟨rfl,rfl,rfl⟩
theorem cN3 {t:D5} {a b:ByteArray} (v:F6 t=true) (ha:(A8 a).kind=1) (hb:(A8 b).kind=1) (hp:ad7 (A8 a).word≠ad7 (A8 b).word):
 V5 t [a,b]=V5 t [b,a]∧(Y1 t [a,b]).getD 0 ⟨#[]⟩=(Y1 t [b,a]).getD 1 ⟨#[]⟩∧(Y1 t [a,b]).getD 1 ⟨#[]⟩=(Y1 t [b,a]).getD 0 ⟨#[]⟩:=by
 have key:∀x y:ByteArray,(A8 x).kind=1→(A8 y).kind=1→V5 t [x,y]=(changed (changed t (A8 x).word (A8 x).nums).1 (A8 y).word (A8 y).nums).1∧
  Y1 t [x,y]=[ae4 (changed t (A8 x).word (A8 x).nums).2,ae4 (changed (changed t (A8 x).word (A8 x).nums).1 (A8 y).word (A8 y).nums).2]:=fun x y hx hy=>by
  have hn:aa4 ([x,y].map A8)=[A8 x,A8 y]:=by
   rw[aI7 _ fun z hz=>by
    simp only[List.map_cons,List.map_nil,List.mem_cons,List.not_mem_nil,or_false]at hz
    rcases hz with rfl|rfl<;>omega]
   simp[bj0 hx,bj0 hy]
  have hs:∀(t:D5) (z:F7),z.kind=1→M8 t z=changed t z.word z.nums:=fun t z hz=>by unfold M8;rw[if_pos hz]
  rw[aK0 v (by simp),ap6 v (by simp),hn,bD8 t _ fun z hz=>by
   simp only[List.mem_cons,List.not_mem_nil,or_false]at hz
   rcases hz with rfl|rfl<;>assumption]
  unfold Z5 Z5 Z5
  simp only[List.map_cons,List.map_nil,O3]
  rw[hs _ _ hx,hs _ _ hy]
  exact⟨rfl,rfl⟩
 obtain⟨k1,k2⟩:=key a b ha hb
 obtain⟨k3,k4⟩:=key b a hb ha
 rw[k1,k2,k3,k4]
 have pa:=bL3 (w:=(A8 a).word) (by rw[cm9 ha];omega)
 have pb:=bL3 (w:=(A8 b).word) (by rw[cm9 hb];omega)
 rcases pa with pa|pa<;>rcases pb with pb|pb
 ·exact absurd (pa.trans pb.symm) hp
 ·obtain⟨r1,r2,r3⟩:=ca6 (m:=(A8 a).nums) (n:=(A8 b).nums) v pa pb
  exact⟨r1,by show ae4 _=ae4 _;rw[r3],by show ae4 _=ae4 _;rw[r2]⟩
 ·obtain⟨r1,r2,r3⟩:=ca6 (m:=(A8 b).nums) (n:=(A8 a).nums) v pb pa
  exact⟨r1.symm,by show ae4 _=ae4 _;rw[r2],by show ae4 _=ae4 _;rw[r3]⟩
 ·exact absurd (pa.trans pb.symm) hp
end
section
open Go.RowKit
attribute [local go_sem] j4.drew j4.alloc j4.drewN WB.holds Oper.semAt_some
theorem bR9 (s:ByteArray) (w:World):Calls Tryz.prog 43 #[.string s] w (I1 w (.int .i64 (ad7 s))):=by
 by_cases I8:s=R7
 ·have he:ad7 s=1:=by rw[I8];decide
  rw[he]
  clear he
  have aa3:=G8 (l:=[109,97,99,104,105,110,101]) I8
  clear I8
  go_enter Tryz.func43,Tryz.ntmps43
  go_wp2
  go_ret
  exact⟨rfl,Below.refl _ _⟩
 by_cases L6:s=Y6
 ·have he:ad7 s=1:=by rw[L6];decide
  rw[he]
  clear he
  have aa3:=j6 (l:=[109,97,99,104,105,110,101]) I8
  have ae7:=G8 (l:=[115,116,111,112,115]) L6
  clear I8 L6
  go_enter Tryz.func43,Tryz.ntmps43
  go_wp2
  go_ret
  exact⟨rfl,Below.refl _ _⟩
 by_cases K6:s=ac6
 ·have he:ad7 s=1:=by rw[K6];decide
  rw[he]
  clear he
  have aa3:=j6 (l:=[109,97,99,104,105,110,101]) I8
  have ae7:=j6 (l:=[115,116,111,112,115]) L6
  have ac0:=G8 (l:=[116,114,97,105,110]) K6
  clear I8 L6 K6
  go_enter Tryz.func43,Tryz.ntmps43
  go_wp2
  go_ret
  exact⟨rfl,Below.refl _ _⟩
 by_cases K9:s=Q8
 ·have he:ad7 s=1:=by rw[K9];decide
  rw[he]
  clear he
  have aa3:=j6 (l:=[109,97,99,104,105,110,101]) I8
  have ae7:=j6 (l:=[115,116,111,112,115]) L6
  have ac0:=j6 (l:=[116,114,97,105,110]) K6
  have ae1:=G8 (l:=[108,101,97,118,101,115]) K9
  clear I8 L6 K6 K9
  go_enter Tryz.func43,Tryz.ntmps43
  go_wp2
  go_ret
  exact⟨rfl,Below.refl _ _⟩
 by_cases O4:s=Z0
 ·have he:ad7 s=1:=by rw[O4];decide
  rw[he]
  clear he
  have aa3:=j6 (l:=[109,97,99,104,105,110,101]) I8
  have ae7:=j6 (l:=[115,116,111,112,115]) L6
  have ac0:=j6 (l:=[116,114,97,105,110]) K6
  have ae1:=j6 (l:=[108,101,97,118,101,115]) K9
  have ak5:=G8 (l:=[98,117,110,100,108,101]) O4
  clear I8 L6 K6 K9 O4
  go_enter Tryz.func43,Tryz.ntmps43
  go_wp2
  go_ret
  exact⟨rfl,Below.refl _ _⟩
 by_cases V7:s=ar9
 ·have he:ad7 s=1:=by rw[V7];decide
  rw[he]
  clear he
  have aa3:=j6 (l:=[109,97,99,104,105,110,101]) I8
  have ae7:=j6 (l:=[115,116,111,112,115]) L6
  have ac0:=j6 (l:=[116,114,97,105,110]) K6
  have ae1:=j6 (l:=[108,101,97,118,101,115]) K9
  have ak5:=j6 (l:=[98,117,110,100,108,101]) O4
  have as0:=G8 (l:=[103,97,112]) V7
  clear I8 L6 K6 K9 O4 V7
  go_enter Tryz.func43,Tryz.ntmps43
  go_wp2
  go_ret
  exact⟨rfl,Below.refl _ _⟩
 by_cases Q5:s=R8
 ·have he:ad7 s=2:=by rw[Q5];decide
  rw[he]
  clear he
  have aa3:=j6 (l:=[109,97,99,104,105,110,101]) I8
  have ae7:=j6 (l:=[115,116,111,112,115]) L6
  have ac0:=j6 (l:=[116,114,97,105,110]) K6
  have ae1:=j6 (l:=[108,101,97,118,101,115]) K9
  have ak5:=j6 (l:=[98,117,110,100,108,101]) O4
  have as0:=j6 (l:=[103,97,112]) V7
  have an8:=G8 (l:=[99,97,115,116]) Q5
  clear I8 L6 K6 K9 O4 V7 Q5
  go_enter Tryz.func43,Tryz.ntmps43
  go_wp2
  go_ret
  exact⟨rfl,Below.refl _ _⟩
 by_cases P5:s=O6
 ·have he:ad7 s=2:=by rw[P5];decide
  rw[he]
  clear he
  have aa3:=j6 (l:=[109,97,99,104,105,110,101]) I8
  have ae7:=j6 (l:=[115,116,111,112,115]) L6
  have ac0:=j6 (l:=[116,114,97,105,110]) K6
  have ae1:=j6 (l:=[108,101,97,118,101,115]) K9
  have ak5:=j6 (l:=[98,117,110,100,108,101]) O4
  have as0:=j6 (l:=[103,97,112]) V7
  have an8:=j6 (l:=[99,97,115,116]) Q5
  have al9:=G8 (l:=[98,114,111,107,101]) P5
  clear I8 L6 K6 K9 O4 V7 Q5 P5
  go_enter Tryz.func43,Tryz.ntmps43
  go_wp2
  go_ret
  exact⟨rfl,Below.refl _ _⟩
 by_cases Z9:s=Y2
 ·have he:ad7 s=2:=by rw[Z9];decide
  rw[he]
  clear he
  have aa3:=j6 (l:=[109,97,99,104,105,110,101]) I8
  have ae7:=j6 (l:=[115,116,111,112,115]) L6
  have ac0:=j6 (l:=[116,114,97,105,110]) K6
  have ae1:=j6 (l:=[108,101,97,118,101,115]) K9
  have ak5:=j6 (l:=[98,117,110,100,108,101]) O4
  have as0:=j6 (l:=[103,97,112]) V7
  have an8:=j6 (l:=[99,97,115,116]) Q5
  have al9:=j6 (l:=[98,114,111,107,101]) P5
  have aA8:=G8 (l:=[119,97,110,116]) Z9
  clear I8 L6 K6 K9 O4 V7 Q5 P5 Z9
  go_enter Tryz.func43,Tryz.ntmps43
  go_wp2
  go_ret
  exact⟨rfl,Below.refl _ _⟩
 have he:ad7 s=0:=by
  unfold ad7
  simp only[I8,L6,K6,K9,O4,V7,Q5,P5,Z9,or_self,if_false]
 rw[he]
 clear he
 have aa3:=j6 (l:=[109,97,99,104,105,110,101]) I8
 have ae7:=j6 (l:=[115,116,111,112,115]) L6
 have ac0:=j6 (l:=[116,114,97,105,110]) K6
 have ae1:=j6 (l:=[108,101,97,118,101,115]) K9
 have ak5:=j6 (l:=[98,117,110,100,108,101]) O4
 have as0:=j6 (l:=[103,97,112]) V7
 have an8:=j6 (l:=[99,97,115,116]) Q5
 have al9:=j6 (l:=[98,114,111,107,101]) P5
 have aA8:=j6 (l:=[119,97,110,116]) Z9
 clear I8 L6 K6 K9 O4 V7 Q5 P5 Z9
 go_enter Tryz.func43,Tryz.ntmps43
 go_wp2
 go_ret
 exact⟨rfl,Below.refl _ _⟩
end
section
open Go.RowKit
attribute [local go_sem] j4.drew j4.alloc j4.drewN WB.holds Oper.semAt_some Q9 O1 J7 bx8
theorem cJ5 {w0 w:World} {H0 H:j5} (hx:Ext w0 H0 w H) {a b:ByteArray} (ha:a.size≤40) (hb:b.size≤40):
 ∃H2,D8 H H2∧Ext w0 H0 (w.alloc (.cells #[.string a,.string b] 9)) H2∧Sl H2 (.slice (some ⟨w.heap.size,0,none⟩) 2 2) [a,b]:=
 aN5 hx [a,b] (fun x hx=>by simp at hx;rcases hx with rfl|rfl<;>omega) (by simp)
theorem cg7 (vm vb vt um uo ua:Value) (t:D5) (a b:ByteArray) (H:j5) (dr:Doors H) (w:World) (hw:j4 H w) (ht:Twn H vm vb vt um uo ua t) (hza:a.size≤140737488355328) (hzb:b.size≤140737488355328):
 Calls Tryz.prog 12 #[ah0 vm vb vt um uo ua t,.string a,.string b] w (I1 w (.bool true)):=by
 clear hza hzb
 have cW:=fun(H':j5) (W:World) (hW:j4 H' W) (hle:D8 H H')=>aO6 H' (dr.mono hle) W hW
 replace cW:=fe6 cW
 by_cases za:(40:Int)<(a.size:Int)
 ·clear ht dr
  go_enter Tryz.func12,Tryz.ntmps12
  go_wp2_with(first|((go_at_call 18;refine(cW.out _ _ hw1 hle).mono ?_;rintro e w2 ⟨rfl,hb2⟩;have x2:=hx.step (hb2.mono hx.below.size) (hx.holds.below hb2)))|(refine uI7 rfl _ rfl (Ext.refl hw) ?_;intro B w1 H1 hle hx hB hBw;obtain⟨hc0,hc1,hc2,hc3,hc4,O8,hc6,O9⟩:=I5 hB;clear hB hw;have hw1:=hx.holds))
  go_ret
  exact⟨rfl,x2.below⟩
 by_cases zb:(40:Int)<(b.size:Int)
 ·clear ht dr
  go_enter Tryz.func12,Tryz.ntmps12
  go_wp2_with(first|((go_at_call 18;refine(cW.out _ _ hw1 hle).mono ?_;rintro e w2 ⟨rfl,hb2⟩;have x2:=hx.step (hb2.mono hx.below.size) (hx.holds.below hb2)))|(refine uI7 rfl _ rfl (Ext.refl hw) ?_;intro B w1 H1 hle hx hB hBw;obtain⟨hc0,hc1,hc2,hc3,hc4,O8,hc6,O9⟩:=I5 hB;clear hB hw;have hw1:=hx.holds))
  go_ret
  exact⟨rfl,x2.below⟩
 have cK1:=fun(H':j5) (W:World) (hW:j4 H' W)=>aI0 a (by omega) H' W hW
 have cK2:=fun(H':j5) (W:World) (hW:j4 H' W)=>aI0 b (by omega) H' W hW
 by_cases ka:(A8 a).kind=1
 rotate_left
 ·clear ht dr
  generalize(A8 a).kind=K at*
  replace cK1:=fe6 cK1
  go_enter Tryz.func12,Tryz.ntmps12
  go_wp2_with(first|((go_at_call 18;refine(cW.out _ _ hw2 hle).mono ?_;rintro e w3 ⟨rfl,hb3⟩;have x3:=x2.step (hb3.mono x2.below.size) (x2.holds.below hb3)))|((have hgd:=hw1;clear hgd;go_at_call 16;go_must (refine(cK1.out _ _ hw1).mono ?_);rintro e w2 ⟨rfl,hb2⟩;have x2:=hx.step (hb2.mono hx.below.size) (hw1.below hb2);have hw2:=x2.holds;clear hw1 hb2))|(refine uI7 rfl _ rfl (Ext.refl hw) ?_;intro B w1 H1 hle hx hB hBw;obtain⟨hc0,hc1,hc2,hc3,hc4,O8,hc6,O9⟩:=I5 hB;clear hB hw;have hw1:=hx.holds))
  go_ret
  exact⟨rfl,x3.below⟩
 rw[ka]at cK1
 by_cases kb:(A8 b).kind=1
 rotate_left
 ·clear ht dr ka
  generalize(A8 b).kind=K at*
  replace cK1:=fe6 cK1
  replace cK2:=fe6 cK2
  go_enter Tryz.func12,Tryz.ntmps12
  go_wp2_with(first|((go_at_call 18;refine(cW.out _ _ hw3 hle).mono ?_;rintro e w4 ⟨rfl,hb4⟩;have x4:=x3.step (hb4.mono x3.below.size) (x3.holds.below hb4)))|((have hgd:=hw2;clear hgd;go_at_call 16;go_must (refine(cK2.out _ _ hw2).mono ?_);rintro e w3 ⟨rfl,hb3⟩;have x3:=x2.step (hb3.mono x2.below.size) (hw2.below hb3);have hw3:=x3.holds;clear hw2 hb3))|((have hgd:=hw1;clear hgd;go_at_call 16;go_must (refine(cK1.out _ _ hw1).mono ?_);rintro e w2 ⟨rfl,hb2⟩;have x2:=hx.step (hb2.mono hx.below.size) (hw1.below hb2);have hw2:=x2.holds;clear hw1 hb2))|(refine uI7 rfl _ rfl (Ext.refl hw) ?_;intro B w1 H1 hle hx hB hBw;obtain⟨hc0,hc1,hc2,hc3,hc4,O8,hc6,O9⟩:=I5 hB;clear hB hw;have hw1:=hx.holds))
  go_ret
  exact⟨rfl,x4.below⟩
 rw[kb]at cK2
 have cR1:=fun(H':j5) (W:World) (hW:j4 H' W)=>aU3 a (by omega) H' W hW
 have cR2:=fun(H':j5) (W:World) (hW:j4 H' W)=>aU3 b (by omega) H' W hW
 have cP1:=bR9 (A8 a).word
 have cP2:=bR9 (A8 b).word
 have law:=fun(v:F6 t=true) (hp:ad7 (A8 a).word≠ad7 (A8 b).word)=>cN3 v ka kb hp
 obtain⟨pa,hpa⟩:∃p,ad7 (A8 a).word=p:=⟨_,rfl⟩
 obtain⟨pb,hpb⟩:∃p,ad7 (A8 b).word=p:=⟨_,rfl⟩
 rw[hpa]at cP1 law
 rw[hpb]at cP2 law
 clear ka kb
 have cY:=fun(lv:Value) (H':j5) (W:World) (hW:j4 H' W) (hle:D8 H H') (h2:Sl H' lv [a,b])=>aA3 vm vb vt um uo ua lv t [a,b] H' W hW (ht.mono hle) h2
 have za':a.size≤40:=by omega
 have zb':b.size≤40:=by omega
 have lt1:=fun(w0 w:World) (H0 H:j5) (hx:Ext w0 H0 w H)=>cJ5 hx za' zb'
 have lt2:=fun(w0 w:World) (H0 H:j5) (hx:Ext w0 H0 w H)=>cJ5 hx zb' za'
 generalize hx1:A8 a=xa at*
 generalize hx2:A8 b=xb at*
 replace cK1:=fe6 cK1
 replace cK2:=fe6 cK2
 replace cR1:=fe6 cR1
 replace cR2:=fe6 cR2
 clear hx1 hx2 hpa hpb
 by_cases hp:pa=pb
 ·subst hp
  replace cP1:=fe6 cP1
  replace cP2:=fe6 cP2
  clear ht dr cY lt1 lt2 za' zb' law
  go_enter Tryz.func12,Tryz.ntmps12
  go_wp2_with(first|((go_at_call 18;refine(cW.out _ _ hw7 hle).mono ?_;rintro e w8 ⟨rfl,hb8⟩;have x8:=x7.step (hb8.mono x7.below.size) (x7.holds.below hb8)))|((have hgd:=hw6;clear hgd;go_at_call 43;go_must (refine(cP2.out _).mono ?_);rintro e w7 ⟨rfl,hb7⟩;have x7:=x6.step (hb7.mono x6.below.size) (hw6.below hb7);have hw7:=x7.holds;clear hw6 hb7))|((have hgd:=hw5;clear hgd;go_at_call 44;go_must (refine(cR2.out _ _ hw5).mono ?_);rintro e w6 ⟨_,H6,rfl,y6,v6,rfl,hv6⟩;obtain⟨a6,c6,rfl,_,_⟩:=hv6.form;have x6:=x5.step (y6.below.mono x5.below.size) (hw5.below y6.below);have hw6:=x6.holds;clear hw5 y6 hv6))|((have hgd:=hw4;clear hgd;go_at_call 43;go_must (refine(cP1.out _).mono ?_);rintro e w5 ⟨rfl,hb5⟩;have x5:=x4.step (hb5.mono x4.below.size) (hw4.below hb5);have hw5:=x5.holds;clear hw4 hb5))|((have hgd:=hw3;clear hgd;go_at_call 44;go_must (refine(cR1.out _ _ hw3).mono ?_);rintro e w4 ⟨_,H4,rfl,y4,v4,rfl,hv4⟩;obtain⟨a4,c4,rfl,_,_⟩:=hv4.form;have x4:=x3.step (y4.below.mono x3.below.size) (hw3.below y4.below);have hw4:=x4.holds;clear hw3 y4 hv4))|((have hgd:=hw2;clear hgd;go_at_call 16;go_must (refine(cK2.out _ _ hw2).mono ?_);rintro e w3 ⟨rfl,hb3⟩;have x3:=x2.step (hb3.mono x2.below.size) (hw2.below hb3);have hw3:=x3.holds;clear hw2 hb3))|((have hgd:=hw1;clear hgd;go_at_call 16;go_must (refine(cK1.out _ _ hw1).mono ?_);rintro e w2 ⟨rfl,hb2⟩;have x2:=hx.step (hb2.mono hx.below.size) (hw1.below hb2);have hw2:=x2.holds;clear hw1 hb2))|(refine uI7 rfl _ rfl (Ext.refl hw) ?_;intro B w1 H1 hle hx hB hBw;obtain⟨hc0,hc1,hc2,hc3,hc4,O8,hc6,O9⟩:=I5 hB;clear hB hw;have hw1:=hx.holds))
  go_ret
  exact⟨rfl,x8.below⟩
 have hpd:decide (pa=pb)=false:=decide_eq_false hp
 have hpe:(pa==pb)=false:=by simp[hp]
 replace cP1:=fe6 cP1
 replace cP2:=fe6 cP2
 cases hr:aF8 t [a,b]
 ·rw[hr]at cY
  replace cY:=fe6 cY
  replace lt1:=fe6 lt1
  clear ht dr lt2 za' zb' law hr
  go_enter Tryz.func12,Tryz.ntmps12
  go_wp2_with(first|((go_at_call 18;refine(cW.out _ _ hw9 (hle.trans l8)).mono ?_;rintro e w10 ⟨rfl,eb8⟩;have x10:=x9.step (eb8.mono x9.below.size) (x9.holds.below eb8)))|((have hgd:=hw7;clear hgd;go_at_call 17;obtain⟨H8,l8,x8,s8⟩:=lt1.out _ _ _ _ x7;go_must (refine(cY.out _ _ _ x8.holds (hle.trans l8) s8).mono ?_);rintro e w9 ⟨rfl,hb9⟩;have x9:=x8.step (hb9.mono x8.below.size) (x8.holds.below hb9);have hw9:=x9.holds;replace hc0:=lift l8 hc0;replace hc1:=lift l8 hc1;replace hc2:=lift l8 hc2;replace hc3:=lift l8 hc3;replace hc4:=lift l8 hc4;replace O8:=lift l8 O8;replace hc6:=lift l8 hc6;replace O9:=lift l8 O9;clear hw7 hb9 s8))|((have hgd:=hw6;clear hgd;go_at_call 43;go_must (refine(cP2.out _).mono ?_);rintro e w7 ⟨rfl,hb7⟩;have x7:=x6.step (hb7.mono x6.below.size) (hw6.below hb7);have hw7:=x7.holds;clear hw6 hb7))|((have hgd:=hw5;clear hgd;go_at_call 44;go_must (refine(cR2.out _ _ hw5).mono ?_);rintro e w6 ⟨_,H6,rfl,y6,v6,rfl,hv6⟩;obtain⟨a6,c6,rfl,_,_⟩:=hv6.form;have x6:=x5.step (y6.below.mono x5.below.size) (hw5.below y6.below);have hw6:=x6.holds;clear hw5 y6 hv6))|((have hgd:=hw4;clear hgd;go_at_call 43;go_must (refine(cP1.out _).mono ?_);rintro e w5 ⟨rfl,hb5⟩;have x5:=x4.step (hb5.mono x4.below.size) (hw4.below hb5);have hw5:=x5.holds;clear hw4 hb5))|((have hgd:=hw3;clear hgd;go_at_call 44;go_must (refine(cR1.out _ _ hw3).mono ?_);rintro e w4 ⟨_,H4,rfl,y4,v4,rfl,hv4⟩;obtain⟨a4,c4,rfl,_,_⟩:=hv4.form;have x4:=x3.step (y4.below.mono x3.below.size) (hw3.below y4.below);have hw4:=x4.holds;clear hw3 y4 hv4))|((have hgd:=hw2;clear hgd;go_at_call 16;go_must (refine(cK2.out _ _ hw2).mono ?_);rintro e w3 ⟨rfl,hb3⟩;have x3:=x2.step (hb3.mono x2.below.size) (hw2.below hb3);have hw3:=x3.holds;clear hw2 hb3))|((have hgd:=hw1;clear hgd;go_at_call 16;go_must (refine(cK1.out _ _ hw1).mono ?_);rintro e w2 ⟨rfl,hb2⟩;have x2:=hx.step (hb2.mono hx.below.size) (hw1.below hb2);have hw2:=x2.holds;clear hw1 hb2))|(refine uI7 rfl _ rfl (Ext.refl hw) ?_;intro B w1 H1 hle hx hB hBw;obtain⟨hc0,hc1,hc2,hc3,hc4,O8,hc6,O9⟩:=I5 hB;clear hB hw;have hw1:=hx.holds))
  go_ret
  exact⟨rfl,x10.below⟩
 rw[hr]at cY
 have R:=aL3.1 hr
 obtain⟨q1,q2,q3⟩:=law R.v hp
 have cU:=fun(lv:Value) (H':j5) (W:World) (hW:j4 H' W) (hle:D8 H H') (h2:Sl H' lv [a,b])=>aD1 vm vb vt um uo ua lv t [a,b] R.v (by simp) (fun s hs=>by simp at hs;rcases hs with rfl|rfl<;>omega) H' (dr.mono hle) W hW (ht.mono hle) h2
 have cV:=fun(lv:Value) (H':j5) (W:World) (hW:j4 H' W) (hle:D8 H H') (h2:Sl H' lv [b,a])=>aD1 vm vb vt um uo ua lv t [b,a] R.v (by simp) (fun s hs=>by simp at hs;rcases hs with rfl|rfl<;>omega) H' (dr.mono hle) W hW (ht.mono hle) h2
 obtain⟨z0,z1,e1,e2⟩:∃z0 z1,Y1 t [a,b]=[z0,z1]∧Y1 t [b,a]=[z1,z0]:=by
  have g1:(Y1 t [a,b]).length=2:=by rw[ap6 R.v (by simp),(ax9 _ _).1];rfl
  have g2:(Y1 t [b,a]).length=2:=by rw[ap6 R.v (by simp),(ax9 _ _).1];rfl
  generalize Y1 t [a,b]=L at*
  generalize Y1 t [b,a]=M at*
  match L,M,g1,g2 with
  |[c,d],[e,f],_,_=>
   simp at q2 q3
   exact⟨c,d,rfl,by rw[q2,q3]⟩
 rw[e1]at cU
 rw[e2,←q1]at cV
 clear hr R q1 q2 q3 e1 e2 law
 generalize V5 t [a,b]=T at*
 generalize O0 t [a,b]=K1 at*
 generalize O0 t [b,a]=K2 at*
 replace cY:=fe6 cY
 replace cU:=fe6 cU
 replace cV:=fe6 cV
 replace lt1:=fe6 lt1
 replace lt2:=fe6 lt2
 clear ht dr za' zb'
 go_enter Tryz.func12,Tryz.ntmps12
 go_upto_region 4 with(first|((go_at_call 23;obtain⟨H10,l10,x10,s10⟩:=lt1.out _ _ _ _ x9;go_must (refine(cU.out _ _ _ x10.holds ((hle.trans l8).trans l10) s10).mono ?_);rintro e w11 ⟨_,H11,rfl,y11,va,vt',vk,rfl,sA,⟨xm,xb,xt,xp,xq,xr,rfl,bz0⟩,eb9⟩;obtain⟨pA,qA,rfl,_,_⟩:=sA.form;obtain⟨pK,qK,rfl,_,_⟩:=eb9.form;obtain⟨p0,pq0,rfl,_,_⟩:=bz0.h.m.form;obtain⟨p1,pq1,rfl,_,_⟩:=bz0.h.b.form;obtain⟨p2,pq2,rfl,_,_⟩:=bz0.h.t.form;obtain⟨p3,pq3,rfl,_,_⟩:=bz0.s.m.form;obtain⟨p4,pq4,rfl,_,_⟩:=bz0.s.o.form;obtain⟨p5,pq5,rfl,_,_⟩:=bz0.s.a.form;have x11:=x10.trans y11))|((have hgd:=hw7;clear hgd;go_at_call 17;obtain⟨H8,l8,x8,s8⟩:=lt1.out _ _ _ _ x7;go_must (refine(cY.out _ _ _ x8.holds (hle.trans l8) s8).mono ?_);rintro e w9 ⟨rfl,hb9⟩;have x9:=x8.step (hb9.mono x8.below.size) (x8.holds.below hb9);have hw9:=x9.holds;replace hc0:=lift l8 hc0;replace hc1:=lift l8 hc1;replace hc2:=lift l8 hc2;replace hc3:=lift l8 hc3;replace hc4:=lift l8 hc4;replace O8:=lift l8 O8;replace hc6:=lift l8 hc6;replace O9:=lift l8 O9;clear hw7 hb9 s8))|((have hgd:=hw6;clear hgd;go_at_call 43;go_must (refine(cP2.out _).mono ?_);rintro e w7 ⟨rfl,hb7⟩;have x7:=x6.step (hb7.mono x6.below.size) (hw6.below hb7);have hw7:=x7.holds;clear hw6 hb7))|((have hgd:=hw5;clear hgd;go_at_call 44;go_must (refine(cR2.out _ _ hw5).mono ?_);rintro e w6 ⟨_,H6,rfl,y6,v6,rfl,hv6⟩;obtain⟨a6,c6,rfl,_,_⟩:=hv6.form;have x6:=x5.step (y6.below.mono x5.below.size) (hw5.below y6.below);have hw6:=x6.holds;clear hw5 y6 hv6))|((have hgd:=hw4;clear hgd;go_at_call 43;go_must (refine(cP1.out _).mono ?_);rintro e w5 ⟨rfl,hb5⟩;have x5:=x4.step (hb5.mono x4.below.size) (hw4.below hb5);have hw5:=x5.holds;clear hw4 hb5))|((have hgd:=hw3;clear hgd;go_at_call 44;go_must (refine(cR1.out _ _ hw3).mono ?_);rintro e w4 ⟨_,H4,rfl,y4,v4,rfl,hv4⟩;obtain⟨a4,c4,rfl,_,_⟩:=hv4.form;have x4:=x3.step (y4.below.mono x3.below.size) (hw3.below y4.below);have hw4:=x4.holds;clear hw3 y4 hv4))|((have hgd:=hw2;clear hgd;go_at_call 16;go_must (refine(cK2.out _ _ hw2).mono ?_);rintro e w3 ⟨rfl,hb3⟩;have x3:=x2.step (hb3.mono x2.below.size) (hw2.below hb3);have hw3:=x3.holds;clear hw2 hb3))|((have hgd:=hw1;clear hgd;go_at_call 16;go_must (refine(cK1.out _ _ hw1).mono ?_);rintro e w2 ⟨rfl,hb2⟩;have x2:=hx.step (hb2.mono hx.below.size) (hw1.below hb2);have hw2:=x2.holds;clear hw1 hb2))|(refine uI7 rfl _ rfl (Ext.refl hw) ?_;intro B w1 H1 hle hx hB hBw;obtain⟨hc0,hc1,hc2,hc3,hc4,O8,hc6,O9⟩:=I5 hB;clear hB hw;have hw1:=hx.holds))
 have hn_:H11 (World.heap w11).size=none:=(x11).holds.D6 (fh0 _)
 have x12:=((x11).alloc (.cells #[.slice p0 T.h.ms.length pq0,.slice p1 T.h.bs.length pq1,.slice p2 T.h.ts.length pq2,.int .i64 T.h.ch,.slice p3 T.s.mo.length pq3,.slice p4 T.s.wo.length pq4,.slice p5 T.s.wa.length pq5,.int .i64 T.s.fr] 32)).freeze (x11).below.size (heap_alloc_new w11 _)
 have l12:=j5.L9 hn_ (.cells #[.slice p0 T.h.ms.length pq0,.slice p1 T.h.bs.length pq1,.slice p2 T.h.ts.length pq2,.int .i64 T.h.ch,.slice p3 T.s.mo.length pq3,.slice p4 T.s.wo.length pq4,.slice p5 T.s.wa.length pq5,.int .i64 T.s.fr] 32 (0,0))
 have dF0:=j5.G7 H11 (World.heap w11).size (.cells #[.slice p0 T.h.ms.length pq0,.slice p1 T.h.bs.length pq1,.slice p2 T.h.ts.length pq2,.int .i64 T.h.ch,.slice p3 T.s.mo.length pq3,.slice p4 T.s.wo.length pq4,.slice p5 T.s.wa.length pq5,.int .i64 T.s.fr] 32 (0,0))
 clear hn_
 generalize j5.put H11 (World.heap w11).size (.cells #[.slice p0 T.h.ms.length pq0,.slice p1 T.h.bs.length pq1,.slice p2 T.h.ts.length pq2,.int .i64 T.h.ch,.slice p3 T.s.mo.length pq3,.slice p4 T.s.wo.length pq4,.slice p5 T.s.wa.length pq5,.int .i64 T.s.fr] 32 (0,0))=H12 at*
 generalize World.alloc w11 (.cells #[.slice p0 T.h.ms.length pq0,.slice p1 T.h.bs.length pq1,.slice p2 T.h.ts.length pq2,.int .i64 T.h.ch,.slice p3 T.s.mo.length pq3,.slice p4 T.s.wo.length pq4,.slice p5 T.s.wa.length pq5,.int .i64 T.s.fr] 32)=w12 at*
 generalize(World.heap w11).size=C at*
 have l8c:D8 H8 H12:=(l10.trans (y11.le x10.holds)).trans l12
 replace hle:=(hle.trans l8).trans l8c
 have twA:=bz0.mono l12
 replace sA:=sA.mono l12
 replace hc0:=lift l8c hc0
 replace hc1:=lift l8c hc1
 replace hc2:=lift l8c hc2
 replace hc3:=lift l8c hc3
 replace hc4:=lift l8c hc4
 replace O8:=lift l8c O8
 replace hc6:=lift l8c hc6
 replace O9:=lift l8c O9
 obtain⟨d0,d1,d2,d3,d4,d5,d6,d7⟩:=I5 (t:=T) dF0
 have cV9:=x12.holds
 clear x11 y11 bz0 eb9 dF0 x9 x10 s10 l8 l10 l12 l8c hw9 hx x8 x2 x3 x4 x5 x6 x7 cY cU cK1 cK2 cR1 cR2 cP1 cP2
 go_upto_region 5 with(go_at_call 23;obtain⟨H13,l13,x13,s13⟩:=lt2.out _ _ _ _ x12;go_must (refine(cV.out _ _ _ x13.holds (hle.trans l13) s13).mono ?_);rintro e w14 ⟨_,H14,rfl,y14,va,vt',vk,rfl,sB,⟨xm,xb,xt,xp,xq,xr,rfl,bz1⟩,ec4⟩;obtain⟨pB,qB,rfl,_,_⟩:=sB.form;obtain⟨pL,qL,rfl,_,_⟩:=ec4.form;obtain⟨r0,rq0,rfl,_,_⟩:=bz1.h.m.form;obtain⟨r1,rq1,rfl,_,_⟩:=bz1.h.b.form;obtain⟨r2,rq2,rfl,_,_⟩:=bz1.h.t.form;obtain⟨r3,rq3,rfl,_,_⟩:=bz1.s.m.form;obtain⟨r4,rq4,rfl,_,_⟩:=bz1.s.o.form;obtain⟨r5,rq5,rfl,_,_⟩:=bz1.s.a.form;have x14:=x13.trans y14)
 have hn_:H14 (World.heap w14).size=none:=(x14).holds.D6 (fh0 _)
 have x15:=((x14).alloc (.cells #[.slice r0 T.h.ms.length rq0,.slice r1 T.h.bs.length rq1,.slice r2 T.h.ts.length rq2,.int .i64 T.h.ch,.slice r3 T.s.mo.length rq3,.slice r4 T.s.wo.length rq4,.slice r5 T.s.wa.length rq5,.int .i64 T.s.fr] 32)).freeze (x14).below.size (heap_alloc_new w14 _)
 have l15:=j5.L9 hn_ (.cells #[.slice r0 T.h.ms.length rq0,.slice r1 T.h.bs.length rq1,.slice r2 T.h.ts.length rq2,.int .i64 T.h.ch,.slice r3 T.s.mo.length rq3,.slice r4 T.s.wo.length rq4,.slice r5 T.s.wa.length rq5,.int .i64 T.s.fr] 32 (0,0))
 have dF3:=j5.G7 H14 (World.heap w14).size (.cells #[.slice r0 T.h.ms.length rq0,.slice r1 T.h.bs.length rq1,.slice r2 T.h.ts.length rq2,.int .i64 T.h.ch,.slice r3 T.s.mo.length rq3,.slice r4 T.s.wo.length rq4,.slice r5 T.s.wa.length rq5,.int .i64 T.s.fr] 32 (0,0))
 clear hn_
 generalize j5.put H14 (World.heap w14).size (.cells #[.slice r0 T.h.ms.length rq0,.slice r1 T.h.bs.length rq1,.slice r2 T.h.ts.length rq2,.int .i64 T.h.ch,.slice r3 T.s.mo.length rq3,.slice r4 T.s.wo.length rq4,.slice r5 T.s.wa.length rq5,.int .i64 T.s.fr] 32 (0,0))=H15 at*
 generalize World.alloc w14 (.cells #[.slice r0 T.h.ms.length rq0,.slice r1 T.h.bs.length rq1,.slice r2 T.h.ts.length rq2,.int .i64 T.h.ch,.slice r3 T.s.mo.length rq3,.slice r4 T.s.wo.length rq4,.slice r5 T.s.wa.length rq5,.int .i64 T.s.fr] 32)=w15 at*
 generalize(World.heap w14).size=D at*
 have aG8:D8 H12 H15:=(l13.trans (y14.le x13.holds)).trans l15
 replace hle:=hle.trans aG8
 have twB:=bz1.mono l15
 replace twA:=twA.mono aG8
 replace sA:=sA.mono aG8
 replace sB:=sB.mono l15
 replace d0:=lift aG8 d0
 replace d1:=lift aG8 d1
 replace d2:=lift aG8 d2
 replace d3:=lift aG8 d3
 replace d4:=lift aG8 d4
 replace d5:=lift aG8 d5
 replace d6:=lift aG8 d6
 replace d7:=lift aG8 d7
 obtain⟨g0,g1,g2,g3,g4,g5,g6,g7⟩:=I5 (t:=T) dF3
 obtain⟨b1,o1,k1,he1,hs1,p1⟩:=sA.str (show At [z0,z1] 0 z0 from rfl)
 obtain⟨b2,o2,k2,he2,hs2,p2⟩:=sA.str (show At [z0,z1] 1 z1 from rfl)
 obtain⟨b3,o3,k3,he3,hs3,p3⟩:=sB.str (show At [z1,z0] 0 z1 from rfl)
 obtain⟨b4,o4,k4,he4,hs4,p4⟩:=sB.str (show At [z1,z0] 1 z0 from rfl)
 cases he1
 cases he2
 cases he3
 cases he4
 have cA:=fun(W:World) (hW:j4 H15 W)=>aU4 _ _ _ _ _ _ _ _ _ _ _ _ T H15 W hW twA twB
 have cZ:=fun(W:World) (hW:j4 H15 W)=>cW.out H15 W hW hle
 replace cA:=fe6 cA
 replace cZ:=fe6 cZ
 have eA4:=x15.holds
 (try simp only[fh2]at p1)
 (try simp only[fh2]at p3)
 clear hc0 hc1 hc2 hc3 hc4 O8 hc6 O9 twA twB sA sB x14 y14 x13 x12 cV9 bz1 ec4 dF3 l13 l15 aG8 cW cV lt1 lt2 s13
 refine E8 H15 (by kernel_rfl) (by kernel_rfl) eA4 (fun hne=> ?_)
 repeat go_big_quiet_step((first|(go_at_call 24;exact Calls.am7 (cA.out _ (WB.holds _)))|(go_at_call 18;exact Calls.am7 (cZ.out _ (WB.holds _)))))
 refine wpQuiet_nil ?_
 rintro⟨w2,hw2,hb2⟩
 clear hne
 go_wp2_with fail
 go_ret
 exact⟨rfl,(x15.below.trans (hb2.mono x15.below.size))⟩
end
end Go.Proofs.YtbliehinagkldaaGreatDoor
