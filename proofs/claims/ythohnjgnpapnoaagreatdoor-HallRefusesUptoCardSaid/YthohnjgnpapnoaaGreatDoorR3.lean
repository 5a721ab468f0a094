/- keys.Find: the walk. · keys.Revoke: the walk. · arena.numbers: its methods, the walks. · Which method of arena.numbers an interface call runs. -/
import Derived.Test.YthohnjgnpapnoaaGreatDoorR2
import Derived.Test.YthohnjgnpapnoaaGreatDoorR1
import Derived.Deep.RegionHeld3
import Derived.Deep.DeepCutAuto
import Derived.BigQuiet
set_option linter.unusedVariables false
set_option linter.unusedSimpArgs false
namespace Go.Proofs.YthohnjgnpapnoaaGreatDoor
open Go.RowKit
theorem keysV_at:∀(K:List KeyD) (i:Nat) (k:KeyD),K[i]? =some k→∀j,j<3→(keysV K)[i*3+j]? =(keyV k)[j]?
 | [],i,k,h=>by simp at h
 | a::K,0,k,h=>fun j hj=>by
   simp at h;subst h
   rw [keysV,List.flatMap_cons,List.getElem?_append_left (by simp [keyV];omega),Nat.zero_mul,Nat.zero_add]
 | a::K,i+1,k,h=>fun j hj=>by
   simp at h
   rw [keysV,List.flatMap_cons,List.getElem?_append_right (by simp [keyV];omega),←keysV_at K i k h j hj]
   simp only [keyV,List.length_cons,List.length_nil]
   congr 1;omega
theorem beq_bytes (a b:ByteArray):(a.toList==b.toList)=decide (a=b):=by
 by_cases h:a=b
 ·subst h;simp
 ·have:a.toList≠b.toList:=fun e=>h (by rw [ByteArray.toList_eq,ByteArray.toList_eq] at e;exact ByteArray.ext (Array.toList_inj.1 e))
  simp [h,this]
def IdxPost (K:List KeyD) (text:ByteArray) (x:Int):Prop:=
 (∃(i:Nat) (k:KeyD),x=i∧K[i]? =some k∧str k.text=text∧∀j k',j<i→K[j]? =some k'→str k'.text≠text)∨(x= -1∧∀(j:Nat) k,K[j]? =some k→str k.text≠text)
set_option maxRecDepth 100000 in
set_option maxHeartbeats 3200000 in
theorem find_one (w:World) (a b:ByteArray) (r:Int) (p:Nat) (text:ByteArray) (h:w.cell? ⟨p,0,none⟩=some (.string text)):
 Calls Tryz.prog 164 #[.agg #[.string a,.string b,.int .i64 r],.pointer (some ⟨p,0,none⟩)] w fun e w'=>e= .returned (.bool (decide (a=text)))∧Below w.heap.size w w':=by
 have hp:p<w.heap.size:=World.block_lt_of_cell? w _ h
 go_enter Tryz.func164,Tryz.ntmps164
 go_wp2_with fail
 go_ret
 exact ⟨by rw [beq_bytes];rfl,(Below.refl _ _).alloc (Nat.le_refl _) _⟩
set_option maxRecDepth 100000 in
set_option maxHeartbeats 3200000 in
theorem index_any (w:World) (n:Nat) (hn:n≤32) (K:List KeyD) (hK:K.length=n) (kv:Value) (B:Nat) (hB:B≤w.heap.size) (hk:Rd w B 3 kv n (keysV K)) (text:ByteArray) (p:Nat) (h:w.cell? ⟨p,0,none⟩=some (.string text)):
 Calls Tryz.prog 163 #[kv,.func (.func 164) #[] #[.pointer (some ⟨p,0,none⟩)]] w fun e w'=>∃x,IdxPost K text x∧e= .returned (.int .i64 x)∧Below w.heap.size w w':=by
 have hp:p<w.heap.size:=World.block_lt_of_cell? w _ h
 have HK:=Lib.hid hk
 have H:=Lib.hid h
 obtain ⟨A,cap,rfl,hc1,hc2⟩:=hk.form
 clear hk h
 go_enter Tryz.func163,Tryz.ntmps163
 go_wp2_with fail
 go_loopw [8] (fun iv wx=>∃i:Nat,iv= .int .i64 i∧i≤n∧(∀(j:Nat) k,j<i→K[j]? =some k→str k.text≠text)∧Below w.heap.size w wx) (fun iv _=>n-(intOf iv).toNat)
 case atStart=>exact ⟨0,rfl,Nat.zero_le _,fun j k hj=>by omega,Below.refl _ _⟩
 case round=>
  obtain ⟨i,rfl,hi,hno,hb⟩:=hrel
  have HNO:=Lib.hid hno
  have HB:=Lib.hid hb
  clear hno hb
  by_cases hin:i<n
  ·obtain ⟨k,hki⟩:∃k,K[i]? =some k:=⟨K[i]'(by omega),List.getElem?_eq_getElem (by omega)⟩
   obtain ⟨b,off,cap',hA,_,_,hbB,hc⟩:=(HK.out.below (HB.out.mono hB)).at (by omega)
   injection hA with hA _ hcap;subst hA;subst hcap
   have c0:wr.cell? ⟨b,off+i*3,none⟩=some (.string (str k.text)):=hc (i*3) _ ((keysV_at K i k hki 0 (by omega)).trans rfl)
   have c1:wr.cell? ⟨b,off+i*3+1,none⟩=some (.string k.name):=hc (i*3+1) _ ((keysV_at K i k hki 1 (by omega)).trans rfl)
   have c2:wr.cell? ⟨b,off+i*3+2,none⟩=some (.int .i64 k.rights):=hc (i*3+2) _ ((keysV_at K i k hki 2 (by omega)).trans rfl)
   have heg:∀args w,(callFunc 164 args).run Tryz.prog w= .ok (.enter 164 args) w:=enters_of Tryz.func164 (by kernel_rfl) rfl
   have hwi:IntKind.i64.wrap ((i:Int)+1)=(i:Int)+1:=by rw [IntKind.wrap_i64];omega
   have hlt:(i:Int)<(n:Int):=by omega
   clear hc
   go_wp2_with fail
   (with_reducible refine (find_one _ _ _ _ p text ((HB.out.cell (p:=⟨p,0,none⟩) hp).trans H.out)).mono ?_)
   rintro e w2 ⟨rfl,hb2⟩
   have HB2:Hid (Below w.heap.size w w2):=HB.out.trans (hb2.mono HB.out.size)
   clear hb2
   by_cases he:str k.text=text
   ·have hd:decide (str k.text=text)=true:=decide_eq_true he
    rw [hd]
    clear hd
    have HP:Hid (IdxPost K text i):= .inl ⟨i,k,rfl,hki,he,HNO.out⟩
    go_wp2_with fail
    go_ret
    exact ⟨_,HP.out,rfl,HB2.out⟩
   ·have hd:decide (str k.text=text)=false:=decide_eq_false he
    rw [hd]
    clear hd
    go_wp2_with fail
    go_roundw
    case rel=>exact ⟨i+1,by go_num,by omega,fun j k' hj hk'=>(by
     rcases Nat.lt_or_ge j i with h | h
     ·exact HNO.out j k' h hk'
     ·have:j=i:=by omega
      subst this;rw [hki] at hk';cases hk';exact he),HB2.out⟩
    case measure=>simp [intOf];omega
  ·have hge:(n:Int)≤(i:Int):=by omega
   have HP:Hid (IdxPost K text (-1)):= .inr ⟨rfl,fun j k hk=>HNO.out j k (by have:=(List.getElem?_eq_some_iff.1 hk).1;omega) hk⟩
   go_wp2_with fail
   go_ret
   exact ⟨_,HP.out,rfl,HB.out⟩
def FindPost (K:List KeyD) (text:ByteArray) (r:Int) (name:ByteArray) (x:Int):Prop:=
 (∃(i:Nat) (k:KeyD),K[i]? =some k∧str k.text=text∧(∀j k',j<i→K[j]? =some k'→str k'.text≠text)∧((bits .and .i64 k.rights r=r∧name=k.name∧x=0)∨(bits .and .i64 k.rights r≠r∧name=⟨#[]⟩∧x=10)))∨
   ((∀(j:Nat) k,K[j]? =some k→str k.text≠text)∧name=⟨#[]⟩∧x=6)
set_option maxRecDepth 100000 in
set_option maxHeartbeats 3200000 in
theorem find_any (w:World) (s:Int) (n:Nat) (hn:n≤32) (K:List KeyD) (hK:K.length=n) (kv:Value) (B:Nat) (hB:B≤w.heap.size) (hk:Rd w B 3 kv n (keysV K)) (text:ByteArray) (r:Int):
 Calls Tryz.prog 116 #[.agg #[.int .i64 s,kv],.string text,.int .i64 r] w fun e w'=>∃name x,FindPost K text r name x∧e= .returned (.tuple #[.string name,.int .i64 x])∧Below w.heap.size w w':=by
 have HK:=Lib.hid hk
 obtain ⟨A,cap,rfl,hc1,hc2⟩:=hk.form
 clear hk
 go_enter Tryz.func116,Tryz.ntmps116
 go_wp2_with fail
 generalize hw1:World.alloc (World.alloc w _) _=w1
 have HB1:Hid (Below w.heap.size w w1):=by subst hw1;exact ((Below.refl _ _).alloc (Nat.le_refl _) _).alloc (by simp) _
 have HT1:Hid (Blk w1 w.heap.size 102 #[.int .i64 s,.slice A n cap]):=by subst hw1;exact (Blk.new w _ _).alloc _
 have HX1:Hid (Blk w1 (w.heap.size+1) 9 #[.string text]):=by subst hw1;have:=Blk.new (w.alloc (.cells #[.int .i64 s,.slice A n cap] 102)) 9 #[.string text];rw [World.size_alloc] at this;exact this
 clear hw1
 (with_reducible refine (index_any w1 n hn K hK _ B (Nat.le_trans hB HB1.out.size) (HK.out.below (HB1.out.mono hB)) text (w.heap.size+1) (HX1.out.cellS rfl)).mono ?_)
 rintro e w2 ⟨x,hx,rfl,hb2⟩
 have HB2:Hid (Below w.heap.size w w2):=HB1.out.trans (hb2.mono HB1.out.size)
 have HT2:Hid (Blk w2 w.heap.size 102 #[.int .i64 s,.slice A n cap]):=(hb2.block _ HT1.out.lt).trans HT1.out
 clear hb2
 rcases hx with ⟨i,k,rfl,hki,htx,hfst⟩ | ⟨rfl,hno⟩
 ·have hin:i<n:=by have:=(List.getElem?_eq_some_iff.1 hki).1;omega
  obtain ⟨b,off,cap',hA,_,_,hbB,hc⟩:=(HK.out.below (HB2.out.mono hB)).at (by omega)
  injection hA with hA _ hcap;subst hA;subst hcap
  have c1:w2.cell? ⟨b,off+i*3+1,none⟩=some (.string k.name):=hc (i*3+1) _ ((keysV_at K i k hki 1 (by omega)).trans rfl)
  have c2:w2.cell? ⟨b,off+i*3+2,none⟩=some (.int .i64 k.rights):=hc (i*3+2) _ ((keysV_at K i k hki 2 (by omega)).trans rfl)
  have d1:w2.cell? ⟨w.heap.size,1,none⟩=some (.slice (some ⟨b,off,none⟩) n cap):=HT2.out.cellS rfl
  have HF:Hid (∀name x,((bits .and .i64 k.rights r=r∧name=k.name∧x=0)∨(bits .and .i64 k.rights r≠r∧name=⟨#[]⟩∧x=10))→FindPost K text r name x):=fun name x h=> .inl ⟨i,k,hki,htx,hfst,h⟩
  have hi0:¬((i:Int)<0):=by omega
  have hilt:(i:Int)<(n:Int):=by omega
  clear hc hfst
  by_cases hr:bits .and .i64 k.rights r=r
  ·go_wp2_with fail
   go_ret2
   exact ⟨_,_,HF.out _ _ (.inl ⟨hr,rfl,rfl⟩),rfl,HB2.out⟩
  ·go_wp2_with fail
   go_ret2
   exact ⟨_,_,HF.out _ _ (.inr ⟨hr,rfl,rfl⟩),rfl,HB2.out⟩
 ·go_wp2_with fail
  go_ret2
  exact ⟨_,_,.inr ⟨hno,rfl,rfl⟩,rfl,HB2.out⟩
end Go.Proofs.YthohnjgnpapnoaaGreatDoor
namespace Go.Proofs.YthohnjgnpapnoaaGreatDoor
open Go.RowKit
def without (name:ByteArray) (K:List KeyD):List KeyD:=K.filter fun k=> !decide (k.name=name)
theorem without_step (name:ByteArray) (K:List KeyD) (i:Nat) (k:KeyD) (h:K[i]? =some k):without name (K.take (i+1))=without name (K.take i)++(if k.name=name then [] else [k]):=by
 unfold without
 rw [List.take_add_one,h,List.filter_append]
 by_cases he:k.name=name<;>simp [he]
theorem without_len (name:ByteArray) (K:List KeyD):(without name K).length≤K.length:=List.length_filter_le _ _
theorem revoke_a {w5 w6:World} {v5 v6:Value} {B:Nat} {o:Obj} (hm:Mod (fun b=>sblk v5=some b) (w5.alloc o) w6) (hd:sblk v6=sblk v5∨sblk v6=some (w5.alloc o).heap.size∧(w5.alloc o).heap.size<w6.heap.size)
 (hf:∀b,sblk v5=some b→B<b):Mod (fun b=>B<b) (w5.alloc o) w6∧(B≤w5.heap.size→∀b,sblk v6=some b→B<b):=by
 refine ⟨hm.mono fun b _ h=>hf b h,fun hB b hb=>?_⟩
 rcases hd with e | ⟨e,_⟩
 ·exact hf b (by rw [←e];exact hb)
 ·rw [e] at hb
  have h1:=Option.some.inj hb
  rw [World.size_alloc] at h1
  omega
set_option maxRecDepth 100000 in
set_option maxHeartbeats 3200000 in
theorem revoke_any (w:World) (s:Int) (n:Nat) (hn:n≤32) (K:List KeyD) (hK:K.length=n) (kv:Value) (B:Nat) (hB:B≤w.heap.size) (hk:Rd w B 3 kv n (keysV K)) (name:ByteArray):
 Calls Tryz.prog 114 #[.agg #[.int .i64 s,kv],.string name] w fun e w'=>∃v,e= .returned (.tuple #[.agg #[.int .i64 s,v],.int .i64 ((n:Int)-((without name K).length:Int))])∧
  Rd w' w'.heap.size 3 v (without name K).length (keysV (without name K))∧Below w.heap.size w w'∧∀b,sblk v=some b→w.heap.size≤b∧b<w'.heap.size:=by
 have HK:=Lib.hid hk
 obtain ⟨A,cap,rfl,hc1,hc2⟩:=hk.form
 clear hk
 go_enter Tryz.func114,Tryz.ntmps114
 go_wp2_with fail
 generalize hw1:World.alloc (World.alloc (World.alloc w _) _) _=w1
 have HB1:Hid (Below w.heap.size w w1):=by subst hw1;exact (((Below.refl _ _).alloc (Nat.le_refl _) _).alloc (by simp) _).alloc (by simp;omega) _
 have HT1:Hid (Blk w1 w.heap.size TB #[.int .i64 s,.slice A n cap]):=by subst hw1;exact ((Blk.new w _ _).alloc _).alloc _
 have HR1:Hid (Blk w1 (w.heap.size+1) TB #[.int .i64 0,.slice none 0 0]):=by subst hw1;have:=Blk.new (w.alloc (.cells #[.int .i64 s,.slice A n cap] TB)) TB #[.int .i64 0,.slice none 0 0];rw [World.size_alloc] at this;exact this.alloc _
 have HO1:Hid (Blk w1 (w.heap.size+1+1) TB #[.int .i64 s,.slice none 0 0]):=by subst hw1;have:=Blk.new ((w.alloc (.cells #[.int .i64 s,.slice A n cap] TB)).alloc (.cells #[.int .i64 0,.slice none 0 0] TB)) TB #[.int .i64 s,.slice none 0 0];rw [World.size_alloc,World.size_alloc] at this;exact this
 clear hw1
 go_loopw [8,15] (fun _ iv wx=>∃(i:Nat) (v:Value),iv= .int .i64 i∧i≤n∧Blk wx w.heap.size TB #[.int .i64 s,.slice A n cap]∧Blk wx (w.heap.size+1) TB #[.int .i64 0,.slice none 0 0]∧Blk wx (w.heap.size+1+1) TB #[.int .i64 s,v]∧
  Sl wx KY 3 v (without name (K.take i)).length (keysV (without name (K.take i)))∧(∀b,sblk v=some b→w.heap.size+1+1<b)∧Below w.heap.size w wx) (fun _ iv _=>n-(intOf iv).toNat)
 case atStart=>exact ⟨0,_,rfl,Nat.zero_le _,HT1.out,HR1.out,HO1.out,Sl.nil _ _ _,by simp [sblk],HB1.out⟩
 case round=>
  obtain ⟨i,v,rfl,hi,hT,hR,hO,hs,hf,hb⟩:=hrel
  have HT:=Lib.hid hT
  have HR:=Lib.hid hR
  have HO:=Lib.hid hO
  have HS:=Lib.hid hs
  have HF:=Lib.hid hf
  have HB:=Lib.hid hb
  clear hT hR hO hs hf hb
  by_cases hin:i<n
  ·obtain ⟨k,hki⟩:∃k,K[i]? =some k:=⟨K[i]'(by omega),List.getElem?_eq_getElem (by omega)⟩
   have HST:=Lib.hid (without_step name K i k hki)
   obtain ⟨b,off,cap',hA,_,_,hbB,hc⟩:=(HK.out.below (HB.out.mono hB)).at (by omega)
   injection hA with hA _ hcap;subst hA;subst hcap
   have c0:wr.cell? ⟨b,off+i*3,none⟩=some (.string (str k.text)):=hc (i*3) _ ((keysV_at K i k hki 0 (by omega)).trans rfl)
   have c1:wr.cell? ⟨b,off+i*3+1,none⟩=some (.string k.name):=hc (i*3+1) _ ((keysV_at K i k hki 1 (by omega)).trans rfl)
   have c2:wr.cell? ⟨b,off+i*3+2,none⟩=some (.int .i64 k.rights):=hc (i*3+2) _ ((keysV_at K i k hki 2 (by omega)).trans rfl)
   have hwi:IntKind.i64.wrap ((i:Int)+1)=(i:Int)+1:=by rw [IntKind.wrap_i64];omega
   have hlt:(i:Int)<(n:Int):=by omega
   have hlen:(without name (K.take i)).length≤32:=Nat.le_trans (without_len _ _) (by rw [List.length_take];omega)
   clear hc
   have d1:wr.cell? ⟨w.heap.size+1+1,1,none⟩=some v:=HO.out.cellS rfl
   have f1:=HO.out.frozen 1
   have hwl:w.heap.size+1+1<wr.heap.size:=HO.out.lt
   by_cases he:k.name=name
   ·have HST':Hid (without name (K.take (i+1))=without name (K.take i)):=by show _=_;rw [HST.out,if_pos he,List.append_nil]
    go_wp2_with fail
    refine ⟨⟨i+1,v,by go_num,by omega,HT.out.alloc _,HR.out.alloc _,HO.out.alloc _,by rw [HST'.out];exact HS.out.alloc _,HF.out,HB.out.alloc HB.out.size _⟩,?_⟩
    simp [intOf];omega
   ·obtain ⟨A5,cap5,rfl,_,_⟩:=HS.out.form
    have HST':Hid (without name (K.take (i+1))=without name (K.take i)++ [k]):=by show _=_;rw [HST.out,if_neg he]
    have HRD:Hid (Rd ((wr.alloc (.cells #[.string (str k.text),.string k.name,.int .i64 k.rights] 241)).alloc (.cells #[.string (str k.text),.string k.name,.int .i64 k.rights] 241)) (wr.heap.size+1+1) 3 (.slice (some ⟨wr.heap.size+1,0,none⟩) 1 1) 1 [.string (str k.text),.string k.name,.int .i64 k.rights]):=by
     have h:=Rd.fresh (wr.alloc (.cells #[.string (str k.text),.string k.name,.int .i64 k.rights] 241)) 241 #[.string (str k.text),.string k.name,.int .i64 k.rights] 3 1 rfl (by unfold maxLen;omega)
     rw [World.size_alloc] at h;exact h
    have HON:Hid (∀u∈ [Value.string (str k.text),.string k.name,.int .i64 k.rights],u.oneCell'=true):=by intro u hu;simp at hu;rcases hu with rfl | rfl | rfl<;>rfl
    have HKV:Hid (keysV (without name (K.take (i+1)))=keysV (without name (K.take i))++ [Value.string (str k.text),.string k.name,.int .i64 k.rights]∧(without name (K.take (i+1))).length=(without name (K.take i)).length+1):=by
     show _∧_
     rw [HST'.out,keysV,List.flatMap_append,List.length_append]
     exact ⟨rfl,rfl⟩
    generalize (without name (K.take i)).length=m at*
    generalize keysV (without name (K.take i))=xs at*
    have hbe:(k.name.toList==name.toList)=false:=by rw [beq_bytes];exact decide_eq_false he
    go_upto_region 6 with fail
    go_wp2_with (at_builtin;(refine wpList_append_sl _ rfl (.tmp 24) (.tmp 26) 100 rfl 241 (.agg #[.string ⟨#[]⟩,.string ⟨#[]⟩,.int .i64 0]) 3 40 Tryz.underlying100 Tryz.infoKey rfl (by decide) rfl (by exact (HS.out.alloc _).alloc _) rfl (by exact HRD.out) HON.out (by omega) (by unfold maxLen;omega) ?_);intro v6 w6 hs6 hm6 hd6;obtain ⟨A6,cap6,rfl,_,_⟩:=hs6.form;have e6:=revoke_a hm6 hd6 HF.out;clear hm6 hd6;have HT6:=Lib.hid (((HT.out.alloc _).alloc _).mod e6.1 (fun e=>by have e:w.heap.size+1+1<w.heap.size:=e;omega));have HR6:=Lib.hid (((HR.out.alloc _).alloc _).mod e6.1 (fun e=>by have e:w.heap.size+1+1<w.heap.size+1:=e;omega));have HO6:=Lib.hid (((HO.out.alloc _).alloc _).mod e6.1 (fun e=>by have e:w.heap.size+1+1<w.heap.size+1+1:=e;omega));have c60:w6.cell? ⟨w.heap.size+1+1,1,none⟩=some (.slice A5 m cap5):=HO6.out.cellS rfl;have f60:=HO6.out.frozen 1)
    have h6:=e6.2 (by rw [World.size_alloc];omega)
    have hne:sblk (.slice A6 (m+1) cap6)≠some (w.heap.size+1+1):=fun e=>by have:=h6 _ e;omega
    have hb6:Below w.heap.size w w6:=((HB.out.alloc HB.out.size _).alloc (by rw [World.size_alloc];have:=HB.out.size;omega) _).trans (e6.1.below (by rw [World.size_alloc,World.size_alloc];have:=HB.out.size;omega) fun q hq e=>by have e:w.heap.size+1+1<q:=e;omega)
    refine ⟨⟨i+1,.slice A6 (m+1) cap6,by go_num,by omega,HT6.out.far (p:=⟨w.heap.size+1+1,1,none⟩) (by show w.heap.size≠w.heap.size+1+1;omega) _,HR6.out.far (p:=⟨w.heap.size+1+1,1,none⟩) (by show w.heap.size+1≠w.heap.size+1+1;omega) _,HO6.out.set 1 _,?_,h6,hb6.setCell (p:=⟨w.heap.size+1+1,1,none⟩) (by show w.heap.size≤w.heap.size+1+1;omega) _⟩,?_⟩
    ·rw [HKV.out.1,HKV.out.2]
     exact hs6.far (p:=⟨w.heap.size+1+1,1,none⟩) hne _
    ·simp [intOf];omega
  ·have hge:(n:Int)≤(i:Int):=by omega
   have hin':i=n:=by omega
   have htk:K.take i=K:=List.take_of_length_le (by omega)
   rw [htk] at HS
   have hlen:(without name K).length≤32:=Nat.le_trans (without_len _ _) (by omega)
   obtain ⟨A5,cap5,rfl,_,_⟩:=HS.out.form
   have d0:wr.cell? ⟨w.heap.size,1,none⟩=some (.slice A n cap):=HT.out.cellS rfl
   have d1:wr.cell? ⟨w.heap.size+1+1,0,none⟩=some (.int .i64 s):=HO.out.cellS rfl
   have d2:wr.cell? ⟨w.heap.size+1+1,1,none⟩=some (.slice A5 (without name K).length cap5):=HO.out.cellS rfl
   have d3:wr.cell? ⟨w.heap.size+1,0,none⟩=some (.int .i64 0):=HR.out.cellS rfl
   have d4:wr.cell? ⟨w.heap.size+1,1,none⟩=some (.slice none 0 0):=HR.out.cellS rfl
   have f3:=HR.out.frozen 0
   have f4:=HR.out.frozen 1
   have hne:sblk (.slice A5 (without name K).length cap5)≠some (w.heap.size+1):=fun e=>by have:=HF.out _ e;omega
   have HFR:Hid (∀b,sblk (.slice A5 (without name K).length cap5)=some b→w.heap.size≤b∧b<wr.heap.size):=Lib.hid (fun b hb=>⟨by have:=HF.out b hb;omega,(HS.out.lt hb).1⟩)
   have HE:Hid (Rd ((wr.setCell ⟨w.heap.size+1,0,none⟩ (.int .i64 s)).setCell ⟨w.heap.size+1,1,none⟩ (.slice A5 (without name K).length cap5)) ((wr.setCell ⟨w.heap.size+1,0,none⟩ (.int .i64 s)).setCell ⟨w.heap.size+1,1,none⟩ (.slice A5 (without name K).length cap5)).heap.size 3 (.slice A5 (without name K).length cap5) (without name K).length (keysV (without name K))∧Below w.heap.size w ((wr.setCell ⟨w.heap.size+1,0,none⟩ (.int .i64 s)).setCell ⟨w.heap.size+1,1,none⟩ (.slice A5 (without name K).length cap5))):=⟨((HS.out.far (p:=⟨w.heap.size+1,0,none⟩) hne _).far (p:=⟨w.heap.size+1,1,none⟩) hne _).rd,(HB.out.setCell (p:=⟨w.heap.size+1,0,none⟩) (by show w.heap.size≤w.heap.size+1;omega) _).setCell (p:=⟨w.heap.size+1,1,none⟩) (by show w.heap.size≤w.heap.size+1;omega) _⟩
   have k0:((wr.setCell ⟨w.heap.size+1,0,none⟩ (.int .i64 s)).setCell ⟨w.heap.size+1,1,none⟩ (.slice A5 (without name K).length cap5)).drew.cell? ⟨w.heap.size+1,0,none⟩=some (.int .i64 s):=((HR.out.set 0 _).set 1 _).drew.cellS rfl
   have k1:((wr.setCell ⟨w.heap.size+1,0,none⟩ (.int .i64 s)).setCell ⟨w.heap.size+1,1,none⟩ (.slice A5 (without name K).length cap5)).drew.cell? ⟨w.heap.size+1,1,none⟩=some (.slice A5 (without name K).length cap5):=((HR.out.set 0 _).set 1 _).drew.cellS rfl
   have K0:=Lib.hid k0
   have K1:=Lib.hid k1
   clear k0 k1
   generalize hm:(without name K).length=m at*
   have HMM:=Lib.hid hm
   clear hm
   have hwm:IntKind.i64.wrap ((n:Int)-(m:Int))=(n:Int)-(m:Int):=by rw [IntKind.wrap_i64];omega
   clear HS HF htk
   go_wp2_with fail
   go_region_held3 (fun w'=>w'.cell? ⟨w.heap.size,1,none⟩=some (.slice A n cap)∧w'.cell? ⟨w.heap.size+1+1,0,none⟩=some (.int .i64 s)∧w'.cell? ⟨w.heap.size+1+1,1,none⟩=some (.slice A5 m cap5)) (first | exact ⟨d0,d1,d2⟩ | go_keep) (fail)
   all_goals (go_wp2_with fail)
   have hm:=HMM.out
   have k0:=K0.out
   have k1:=K1.out
   refine bodyPost_ret (v:= .tuple #[.agg #[.int .i64 s,.slice A5 m cap5],.int .i64 ((n:Int)-(m:Int))]) (by simp [results,Tryz.results114,go_sem,k0,k1]) rfl ?_
   subst hm
   exact ⟨_,rfl,HE.out.1,HE.out.2.drew,fun b hb=>⟨(HFR.out b hb).1,by
    have:=(HFR.out b hb).2
    simpa [World.size_setCell,World.drew] using this⟩⟩
end Go.Proofs.YthohnjgnpapnoaaGreatDoor
namespace Go.Proofs.YthohnjgnpapnoaaGreatDoor
open Go.RowKit
def intsV (l:List Int):List Value:=l.map (Value.int .i64)
theorem intsV_len (l:List Int):(intsV l).length=l.length:=by simp [intsV]
theorem intsV_at {l:List Int} {i:Nat} {x:Int} (h:l[i]? =some x):(intsV l)[i]? =some (.int .i64 x):=by simp [intsV,h]
theorem intsV_one (l:List Int):∀u∈intsV l,u.oneCell'=true:=fun u hu=>by
 obtain ⟨x,_,rfl⟩:=List.mem_map.1 hu;rfl
abbrev IT:=3
abbrev NT:=94
theorem Sl.put {w:World} {t:TypeId} {b off n cap:Nat} {xs:List Value} (h:Sl w t 1 (.slice (some ⟨b,off,none⟩) n cap) n xs) {i:Nat} (hi:i<n) (u:Value):
 Sl (w.setCell ⟨b,off+i,none⟩ u) t 1 (.slice (some ⟨b,off,none⟩) n cap) n (xs.set i u):=by
 obtain ⟨h1,A,cap',e,h2,h3,h4,h5⟩:=h
 injection e with e1 _ e2
 subst e1;subst e2
 obtain ⟨cs,c1,c2,c3,c4⟩:=h5 _ rfl
 refine ⟨by rw [List.length_set];exact h1,_,_,rfl,h2,h3,(fun h=>nomatch h),fun a ha=>?_⟩
 injection ha with ha;subst ha
 refine ⟨cs.setIfInBounds (off+i) u,rfl,c2.set _ _,by rw [Array.size_setIfInBounds];exact c3,?_⟩
 rw [←c4]
 simp only at c3 ⊢
 apply List.ext_getElem?
 intro j
 simp only [Array.toList_setIfInBounds,List.getElem?_set,List.getElem?_take,List.getElem?_drop,List.length_take,List.length_drop,Array.length_toList]
 simp only [Nat.mul_one] at c3 ⊢
 have a1:off+i<cs.size:=by omega
 have a2:i<min n (cs.size-off):=by omega
 by_cases hij:i=j
 ·subst hij
  simp [hi,a1,a2]
 ·have:off+i≠off+j:=by omega
  simp [hij]
theorem Sl.cut {w:World} {t:TypeId} {b off n m cap p o:Nat} {l:List Int} {u:Value} (h:Sl w t 1 (.slice (some ⟨b,off,none⟩) n cap) n (intsV l)) (hm:m≤n) (hne:sblk (.slice (some ⟨b,off,none⟩) n cap)≠some p):
 Sl (w.setCell ⟨p,o,none⟩ u) t 1 (.slice (some ⟨b,off,none⟩) m cap) m (intsV (l.take m)):=by
 have hl:=h.len
 have h2:=h.far (p:=⟨p,o,none⟩) hne u
 obtain ⟨_,A,cap',e,c1,c2,c3,c4⟩:=h2
 injection e with e1 _ e2
 subst e1;subst e2
 refine ⟨by rw [intsV_len] at hl;rw [intsV_len,List.length_take];omega,_,_,rfl,by omega,c2,(fun h=>nomatch h),fun a ha=>?_⟩
 obtain ⟨cs,d1,d2,d3,d4⟩:=c4 a ha
 refine ⟨cs,d1,d2,d3,?_⟩
 rw [intsV,List.map_take,←intsV,←d4,List.take_take,Nat.mul_one,Nat.mul_one]
 congr 1;omega
theorem Sl.out {w:World} {t:TypeId} {v:Value} {n:Nat} {l:List Int} (h:Sl w t 1 v n (intsV l)):l.length=n:=by
 have:=h.len;rw [intsV_len] at this;omega
set_option maxRecDepth 100000 in
theorem len_any (w:World) (A:Option Addr) (n cap:Nat):
 Calls Tryz.prog 260 #[.slice A n cap] w fun e w'=>e= .returned (.int .i64 n)∧w=w':=by
 go_enter Tryz.func260,Tryz.ntmps260
 go_wp2
 go_ret
 exact ⟨rfl,rfl⟩
set_option maxRecDepth 100000 in
theorem less_any (w:World) (v:Value) (n:Nat) (l:List Int) (h:Sl w IT 1 v n (intsV l)) (i j:Nat) (x y:Int) (hi:l[i]? =some x) (hj:l[j]? =some y):
 Calls Tryz.prog 261 #[v,.int .i64 i,.int .i64 j] w fun e w'=>e= .returned (.bool (decide (x<y)))∧Below w.heap.size w w'∧w'.heap=w.heap:=by
 have hl:=h.out
 have i1:=(List.getElem?_eq_some_iff.1 hi).1
 have j1:=(List.getElem?_eq_some_iff.1 hj).1
 obtain ⟨b,off,cap,rfl,hc1,hc2,hlt,hc,hf,_⟩:=h.at (by omega)
 have c0:=hc i _ (intsV_at hi)
 have c1:=hc j _ (intsV_at hj)
 have i2:(i:Int)<(n:Int):=by omega
 have j2:(j:Int)<(n:Int):=by omega
 clear hc hf h
 go_enter Tryz.func261,Tryz.ntmps261
 go_wp2_with fail
 go_quiet (fail)
 go_wp2
 go_ret
 exact ⟨rfl,⟨rfl,rfl,rfl,Nat.le_refl _,fun _ _=>rfl⟩,rfl⟩
set_option maxRecDepth 100000 in
theorem swap_any (w:World) (v:Value) (n:Nat) (l:List Int) (h:Sl w IT 1 v n (intsV l)) (i j:Nat) (x y:Int) (hi:l[i]? =some x) (hj:l[j]? =some y):
 Calls Tryz.prog 262 #[v,.int .i64 i,.int .i64 j] w fun e w'=>e= .returned (.tuple #[])∧Sl w' IT 1 v n (intsV ((l.set i y).set j x))∧Mod (fun b=>sblk v=some b) w w':=by
 have hl:=h.out
 have i1:=(List.getElem?_eq_some_iff.1 hi).1
 have j1:=(List.getElem?_eq_some_iff.1 hj).1
 obtain ⟨b,off,cap,rfl,hc1,hc2,hlt,hc,hf,_⟩:=h.at (by omega)
 have c0:=hc i _ (intsV_at hi)
 have c1:=hc j _ (intsV_at hj)
 have f0:=hf (off+i)
 have f1:=hf (off+j)
 have i2:(i:Int)<(n:Int):=by omega
 have j2:(j:Int)<(n:Int):=by omega
 have i1':i<n:=by omega
 have j1':j<n:=by omega
 clear hc hf
 have H:=Lib.hid h
 clear h
 go_enter Tryz.func262,Tryz.ntmps262
 go_wp2_with fail
 by_cases hij:i=j
 ·subst hij
  have hxy:x=y:=Option.some.inj (hi.symm.trans hj)
  subst hxy
  go_region
  go_wp2
  go_end0
  refine ⟨rfl,?_,?_⟩
  ·have:=(H.out.put (by omega) (.int .i64 x)).put (i:=i) (by omega) (.int .i64 x)
   rw [intsV,List.map_set,List.map_set]
   exact this
  ·exact (((Mod.refl (fun b'=>some b=some b') w).set (p:=⟨b,off+i,none⟩) (fun _=>rfl) _).set (p:=⟨b,off+i,none⟩) (fun _=>rfl) _).drew
 ·have hij':¬off+i=off+j:=by omega
  have hji':¬off+j=off+i:=by omega
  go_region
  go_wp2
  go_end0
  refine ⟨rfl,?_,?_⟩
  ·have:=(H.out.put i1' (.int .i64 y)).put (i:=j) j1' (.int .i64 x)
   rw [intsV,List.map_set,List.map_set]
   exact this
  ·exact (((Mod.refl (fun b'=>some b=some b') w).set (p:=⟨b,off+i,none⟩) (fun _=>rfl) _).set (p:=⟨b,off+j,none⟩) (fun _=>rfl) _).drew
def iface (x:Int):Value:= .iface 3 (.int .i64 x)
structure Wrote (S:Nat→Prop) (w w':World) (p o:Nat) (u:Value):Prop where
 mod:Mod (fun b=>b=p∨S b) w w'
 blk:∀t cs,Blk w p t cs→Blk w' p t (cs.setIfInBounds o u)
set_option maxRecDepth 100000 in
theorem npop_any (w:World) (p o:Nat) (v:Value) (n:Nat) (l:List Int) (hp:w.cell? ⟨p,o,none⟩=some v) (hf:w.frozen? ⟨p,o,none⟩=false) (h:Sl w IT 1 v (n+1) (intsV l)) (hne:sblk v≠some p) (x:Int) (hx:l[n]? =some x):
 Calls Tryz.prog 263 #[.pointer (some ⟨p,o,none⟩)] w fun e w'=>∃v',e= .returned (iface x)∧Sl w' IT 1 v' n (intsV (l.take n))∧sblk v'=sblk v∧Wrote (fun _=>False) w w' p o v':=by
 obtain ⟨b,off,cap,rfl,hc1,hc2,hlt,hc,hf',_⟩:=h.at (by omega)
 have c0:=hc n _ (intsV_at hx)
 have i2:(n:Int)<((n:Int)+1):=by omega
 have hwn:wrap64 (n:Int)=n:=by unfold maxLen at hc2;unfold wrap64;omega
 have H:=Lib.hid h
 clear hc hf' h
 go_enter Tryz.func263,Tryz.ntmps263
 go_wp2_with fail
 go_ret
 refine ⟨.slice (some ⟨b,off,none⟩) n cap,rfl,?_,rfl,?_⟩
 ·exact H.out.cut (by omega) hne
 ·exact ⟨(Mod.refl _ w).set (p:=⟨p,o,none⟩) (fun _=> .inl rfl) _,fun t cs hb=>hb.set _ _⟩
theorem push_end {w w7:World} {p o:Nat} {v v7:Value} {n:Nat} {xs xs0:List Value} {ob:Obj} (hpl:p<w.heap.size) (hp:w.cell? ⟨p,o,none⟩=some v) (hf:w.frozen? ⟨p,o,none⟩=false) (_hs0:Sl w IT 1 v n xs0) (hne:sblk v≠some p)
 (hm0:Mod (fun b=>sblk v=some b) (w.alloc ob).drew w7) (hd:sblk v7=sblk v∨sblk v7=some (w.alloc ob).drew.heap.size∧(w.alloc ob).drew.heap.size<w7.heap.size) (hs:Sl w7 IT 1 v7 (n+1) xs):
 w7.cell? ⟨p,o,none⟩=some v∧w7.frozen? ⟨p,o,none⟩=false∧Sl (w7.setCell ⟨p,o,none⟩ v7) IT 1 v7 (n+1) xs∧(sblk v7=sblk v∨∃q,sblk v7=some q∧w.heap.size≤q)∧Wrote (fun b=>sblk v=some b) w (w7.setCell ⟨p,o,none⟩ v7) p o v7:=by
 have hm:Mod (fun b=>sblk v=some b) w w7:=⟨hm0.os,hm0.tape,hm0.output,Nat.le_trans (by simp) hm0.size,fun k hk hn=>(hm0.block k (by show k<(w.alloc ob).heap.size;simp;omega) hn).trans (Below.heap_alloc w ob k hk)⟩
 have h7:sblk v7=sblk v∨∃q,sblk v7=some q∧w.heap.size≤q:=by
  rcases hd with h | ⟨h,_⟩
  ·exact .inl h
  ·exact .inr ⟨_,h,by show w.heap.size≤(w.alloc ob).heap.size;simp⟩
 refine ⟨(hm.cell (a:=⟨p,o,none⟩) hpl hne).trans hp,(hm.frozen (a:=⟨p,o,none⟩) hpl hne).trans hf,hs.far (p:=⟨p,o,none⟩) ?_ _,h7,?_,fun t cs hb=>?_⟩
 ·show sblk v7≠some p
  rcases h7 with h | ⟨q,h,hq⟩
  ·rw [h];exact hne
  ·rw [h];intro e;have:=Option.some.inj e;omega
 ·exact (hm.mono fun b _ h=> .inr h).set (p:=⟨p,o,none⟩) (fun _=> .inl rfl) _
 ·have hb':Blk w7 p t cs:=(hm.block p hpl hne).trans hb
  exact hb'.set _ _
theorem Tryz.infoInt:(Tryz.prog.info? 3).map (fun i=>(i.zero,i.size,i.bytes))=some (some (.int .i64 0),1,8):=by kernel_rfl
set_option maxRecDepth 100000 in
theorem npush_any (w:World) (p o:Nat) (v:Value) (n:Nat) (l:List Int) (hp:w.cell? ⟨p,o,none⟩=some v) (hf:w.frozen? ⟨p,o,none⟩=false) (h:Sl w IT 1 v n (intsV l)) (hne:sblk v≠some p) (x:Int) (hn:n≤1000000):
 Calls Tryz.prog 264 #[.pointer (some ⟨p,o,none⟩),iface x] w fun e w'=>∃v',e= .returned (.tuple #[])∧Sl w' IT 1 v' (n+1) (intsV (l++ [x]))∧(sblk v'=sblk v∨∃q,sblk v'=some q∧w.heap.size≤q)∧Wrote (fun b=>sblk v=some b) w w' p o v':=by
 have H:=Lib.hid h
 have hpl:=World.block_lt_of_cell? w _ hp
 have hpl:p<w.heap.size:=hpl
 have hpa:(w.alloc (.cells #[.int .i64 x] IT)).cell? ⟨p,o,none⟩=some v:=(World.cell?_alloc_lt w _ ⟨p,o,none⟩ hpl).trans hp
 obtain ⟨A,cap,rfl,hc1,hc2⟩:=h.form
 have HX:=Lib.hid (Rd.fresh w IT #[.int .i64 x] 1 1 rfl (by unfold maxLen;omega))
 have HN:=Lib.hid hne
 have HP:Hid (∀ob w7 v7 xs,Mod (fun b=>sblk (.slice A n cap)=some b) (w.alloc ob).drew w7→(sblk v7=sblk (.slice A n cap)∨sblk v7=some (w.alloc ob).drew.heap.size∧(w.alloc ob).drew.heap.size<w7.heap.size)→Sl w7 IT 1 v7 (n+1) xs→_):=fun ob w7 v7 xs h1 h2 h3=>push_end (o:=o) hpl hp hf h hne h1 h2 h3
 clear h hne
 have ha:∀w,(Instr.typeAssert (.iface 3 (.int .i64 x)) 20 3 false).run Tryz.prog w= .ok (.int .i64 x) w:=fun w=>by kernel_rfl
 unfold iface
 go_enter Tryz.func264,Tryz.ntmps264
 go_wp2_with fail
 go_region_law
  ((refine step_append_sl _ rfl (.tmp 7) (.tmp 10) NT rfl IT (.int .i64 0) 1 8 Tryz.underlying94 Tryz.infoInt rfl (by decide) rfl (by exact H.out.alloc _) rfl (by exact HX.out) (by intro u hu;simp at hu;subst hu;rfl) (by omega) (by unfold maxLen;omega) ?_;intro v' w1 hs1 hm1 hd1;obtain ⟨d0,d1,d2,d3,d4⟩:=HP.out _ _ _ _ hm1 hd1 hs1;obtain ⟨A',cap',rfl,g1,g2⟩:=hs1.form))
 all_goals go_wp2
 all_goals go_end0
 all_goals (refine ⟨_,rfl,?_,d3,d4⟩;rw [intsV,List.map_append];exact d2)
end Go.Proofs.YthohnjgnpapnoaaGreatDoor
namespace Go.Proofs.YthohnjgnpapnoaaGreatDoor
open Go.RowKit
theorem run_load_cell {P:Program} {w:World} {a:Addr} {v:Value} (h:w.cell? a=some v):(load a).run P w= .ok v w:=by
 simp [go_sem,h]
theorem meth_val {w:World} {p o:Nat} {v:Value} (fuel:Nat) (name:String) (f:Nat) (hm:(Tryz.prog.info? 270).map (fun I=>(I.methods.find? (fun x=>x.name==name)).map fun m=>(m.path.toList.length,m.func))=some (some (0,some (f,false)))) (h:w.cell? ⟨p,o,none⟩=some v):
 (method (fuel+1) 270 (.pointer (some ⟨p,o,none⟩)) name).run Tryz.prog w= .ok (f,v) w:=by
 obtain ⟨I,hI,h2⟩:=Option.map_eq_some_iff.1 hm
 obtain ⟨m,hf,h3⟩:=Option.map_eq_some_iff.1 h2
 simp only [Prod.mk.injEq] at h3
 obtain ⟨h4,h5⟩:=h3
 have h4:m.path.toList= []:=List.length_eq_zero_iff.1 h4
 have e0:(typeInfo 270).run Tryz.prog w= .ok I w:=by simp [typeInfo,go_sem,hI]
 have e2:∀s,(receiverAt 270 (.val (.pointer (some ⟨p,o,none⟩))) false s).run Tryz.prog w=(load ⟨p,o,none⟩).run Tryz.prog w:=by
  intro s
  cases s with
  | none=>kernel_rfl
  | some s=>kernel_rfl
 unfold method
 rw [Sem.run_bind,e0]
 simp only [Result.andThen_ok,hf,h4,h5,follow,Sem.run_bind,Sem.run_pure]
 rw [e2,run_load_cell h]
 rfl
theorem meth_len {w:World} {p o:Nat} {v:Value} (fuel:Nat) (h:w.cell? ⟨p,o,none⟩=some v):(method (fuel+1) 270 (.pointer (some ⟨p,o,none⟩)) "Len").run Tryz.prog w= .ok (260,v) w:=
 meth_val fuel "Len" _ (by kernel_rfl) h
theorem meth_less {w:World} {p o:Nat} {v:Value} (fuel:Nat) (h:w.cell? ⟨p,o,none⟩=some v):(method (fuel+1) 270 (.pointer (some ⟨p,o,none⟩)) "Less").run Tryz.prog w= .ok (261,v) w:=
 meth_val fuel "Less" _ (by kernel_rfl) h
theorem meth_swap {w:World} {p o:Nat} {v:Value} (fuel:Nat) (h:w.cell? ⟨p,o,none⟩=some v):(method (fuel+1) 270 (.pointer (some ⟨p,o,none⟩)) "Swap").run Tryz.prog w= .ok (262,v) w:=
 meth_val fuel "Swap" _ (by kernel_rfl) h
theorem meth_pop (w:World) (p o fuel:Nat):(method (fuel+1) 270 (.pointer (some ⟨p,o,none⟩)) "Pop").run Tryz.prog w= .ok (263,.pointer (some ⟨p,o,none⟩)) w:=by kernel_rfl
theorem meth_push (w:World) (p o fuel:Nat):(method (fuel+1) 270 (.pointer (some ⟨p,o,none⟩)) "Push").run Tryz.prog w= .ok (264,.pointer (some ⟨p,o,none⟩)) w:=by kernel_rfl
end Go.Proofs.YthohnjgnpapnoaaGreatDoor
