/- speech.Keyed: the walk, at every string. · strconv.FormatUint(x, 16): small letters and digits, 1 to 16 of them. · strconv.FormatUint(., 16) and keys.mix. · DERIVED: THE SHELF's CONTRACTS AT THIS DUMP, IN PLAIN WORDS (tools/lay-plain.mjs out of 'YthohnjgnpapnoaaGreatDoorXShelf.lean', which tools/lay-shelf.mjs wrote): THE SAME DECLARATIONS UNDER THE SAME NAMES: 'import', 'namespace', 'open', 'def', 'theorem' AND NOTHING ELSE: no command of the shelf's: FOR A HAND-IN. Each laying: the table of numbers ('.._ren') and one theorem, a field a fact of the dump's own or the kernel's comparison; each contract: ONE APPLICATION. · First walks: spot. · keys.Mint: the walk. -/
import Derived.Test.YthohnjgnpapnoaaGreatDoorR1
import Derived.Laws.BitsLemmas
import Derived.Laws.Bits64
import Derived.Laws.BitsAllLaws
import Derived.Laws.Wrap64
import Derived.Deep.DeepCutAuto
import Derived.BigQuiet
import Derived.Shelf.Strings.Builder1
import Derived.Shelf.Strings.Trim
import Derived.Shelf.Small.Utf8
import Derived.Shelf.Small.Bits
import Derived.Shelf.Small.Strs
import Derived.Shelf.Small.Wraps
import Derived.Shelf.Strings.BuilderF
import Derived.Shelf.Strings.BuilderK
import Derived.Shelf.Strconv.Atoi
import Derived.Shelf.Strconv.Itoa0
import Derived.Shelf.Strconv.Itoa1
import Derived.Shelf.LaysM
import Derived.Shelf.Strconv.Itoa2
import Derived.Shelf.Strconv.Itoa3
import Derived.Shelf.Strconv.AtoiErrFast
import Derived.Shelf.Strconv.ParseIntEmpty
import Derived.Shelf.Strconv.AtoiFail
import Derived.Shelf.Strconv.Clone
import Derived.Shelf.Strconv.SyntaxError
import Derived.Shelf.LaysC
import Derived.Shelf.Strconv.ToError
import Derived.Shelf.Strconv.Lower
import Derived.Shelf.Strconv.ParseUint10
import Derived.Shelf.Strconv.ParseUint10Empty
import Derived.Shelf.Strconv.ParseUint10Any
import Derived.Shelf.Strconv.ParseInt10
import Derived.Shelf.Strconv.AtoiLong
import Derived.Shelf.Strconv.AtoiInnerAll
import Derived.Shelf.Strconv.RangeError
import Derived.Shelf.Strconv.ToErrorRange
import Derived.Shelf.Strconv.AtoiAll
import Derived.Shelf.Strconv.ErrVarAll
import Derived.Shelf.Strings.Search1
import Derived.Shelf.Strings.Search2
import Derived.Shelf.Strings.Search3
import Derived.Shelf.Strings.Cut
import Derived.Shelf.Strings.Count
import Derived.Shelf.Strings.Shaped
import Derived.Shelf.Strings.Prefix
import Derived.Shelf.Strings.Split
import Derived.Shelf.Strings.SplitShaped
import Derived.Shelf.Unicode.Decode
import Derived.Shelf.Strings.Runes
import Derived.Shelf.Strings.RuneCount
import Derived.Shelf.Strings.AsciiSet
import Derived.Shelf.Strings.Explode
import Derived.Shelf.Unicode.DecodeSlow
import Derived.Shelf.Strings.BuilderCap
import Derived.Test.YthohnjgnpapnoaaGreatDoorProg
import Derived.Test.YthohnjgnpapnoaaGreatDoorRows
import Derived.WalkKit
import Derived.WalkSpells
import Derived.WalkLawsBesides
import Derived.Handy
import Derived.Lib.Hide
import Derived.Deep.RegionHeld3
import Derived.Laws.Concat
set_option linter.unusedVariables false
set_option linter.unusedSimpArgs false
namespace Go.Proofs.YthohnjgnpapnoaaGreatDoor
open Go.RowKit
def keyB (c:UInt8):Bool:=lowC c || digC c
theorem keyedW_eq (s:List UInt8):keyedW s=(decide (2≤s.length∧s.length≤41)&&decide (s.head? =some 33)&&(s.drop 1).all keyB):=rfl
theorem drop_step {f:UInt8→Bool} {s:List UInt8} {i:Nat} (h1:1≤i) (hi:i<s.length) (h:((s.take i).drop 1).all f=true) (hc:f (s[i])=true):((s.take (i+1)).drop 1).all f=true:=by
 rw [List.take_succ_eq_append_getElem hi,List.drop_append_of_le_length (by rw [List.length_take];omega),List.all_append,h]
 simp [hc]
theorem drop_fail {f:UInt8→Bool} {s:List UInt8} {i:Nat} (h1:1≤i) (hi:i<s.length) (hc:f (s[i])=false):(s.drop 1).all f=false:=by
 rw [List.all_eq_false]
 refine ⟨s[i],List.mem_iff_getElem.2 ⟨i-1,by rw [List.length_drop];omega,?_⟩,by rw [hc];simp⟩
 rw [List.getElem_drop]
 congr 1
 omega
set_option maxRecDepth 100000 in
set_option maxHeartbeats 3200000 in
theorem keyedS_any (w:World) (s:List UInt8) (hl:s.length≤4294967296):
 Calls Tryz.prog 115 #[.string (str s)] w fun e w'=>e= .returned (.bool (keyedW s))∧w=w':=by
 have hz:((str s).size:Int)=(s.length:Int):=by rw [str_size]
 have hlb:(s.length:Int)≤4294967296:=by omega
 by_cases h1:s.length<2
 ·have HF:Hid (keyedW s=false):=by show keyedW s=false;rw [keyedW_eq,decide_eq_false (by omega)];rfl
  have h1':(s.length:Int)<2:=by omega
  clear h1
  go_enter Tryz.func115,Tryz.ntmps115
  go_wp2_with fail
  go_ret
  exact ⟨by rw [HF.out];rfl,rfl⟩
 by_cases h2:41<s.length
 ·have HF:Hid (keyedW s=false):=by show keyedW s=false;rw [keyedW_eq,decide_eq_false (by omega)];rfl
  have h2':41<(s.length:Int):=by omega
  clear h1 h2
  go_enter Tryz.func115,Tryz.ntmps115
  go_wp2_with fail
  go_ret
  exact ⟨by rw [HF.out];rfl,rfl⟩
 have hi0:(Instr.index 9 (.string (str s)) (.int .i64 0)).run Tryz.prog w= .ok (.int .u8 ((s[0]'(by omega)).toNat:Int)) w:=by
  rw [run_index_string w _ _ _ _ Tryz.underlying9,dif_pos ⟨by omega,by rw [hz];omega⟩]
  rfl
 have hh:s.head? =some (s[0]'(by omega)):=by cases s with
  | nil=>simp at h1
  | cons a r=>rfl
 have HLEN:Hid (decide (2≤s.length∧s.length≤41)=true):=decide_eq_true (by omega)
 have HB:=Lib.hid (And.intro h1 h2)
 have hb1:¬((s.length:Int)<2):=by omega
 have hb2:¬(41<(s.length:Int)):=by omega
 by_cases h3:s[0]'(by omega)=33
 ·rw [h3] at hi0 hh
  have HH:Hid (decide (s.head? =some 33)=true):=decide_eq_true hh
  have hi1:(Instr.index 9 (.string (str s)) (.int .i64 0)).run Tryz.prog w= .ok (.int .u8 33) w:=hi0
  clear hi0 hh h3 h1 h2
  go_enter Tryz.func115,Tryz.ntmps115
  go_wp2_with fail
  go_loopw [3] (fun iv wx=>∃i:Nat,iv= .int .i64 i∧1≤i∧i≤s.length∧((s.take i).drop 1).all keyB=true∧wx=w) (fun iv _=>s.length-(intOf iv).toNat)
  case atStart=>exact ⟨1,rfl,Nat.le_refl _,by have:=HB.out;omega,by rw [List.drop_of_length_le (by rw [List.length_take];omega)];rfl,rfl⟩
  case round=>
   obtain ⟨i,rfl,hi1',hi2,ha,rfl⟩:=hrel
   clear hi1
   by_cases hin:i<s.length
   ·have hlt:(i:Int)<(s.length:Int):=by omega
    have hidx:(Instr.index 9 (.string (str s)) (.int .i64 (i:Int))).run Tryz.prog wr= .ok (.int .u8 ((s[i]).toNat:Int)) wr:=by
     rw [run_index_string wr _ _ _ _ Tryz.underlying9,dif_pos ⟨by omega,by rw [hz];omega⟩]
     rfl
    have hwi:IntKind.i64.wrap ((i:Int)+1)=(i:Int)+1:=by rw [IntKind.wrap_i64];omega
    have HA:=Lib.hid (fun hc=>drop_step hi1' hin ha (f:=keyB) hc)
    have HF:=Lib.hid (fun hc=>drop_fail hi1' hin (f:=keyB) hc)
    have HIN:=Lib.hid (And.intro hi1' hin)
    generalize s[i]=c at HA HF hidx
    clear ha hin hi1' hi2
    by_cases k:keyB c=true
    ·have HK:=Lib.hid k
     have k':(97≤c.toNat∧c.toNat≤122)∨(48≤c.toNat∧c.toNat≤57):=by simpa [keyB,lowC,digC] using k
     clear k
     rcases k' with ⟨k1,k2⟩ | ⟨k1,k2⟩
     ·have q1:¬((c.toNat:Int)<97):=by omega
      have q2:¬(122<(c.toNat:Int)):=by omega
      clear k1 k2
      go_wp2_with fail
      refine ⟨⟨i+1,by go_num,by omega,HIN.out.2,HA.out HK.out,trivial⟩,?_⟩
      simp [intOf];have:=HIN.out;omega
     ·have q1:(c.toNat:Int)<97:=by omega
      have q2:¬((c.toNat:Int)<48):=by omega
      have q3:¬(57<(c.toNat:Int)):=by omega
      clear k1 k2
      go_wp2_with fail
      refine ⟨⟨i+1,by go_num,by omega,HIN.out.2,HA.out HK.out,trivial⟩,?_⟩
      simp [intOf];have:=HIN.out;omega
    ·have HK:=Lib.hid (show keyB c=false by simpa using k)
     have k':¬((97≤c.toNat∧c.toNat≤122)∨(48≤c.toNat∧c.toNat≤57)):=by simpa [keyB,lowC,digC] using k
     clear k
     by_cases q1:(c.toNat:Int)<97
     ·by_cases q2:(c.toNat:Int)<48
      ·clear k'
       go_wp2_with fail
       go_ret
       exact ⟨by rw [keyedW_eq,HF.out HK.out,Bool.and_false];rfl,rfl⟩
      ·have q3:57<(c.toNat:Int):=by omega
       clear k'
       go_wp2_with fail
       go_ret
       exact ⟨by rw [keyedW_eq,HF.out HK.out,Bool.and_false];rfl,rfl⟩
     ·have q2:122<(c.toNat:Int):=by omega
      have q3:¬((c.toNat:Int)<48):=by omega
      have q4:57<(c.toNat:Int):=by omega
      clear k'
      go_wp2_with fail
      go_ret
      exact ⟨by rw [keyedW_eq,HF.out HK.out,Bool.and_false];rfl,rfl⟩
   ·have hge:(s.length:Int)≤(i:Int):=by omega
    rw [List.take_of_length_le (by omega)] at ha
    have HAA:=Lib.hid ha
    clear ha
    go_wp2_with fail
    go_ret
    exact ⟨by rw [keyedW_eq,HLEN.out,HH.out,HAA.out];rfl,rfl⟩
 ·have HH:Hid (decide (s.head? =some 33)=false):=decide_eq_false (by rw [hh];exact fun e=>h3 (Option.some.inj e))
  have hne:((s[0]'(by omega)).toNat:Int)≠33:=fun e=>h3 (UInt8.toNat_inj.1 (by show (s[0]'(by omega)).toNat=33;omega))
  generalize s[0]'(by omega)=c at hi0 hne
  have hnb:((c.toNat:Int)==33)=false:=beq_eq_false_iff_ne.2 hne
  clear hh h3 h1 h2 hne
  go_enter Tryz.func115,Tryz.ntmps115
  go_wp2_with fail
  go_ret
  exact ⟨by rw [keyedW_eq,HLEN.out,HH.out];rfl,rfl⟩
end Go.Proofs.YthohnjgnpapnoaaGreatDoor
namespace Go.Proofs.YthohnjgnpapnoaaGreatDoor
open Go.RowKit
def hexC (c:UInt8):Prop:=(48≤c.toNat∧c.toNat≤57)∨(97≤c.toNat∧c.toNat≤102)
set_option maxRecDepth 100000 in
theorem tz64 (w:World) (h:w.cell? ⟨4,15,none⟩=some (.int .u8 4)):
 Calls Tryz.prog 197 #[.int .u64 16] w fun e w'=>e= .returned (.int .i64 4)∧w=w':=by
 have e1:IntKind.u64.wrap (bits .and .u64 16 (IntKind.u64.wrap (-16))*285870213051353865)/288230376151711744=15:=by decide+kernel
 go_enter Tryz.func197,Tryz.ntmps197
 go_wp2
 go_ret
 exact ⟨rfl,rfl⟩
set_option maxRecDepth 100000 in
theorem tz (w:World) (h:w.cell? ⟨4,15,none⟩=some (.int .u8 4)):
 Calls Tryz.prog 175 #[.int .u64 16] w fun e w'=>e= .returned (.int .i64 4)∧w=w':=by
 have H:=Lib.hid h
 clear h
 go_enter Tryz.func175,Tryz.ntmps175
 go_wp2_with fail
 (with_reducible refine (tz64 _ H.out).mono ?_)
 rintro e w' ⟨rfl,rfl⟩
 go_wp2
 go_ret
 exact ⟨rfl,rfl⟩
set_option maxRecDepth 100000 in
theorem pow_two (w:World):Calls Tryz.prog 174 #[.int .i64 16] w fun e w'=>e= .returned (.bool true)∧w=w':=by
 have e1:bits .and .i64 16 15=0:=by decide+kernel
 go_enter Tryz.func174,Tryz.ntmps174
 go_wp2
 go_ret
 exact ⟨rfl,rfl⟩
def digH (k:Nat):UInt8:=if k<10 then UInt8.ofNat (48+k) else UInt8.ofNat (87+k)
theorem digH_hex:∀k:Fin 16,hexC (digH k.val):=by unfold hexC;decide+kernel
theorem dig_index (k:Nat) (hk:k<16) (w:World):(Instr.index 9 (.string ⟨#[48,49,50,51,52,53,54,55,56,57,97,98,99,100,101,102,103,104,105,106,107,108,109,110,111,112,113,114,115,116,117,118,119,120,121,122]⟩) (.int .u64 (k:Int))).run Tryz.prog w= .ok (.int .u8 (digH k).toNat) w:=by
 have key:∀k:Fin 16,(⟨#[48,49,50,51,52,53,54,55,56,57,97,98,99,100,101,102,103,104,105,106,107,108,109,110,111,112,113,114,115,116,117,118,119,120,121,122]⟩:ByteArray)[k.val]'(Nat.lt_of_lt_of_le k.isLt (by decide))=digH k.val:=by decide+kernel
 have h:=key ⟨k,hk⟩
 rw [run_index_string w _ _ _ _ Tryz.underlying9,dif_pos ⟨by omega,by show (k:Int)<36;omega⟩]
 simp only at h
 simp only [Int.toNat_natCast,h]
theorem slice65 (b j:Nat) (hj:j≤15) (w:World):(Instr.sliceAt 254 (.pointer (some ⟨b,0,none⟩)) (some (.int .i64 (65-(j:Int)-1))) none none).run Tryz.prog w= .ok (.slice (some ⟨b,64-j,none⟩) (j+1) (j+1)) w:=by
 have e65:Tryz.prog.arrayLen 254=65:=by kernel_rfl
 have hel:Tryz.prog.elem 254=5:=by kernel_rfl
 rw [run_sliceAt_array_l w _ _ (by kernel_rfl) .i64 _ (by omega) (by rw [e65];omega),hel,e65]
 have ht:(65-(j:Int)-1).toNat=64-j:=by omega
 rw [ht]
 have hn:¬(65=64-j):=by omega
 have hd:65-(64-j)=j+1:=by omega
 have hz:(sizeOf 5).run Tryz.prog w= .ok 1 w:=by first | go_simp | kernel_rfl
 rw [hz]
 simp [slicedAt,if_neg hn,hd,Addr.add]
 omega
def hexL (u:Nat) (acc:List UInt8):List UInt8:=if _h:16≤u then hexL (u/16) (digH (u%16)::acc) else digH u::acc
termination_by u
decreasing_by omega
theorem hexL_more {u:Nat} (h:16≤u) (acc:List UInt8):hexL u acc=hexL (u/16) (digH (u%16)::acc):=by rw [hexL,dif_pos h]
theorem hexL_last {u:Nat} (h:u<16) (acc:List UInt8):hexL u acc=digH u::acc:=by rw [hexL,dif_neg (by omega)]
theorem u64_and15 (x:Int) (h0:0≤x) (h1:x<18446744073709551616):bits .and .u64 x 15=x%16:=
 bits_mask .u64 64 (by decide) (fun n a b=>by rw [IntKind.wrap_u64];omega) 4 (by decide) x h0 h1
theorem set_drop {l:List Value} {i:Nat} (h:i<l.length) (v:Value):(l.set i v).drop i=v::l.drop (i+1):=by
 rw [List.drop_eq_getElem_cons (by rw [List.length_set];exact h),List.getElem_set_self,List.drop_set_of_lt (by omega)]
theorem zeros88:(Tryz.zeroCells254).size=65:=by kernel_rfl
set_option maxRecDepth 100000 in
set_option maxHeartbeats 3200000 in
theorem format_bits (w:World) (u:Int) (h0:0≤u) (h1:u<18446744073709551616) (h:w.cell? ⟨4,15,none⟩=some (.int .u8 4)):
 Calls Tryz.prog 132 #[.slice none 0 0,.int .u64 u,.int .i64 16,.bool false,.bool false] w fun e w'=>
  ∃s:List UInt8,e= .returned (.tuple #[.slice none 0 0,.string (str s)])∧s=hexL u.toNat []∧(1≤s.length∧s.length≤16)∧(∀c∈s,hexC c)∧Below w.heap.size w w':=by
 have H:=Lib.hid h
 have hlt5:4<w.heap.size:=World.block_lt_of_cell? w _ h
 clear h
 go_enter Tryz.func132,Tryz.ntmps132
 go_wp2_with fail
 (with_reducible refine (pow_two _).mono ?_)
 rintro e wq ⟨rfl,rfl⟩
 generalize hw1:World.alloc w _=w1
 have HB1:Hid (Below w.heap.size w w1):=by subst hw1;exact (Below.refl _ _).alloc (Nat.le_refl _) _
 have HT1:Hid (Blk w1 w.heap.size 254 Tryz.zeroCells254):=by subst hw1;exact Blk.new w _ _
 have HC1:Hid (w1.cell? ⟨4,15,none⟩=some (.int .u8 4)):=(HB1.out.cell (p:=⟨4,15,none⟩) hlt5).trans H.out
 clear hw1
 go_wp2_with fail
 (with_reducible refine (tz _ HC1.out).mono ?_)
 rintro e wq ⟨rfl,rfl⟩
 obtain ⟨un,rfl⟩:=Int.eq_ofNat_of_zero_le h0
 go_wp2_with fail
 go_loopw [1,13] (fun uv iv wx=>∃(j uu:Nat) (hs:List UInt8) (cs:Array Value),j≤15∧iv= .int .i64 (65-(j:Int))∧uv= .int .u64 uu∧uu<16^(16-j)∧Blk wx w.heap.size 254 cs∧cs.size=65∧cs.toList.drop (65-j)=bytesV hs∧hs.length=j∧(∀c∈hs,hexC c)∧hexL uu hs=hexL un []∧Below w.heap.size w wx) (fun uv _ _=>(intOf uv).toNat)
 case atStart=>exact ⟨0,un,[],_,by omega,rfl,rfl,by omega,HT1.out,zeros88,by rw [List.drop_of_length_le (by rw [Array.length_toList,zeros88];omega)];rfl,rfl,by simp,rfl,HB1.out⟩
 case round=>
  obtain ⟨j,uu,hs,cs,hj,rfl,rfl,hu,hbk,hsz,hdr,hl,hx,hxl,hb⟩:=hrel
  have HXL:=Lib.hid hxl
  clear hxl
  have HBK:=Lib.hid hbk
  have HX:=Lib.hid hx
  have HB:=Lib.hid hb
  have HU:=Lib.hid hu
  have hu64:(uu:Int)<18446744073709551616:=by
   have:16^(16-j)≤16^16:=Nat.pow_le_pow_right (by omega) (by omega)
   omega
  have hand:=u64_and15 uu (by omega) hu64
  have HDR:=Lib.hid hdr
  have HSZ:=Lib.hid hsz
  have HL:=Lib.hid hl
  clear hbk hx hb hu hdr hsz hl
  by_cases hge:(16:Int)≤(uu:Int)
  ·have hk:uu%16<16:=Nat.mod_lt _ (by omega)
   have HD:=Lib.hid (digH_hex ⟨uu%16,hk⟩)
   go_upto_region 13 with fail
   have hlit:((uu:Int)%16)=((uu%16:Nat):Int):=by omega
   have hidx:=dig_index (uu%16) hk
   rw [←hlit] at hidx
   have hpi:(65-(j:Int)-1).toNat=64-j:=by omega
   clear hlit
   have hcell:wr.cell? ⟨w.heap.size,64-j,none⟩=some cs[64-j]! :=by
    rw [HBK.out.cell,Array.getElem!_eq_getD,Array.getD_eq_getD_getElem?,Array.getElem?_eq_getElem (by rw [HSZ.out];omega)];rfl
   have hfz:=HBK.out.frozen (64-j)
   go_wp2_with fail
   have hj15:j+1≤15:=by
    rcases Nat.lt_or_ge j 15 with h | h
    ·omega
    ·have e:=HU.out
     rw [show 16-j=1 by omega] at e
     omega
   have hup:uu/16<16^(16-(j+1)):=by
    have e:=HU.out
    rw [show 16-j=(16-(j+1))+1 by omega,Nat.pow_succ] at e
    exact Nat.div_lt_of_lt_mul (by omega)
   have hl64:64-j<cs.toList.length:=by rw [Array.length_toList,HSZ.out];omega
   refine ⟨⟨j+1,uu/16,digH (uu%16)::hs,_,hj15,by congr 1;omega,by congr 1,hup,HBK.out.set _ _,by rw [Array.size_setIfInBounds,HSZ.out],?_,by rw [List.length_cons,HL.out],?_,by rw [←hexL_more (by omega)];exact HXL.out,HB.out.setCell (Nat.le_refl _) _⟩,?_⟩
   ·rw [Array.toList_setIfInBounds,show 65-(j+1)=64-j by omega,set_drop hl64,show 64-j+1=65-j by omega,HDR.out];rfl
   ·intro c hc
    rw [List.mem_cons] at hc
    rcases hc with rfl | hc
    ·exact HD.out
    ·exact HX.out c hc
   ·simp [intOf];omega
  ·have hk:uu<16:=by omega
   have HD:=Lib.hid (digH_hex ⟨uu,hk⟩)
   have hidx:=dig_index uu hk
   have hpi:(65-(j:Int)-1).toNat=64-j:=by omega
   have hcell:wr.cell? ⟨w.heap.size,64-j,none⟩=some cs[64-j]! :=by
    rw [HBK.out.cell,Array.getElem!_eq_getD,Array.getD_eq_getD_getElem?,Array.getElem?_eq_getElem (by rw [HSZ.out];omega)];rfl
   have hfz:=HBK.out.frozen (64-j)
   clear hand
   go_upto_region 25 with fail
   generalize hw2:World.setCell wr _ _=w2
   have hl64:64-j<cs.toList.length:=by rw [Array.length_toList,HSZ.out];omega
   have hb2:Blk w2 w.heap.size 254 (cs.setIfInBounds (64-j) (.int .u8 (digH uu).toNat)):=by subst hw2;exact HBK.out.set _ _
   have HB2:Hid (Below w.heap.size w w2):=by subst hw2;exact HB.out.setCell (Nat.le_refl _) _
   have hdr2:(cs.setIfInBounds (64-j) (.int .u8 (digH uu).toNat)).toList.drop (64-j)=bytesV (digH uu::hs):=by
    rw [Array.toList_setIfInBounds,set_drop hl64,show 64-j+1=65-j by omega,HDR.out];rfl
   have hrd:Rd w2 (w.heap.size+1) 1 (.slice (some ⟨w.heap.size,64-j,none⟩) (j+1) (j+1)) (j+1) (bytesV (digH uu::hs)):=by
    refine ⟨by simp [bytesV,HL.out],_,_,rfl,Nat.le_refl _,by unfold maxLen;omega,fun _=>⟨_,_,rfl,by omega,fun i u hi=>?_⟩⟩
    rw [hb2.cell,←Array.getElem?_toList,←List.getElem?_drop,hdr2]
    exact hi
   have hcv:=run_bytes_str (w:=w2) 81 9 5 Tryz.underlying81 Tryz.underlying5 Tryz.underlying9 hrd
   have hsl:=slice65 w.heap.size j hj w2
   clear hw2 hcell hfz hidx hb2 hdr2 hrd
   go_wp2_with fail
   go_ret2
   refine ⟨digH uu::hs,rfl,by rw [←HXL.out,hexL_last hk],⟨by simp,by rw [List.length_cons,HL.out];omega⟩,?_,HB2.out⟩
   intro c hc
   rw [List.mem_cons] at hc
   rcases hc with rfl | hc
   ·exact HD.out
   ·exact HX.out c hc
end Go.Proofs.YthohnjgnpapnoaaGreatDoor
namespace Go.Proofs.YthohnjgnpapnoaaGreatDoor
open Go.RowKit
def HexPost (w:World) (u:Int) (e:Ending) (w':World):Prop:=
 ∃s:List UInt8,e= .returned (.string (str s))∧s=hexL u.toNat []∧(1≤s.length∧s.length≤16)∧(∀c∈s,hexC c)∧Below w.heap.size w w'
set_option maxRecDepth 100000 in
theorem fmt_in (w:World) (u:Int) (h0:0≤u) (h1:u<18446744073709551616) (h:w.cell? ⟨4,15,none⟩=some (.int .u8 4)):
 Calls Tryz.prog 194 #[.int .u64 u,.int .i64 16] w (HexPost w u):=by
 have H:=Lib.hid h
 clear h
 go_enter Tryz.func194,Tryz.ntmps194
 go_wp2_with fail
 (with_reducible refine (format_bits _ u h0 h1 H.out).mono ?_)
 rintro e w' ⟨s,rfl,hd,hl,hx,hb⟩
 have HR:Hid (HexPost w u (.returned (.string (str s))) w'):=⟨s,rfl,hd,hl,hx,hb⟩
 clear hd hl hx hb
 go_wp2
 go_ret
 exact HR.out
set_option maxRecDepth 100000 in
theorem fmt (w:World) (u:Int) (h0:0≤u) (h1:u<18446744073709551616) (h:w.cell? ⟨4,15,none⟩=some (.int .u8 4)):
 Calls Tryz.prog 165 #[.int .u64 u,.int .i64 16] w (HexPost w u):=by
 have H:=Lib.hid h
 clear h
 go_enter Tryz.func165,Tryz.ntmps165
 go_wp2_with fail
 (with_reducible refine (fmt_in _ u h0 h1 H.out).mono ?_)
 rintro e w' ⟨s,rfl,hd,hl,hx,hb⟩
 have HR:Hid (HexPost w u (.returned (.string (str s))) w'):=⟨s,rfl,hd,hl,hx,hb⟩
 clear hd hl hx hb
 go_wp2
 go_ret
 exact HR.out
def mix0 (a b:Int):Int:=IntKind.u64.wrap (IntKind.u64.wrap (IntKind.u64.wrap a*11400714819323198485)+IntKind.u64.wrap b)
def mix1 (z:Int):Int:=IntKind.u64.wrap (bits .xor .u64 z (z/1073741824)*13787848793156543929)
def mix2 (z:Int):Int:=IntKind.u64.wrap (bits .xor .u64 z (z/134217728)*10723151780598845931)
def mixV (a b:Int):Int:=bits .xor .u64 (mix2 (mix1 (mix0 a b))) (mix2 (mix1 (mix0 a b))/2147483648)
theorem xor_range (X d:Int) (hd:0<d):0≤bits .xor .u64 (IntKind.u64.wrap X) (IntKind.u64.wrap X/d)∧bits .xor .u64 (IntKind.u64.wrap X) (IntKind.u64.wrap X/d)<18446744073709551616:=by
 have h0:0≤IntKind.u64.wrap X:=by rw [IntKind.wrap_u64];omega
 have h1:IntKind.u64.wrap X<18446744073709551616:=by rw [IntKind.wrap_u64];omega
 generalize IntKind.u64.wrap X=x at*
 obtain ⟨n,rfl⟩:=Int.eq_ofNat_of_zero_le h0
 obtain ⟨m,rfl⟩:=Int.eq_ofNat_of_zero_le (Int.le_of_lt hd)
 rw [xorShift_u64 n m (by omega)]
 have:n^^^n/m<2^64:=Nat.xor_lt_two_pow (by omega) (Nat.lt_of_le_of_lt (Nat.div_le_self _ _) (by omega))
 omega
set_option maxRecDepth 100000 in
theorem mix_any (w:World) (a b:Int):
 Calls Tryz.prog 166 #[.int .i64 a,.int .i64 b] w fun e w'=>e= .returned (.int .u64 (mixV a b))∧(0≤mixV a b∧mixV a b<18446744073709551616)∧w=w':=by
 go_enter Tryz.func166,Tryz.ntmps166
 go_wp2
 go_ret
 exact ⟨rfl,xor_range _ 2147483648 (by omega),rfl⟩
end Go.Proofs.YthohnjgnpapnoaaGreatDoor
namespace Go.Proofs
open Go.Shelf
def Tryz.lays171_ren:Go.Shelf.Ren:=⟨fun | 171=>34 | 243=>55 | 246=>85 | 283=>129 | 284=>130 | 285=>131 | 286=>132 | 129=>127 | 317=>172 | 318=>173 | 319=>174 | 320=>175 | 337=>196 | 338=>197 | n=>n,fun | 3=>3 | 9=>9 | 2=>2 | 4=>4 | 171=>210 | 0=>0 | 53=>171 | 37=>81 | 5=>5 | 173=>212 | 212=>253 | 51=>208 | 20=>20 | 213=>254 | 46=>148 | 232=>308 | 233=>309 | n=>n,fun | 17=>0 | 18=>3 | 19=>4 | n=>n⟩
theorem Tryz.lays171:Go.Proofs.Lays.n171 Tryz.prog Tryz.lays171_ren:={
 mixed:=by kernel_rfl
 f129:=Tryz.func127.trans (congrArg some (by kernel_rfl))
 f171:=Tryz.func34.trans (congrArg some (by kernel_rfl))
 f243:=Tryz.func55.trans (congrArg some (by kernel_rfl))
 f246:=Tryz.func85.trans (congrArg some (by kernel_rfl))
 f283:=Tryz.func129.trans (congrArg some (by kernel_rfl))
 f284:=Tryz.func130.trans (congrArg some (by kernel_rfl))
 f285:=Tryz.func131.trans (congrArg some (by kernel_rfl))
 f286:=Tryz.func132.trans (congrArg some (by kernel_rfl))
 f317:=Tryz.func172.trans (congrArg some (by kernel_rfl))
 f318:=Tryz.func173.trans (congrArg some (by kernel_rfl))
 f319:=Tryz.func174.trans (congrArg some (by kernel_rfl))
 f320:=Tryz.func175.trans (congrArg some (by kernel_rfl))
 f337:=Tryz.func196.trans (congrArg some (by kernel_rfl))
 f338:=Tryz.func197.trans (congrArg some (by kernel_rfl))
 t0:=Tryz.underlying0
 a0:=Tryz.isAgg0
 z0:=Tryz.sizeOf0
 v0:=Tryz.zeroValue0
 t2:=Tryz.underlying2
 a2:=Tryz.isAgg2
 z2:=Tryz.sizeOf2
 v2:=Tryz.zeroValue2
 t3:=Tryz.underlying3
 a3:=Tryz.isAgg3
 z3:=Tryz.sizeOf3
 v3:=Tryz.zeroValue3
 t4:=Tryz.underlying4
 a4:=Tryz.isAgg4
 z4:=Tryz.sizeOf4
 v4:=Tryz.zeroValue4
 t5:=Tryz.underlying5
 a5:=Tryz.isAgg5
 z5:=Tryz.sizeOf5
 v5:=Tryz.zeroValue5
 t9:=Tryz.underlying9
 a9:=Tryz.isAgg9
 z9:=Tryz.sizeOf9
 v9:=Tryz.zeroValue9
 t20:=Tryz.underlying20
 a20:=Tryz.isAgg20
 z20:=Tryz.sizeOf20
 v20:=Tryz.zeroValue20
 t37:=Tryz.underlying81
 a37:=Tryz.isAgg81
 z37:=Tryz.sizeOf81
 v37:=Tryz.zeroValue81
 t46:=Tryz.underlying148
 a46:=Tryz.isAgg148
 z46:=Tryz.sizeOf148
 v46:=Tryz.zeroValue148
 t51:=Tryz.underlying208
 a51:=Tryz.isAgg208
 z51:=Tryz.sizeOf208
 v51:=Tryz.zeroValue208
 t53:=Tryz.underlying171
 a53:=Tryz.isAgg171
 z53:=Tryz.sizeOf171
 v53:=Tryz.zeroValue171
 t171:=Tryz.underlying210
 a171:=Tryz.isAgg210
 z171:=Tryz.sizeOf210
 v171:=Tryz.zeroValue210
 t173:=Tryz.underlying212
 a173:=Tryz.isAgg212
 z173:=Tryz.sizeOf212
 v173:=Tryz.zeroValue212
 t212:=Tryz.underlying253
 a212:=Tryz.isAgg253
 z212:=Tryz.sizeOf253
 v212:=Tryz.zeroValue253
 t213:=Tryz.underlying254
 a213:=Tryz.isAgg254
 z213:=Tryz.sizeOf254
 t232:=Tryz.underlying308
 a232:=Tryz.isAgg308
 z232:=Tryz.sizeOf308
 v232:=Tryz.zeroValue308
 t233:=Tryz.underlying309
 a233:=Tryz.isAgg309
 z233:=Tryz.sizeOf309
 v233:=Tryz.zeroValue309
 g17:=by kernel_rfl
 g18:=by kernel_rfl
 g19:=by kernel_rfl}
open Go.RowKit Go.Sort Go.Lib in
theorem Tryz.strconv_Itoa_small (i:Nat) (hi:i<100) (w:World):
 Calls Tryz.prog 34 #[.int .i64 i] w fun e w'=>e= .returned (.string ⟨(Lib.decDigits i).toArray⟩)∧w'=w:=Any.strconv_Itoa_small Tryz.lays171 i hi w
end Go.Proofs
namespace Go.Proofs.YthohnjgnpapnoaaGreatDoor
open Go.RowKit
theorem tmod_spot (v n:Int) (hn:1≤n):(if v.tmod n<0 then v.tmod n+n else v.tmod n)=v%n:=by
 rcases Int.lt_or_le v 0 with h | h
 ·have e:v.tmod n= -((-v)%n):=by
   have:v= -(-v):=by omega
   rw [this,Int.neg_tmod,Int.tmod_eq_emod_of_nonneg (by omega)];simp
  have h1:=Int.emod_nonneg v (show n≠0 by omega)
  have h2:=Int.emod_lt_of_pos v (show 0<n by omega)
  have h3:=Int.emod_nonneg (-v) (show n≠0 by omega)
  have h4:=Int.emod_lt_of_pos (-v) (show 0<n by omega)
  have h5:=Int.mul_ediv_add_emod v n
  have h6:=Int.mul_ediv_add_emod (-v) n
  have h7:n*(v/n+(-v)/n)+(v%n+(-v)%n)=0:=by rw [Int.mul_add];omega
  rw [e]
  by_cases hz:(-v)%n=0
  ·rw [hz] at h7 ⊢
   have:(v%n)%n=0:=by
    have:v%n=n*(-(v/n+(-v)/n)):=by rw [Int.mul_neg];omega
    rw [this];simp
   rw [Int.emod_emod_of_dvd _ (Int.dvd_refl n)] at this
   simp [this]
  ·have hlt: -(-v%n)<0:=by omega
   rw [if_pos hlt]
   have:(v%n+(-v)%n)%n=0:=by
    have:v%n+(-v)%n=n*(-(v/n+(-v)/n)):=by rw [Int.mul_neg];omega
    rw [this];simp
   obtain ⟨k,hk⟩:=Int.dvd_of_emod_eq_zero this
   have:k=1:=by
    have k1:n*k<n*2:=by omega
    have k2:n*0<n*k:=by omega
    have:=Int.lt_of_mul_lt_mul_left k1 (by omega)
    have:=Int.lt_of_mul_lt_mul_left k2 (by omega)
    omega
   subst this;omega
 ·rw [Int.tmod_eq_emod_of_nonneg h,if_neg]
  have:=Int.emod_nonneg v (show n≠0 by omega);omega
theorem spot_any (v n:Int) (hn:1≤n) (hn':n≤4611686018427387904) (_hv: -9223372036854775808≤v) (_hv':v≤9223372036854775807) (w:World):
 Calls Tryz.prog 23 #[.int .i64 v,.int .i64 n] w fun e w'=>e= .returned (.int .i64 (v%n))∧w=w':=by
 have h1: -n<v.tmod n:=by have:=Int.lt_tmod_of_pos v (show 0<n by omega);exact this
 have h2:v.tmod n<n:=Int.tmod_lt_of_pos v (by omega)
 have hs:=tmod_spot v n hn
 have hn0:(n==0)=false:=by simp;omega
 by_cases hneg:v.tmod n<0
 ·rw [if_pos hneg] at hs
  have H:=Lib.hid hs;clear hs
  go_enter Tryz.func23,Tryz.ntmps23
  go_wp2
  go_ret
  exact ⟨by rw [H.out];rfl,rfl⟩
 ·rw [if_neg hneg] at hs
  have H:=Lib.hid hs;clear hs
  go_enter Tryz.func23,Tryz.ntmps23
  go_wp2
  go_ret
  exact ⟨by rw [H.out];rfl,rfl⟩
end Go.Proofs.YthohnjgnpapnoaaGreatDoor
namespace Go.Proofs.YthohnjgnpapnoaaGreatDoor
open Go.RowKit
structure KeyD where
 text:List UInt8
 name:ByteArray
 rights:Int
def keyV (k:KeyD):List Value:=[.string (str k.text),.string k.name,.int .i64 k.rights]
def keysV (l:List KeyD):List Value:=l.flatMap keyV
theorem keysV_one {l:List KeyD}:∀u∈keysV l,u.oneCell'=true:=fun u hu=>by
 obtain ⟨k,_,hk⟩:=List.mem_flatMap.1 hu
 simp [keyV] at hk
 rcases hk with rfl | rfl | rfl<;>rfl
theorem Tryz.infoKey:(Tryz.prog.info? 241).map (fun i=>(i.zero,i.size,i.bytes))=some (some (.agg #[.string ⟨#[]⟩,.string ⟨#[]⟩,.int .i64 0]),3,40):=by kernel_rfl
theorem dec_small:∀i:Fin 100,(Lib.decDigits i.val).length≤2∧1≤(Lib.decDigits i.val).length∧∀c∈Lib.decDigits i.val,48≤c.toNat∧c.toNat≤57:=by
 unfold Lib.decDigits;decide+kernel
def keyT (i:Nat) (h:List UInt8):List UInt8:=33::(Lib.decDigits i++107::h)
def mintT (s:Nat) (d:Int):List UInt8:=keyT s (hexL (mixV s d).toNat [])
def MintPost (w:World) (s n:Nat) (K:List KeyD) (name:ByteArray) (r d:Int) (e:Ending) (w':World):Prop:=
 ∃(h:List UInt8) (v':Value),h=hexL (mixV s d).toNat []∧(1≤h.length∧h.length≤16)∧(∀c∈h,hexC c)∧
  e= .returned (.tuple #[.agg #[.int .i64 ((s:Int)+1),v'],.string (str (keyT s h)),.int .i64 0])∧
  Sl w' 241 3 v' (n+1) (keysV (K++ [⟨keyT s h,name,r⟩]))∧(∀b,sblk v'=some b→w.heap.size≤b)∧Below w.heap.size w w'
theorem mk_keys (n:Nat) (hn:n≤100) (W:World):(Instr.makeSlice 100 (.int .i64 0) (.int .i64 ((n:Int)+1))).run Tryz.prog W=
 .ok (.slice (some ⟨W.heap.size,0,none⟩) 0 (n+1)) (W.alloc (.cells (madeCells #[.string ⟨#[]⟩,.string ⟨#[]⟩,.int .i64 0] ((n+1)*3)) 241)):=by
 obtain ⟨i,hi,h⟩:=Option.map_eq_some_iff.1 Tryz.infoKey
 simp only [Prod.mk.injEq] at h
 obtain ⟨hz,hs,hb⟩:=h
 have hr:=run_make (P:=Tryz.prog) W 100 241 i _ Tryz.underlying100 hi hz .i64 .i64 0 ((n:Int)+1) (by omega) (by omega) (by rw [hb];omega) (by omega)
 have e:((n:Int)+1).toNat=n+1:=by omega
 rw [e,hs] at hr
 exact hr
theorem mint_a {w3 w5:World} {v5:Value} {bK:Nat} (hm:Mod (fun b=>some bK=some b) w3 w5) (hd:sblk v5=some bK∨sblk v5=some w3.heap.size∧w3.heap.size<w5.heap.size):
 Mod (fun b=>b=bK) w3 w5∧∀b,sblk v5=some b→b=bK∨w3.heap.size≤b:=by
 refine ⟨hm.mono fun b _ h=>(Option.some.inj h).symm,fun b hb=>?_⟩
 rcases hd with e | ⟨e,_⟩
 ·rw [e] at hb;exact .inl (Option.some.inj hb).symm
 ·rw [e] at hb;have:=Option.some.inj hb;omega
theorem mint_b {w3 w5 w6:World} {v5 v6:Value} {bK:Nat} {o:Obj} (hm:Mod (fun b=>b=bK) w3 w5) (hd:∀b,sblk v5=some b→b=bK∨w3.heap.size≤b)
 (hm':Mod (fun b=>sblk v5=some b) (w5.alloc o) w6) (hd':sblk v6=sblk v5∨sblk v6=some (w5.alloc o).heap.size∧(w5.alloc o).heap.size<w6.heap.size):
 Mod (fun b=>b=bK) w3 w6∧∀b,sblk v6=some b→b=bK∨w3.heap.size≤b:=by
 refine ⟨(hm.alloc o).trans hm' fun b hb h=>?_,fun b hb=>?_⟩
 ·rcases hd b h with h | h
  ·exact h
  ·omega
 ·rcases hd' with e | ⟨e,_⟩
  ·exact hd b (by rw [←e];exact hb)
  ·rw [e] at hb
   have h1:=Option.some.inj hb
   have h2:=hm.size
   rw [World.size_alloc] at h1
   omega
abbrev TB:=102
abbrev KY:=241
abbrev zeroK (i:Nat):Array Value:=madeCells #[.string ⟨#[]⟩,.string ⟨#[]⟩,.int .i64 0] ((i+1)*3)
structure Mid (w w3:World) (bK bT s i:Nat) (kv:Value):Prop where
 below:Below w.heap.size w w3
 ht:Blk w3 w.heap.size TB #[.int .i64 s,kv]
 ho:Blk w3 (w.heap.size+1) TB #[.int .i64 0,.slice none 0 0]
 hr:Blk w3 bT TB #[.int .i64 ((s:Int)+1),.slice (some ⟨bK,0,none⟩) 0 (i+1)]
 hl:Sl w3 KY 3 (.slice (some ⟨bK,0,none⟩) 0 (i+1)) 0 []
 nums:bK≠bT∧w.heap.size+1<bK∧w.heap.size+1<bT∧bK<w3.heap.size∧bT<w3.heap.size
theorem sl_zero {w:World} {b i:Nat} (hi:i<32) (h:Blk w b KY (zeroK i)):Sl w KY 3 (.slice (some ⟨b,0,none⟩) 0 (i+1)) 0 []:=by
 refine ⟨by simp,_,_,rfl,by omega,by unfold maxLen;omega,(fun h=>nomatch h),fun a ha=>?_⟩
 injection ha with ha;subst ha
 exact ⟨zeroK i,rfl,h,by rw [size_madeCells];show 0+_≤_;omega,by simp⟩
theorem mid_a {w w2:World} {s i:Nat} {kv:Value} (hi:i<32) (HB2:Below w.heap.size w w2) (HT2:Blk w2 w.heap.size TB #[.int .i64 s,kv]) (HO2:Blk w2 (w.heap.size+1) TB #[.int .i64 0,.slice none 0 0]):
 Mid w ((w2.alloc (.cells (zeroK i) KY)).alloc (.cells #[.int .i64 ((s:Int)+1),.slice (some ⟨w2.heap.size,0,none⟩) 0 (i+1)] TB)).drew w2.heap.size (w2.heap.size+1) s i kv:=by
 have hlt:=HO2.lt
 refine ⟨((HB2.alloc (by omega) _).alloc (by simp;omega) _).drew,((HT2.alloc _).alloc _).drew,((HO2.alloc _).alloc _).drew,Blk.drew ?_,Sl.drew (sl_zero hi ((Blk.new w2 _ _).alloc _)),by omega,hlt,by omega,?_,?_⟩
 ·have:=Blk.new (w2.alloc (.cells (zeroK i) KY)) TB #[.int .i64 ((s:Int)+1),.slice (some ⟨w2.heap.size,0,none⟩) 0 (i+1)]
  rw [World.size_alloc] at this;exact this
 ·show _<((w2.alloc _).alloc _).heap.size;rw [World.size_alloc,World.size_alloc];omega
 ·show _<((w2.alloc _).alloc _).heap.size;rw [World.size_alloc,World.size_alloc];omega
theorem mid_b {w w2:World} {s i:Nat} {kv:Value} (hi:i<32) (HB2:Below w.heap.size w w2) (HT2:Blk w2 w.heap.size TB #[.int .i64 s,kv]) (HO2:Blk w2 (w.heap.size+1) TB #[.int .i64 0,.slice none 0 0]):
 Mid w ((w2.alloc (.cells #[.int .i64 ((s:Int)+1),.slice (some ⟨w2.heap.size+1,0,none⟩) 0 (i+1)] TB)).alloc (.cells (zeroK i) KY)).drew (w2.heap.size+1) w2.heap.size s i kv:=by
 have hlt:=HO2.lt
 refine ⟨((HB2.alloc (by omega) _).alloc (by simp;omega) _).drew,((HT2.alloc _).alloc _).drew,((HO2.alloc _).alloc _).drew,((Blk.new w2 _ _).alloc _).drew,Sl.drew (sl_zero hi ?_),by omega,by omega,hlt,?_,?_⟩
 ·have:=Blk.new (w2.alloc (.cells #[.int .i64 ((s:Int)+1),.slice (some ⟨w2.heap.size+1,0,none⟩) 0 (i+1)] TB)) KY (zeroK i)
  rw [World.size_alloc] at this;exact this
 ·show _<((w2.alloc _).alloc _).heap.size;rw [World.size_alloc,World.size_alloc];omega
 ·show _<((w2.alloc _).alloc _).heap.size;rw [World.size_alloc,World.size_alloc];omega
theorem mint_end {w w3 w6:World} {bK bT s i:Nat} {kv v6:Value} {xs:List Value} {u1 u2 u3:Value} (hM:Mid w w3 bK bT s i kv) (hm:Mod (fun b=>b=bK) w3 w6) (hd:∀b,sblk v6=some b→b=bK∨w3.heap.size≤b)
 (hs:Sl w6 KY 3 v6 (i+1) xs):
 Sl (((w6.setCell ⟨bT,1,none⟩ u1).setCell ⟨w.heap.size+1,0,none⟩ u2).setCell ⟨w.heap.size+1,1,none⟩ u3) KY 3 v6 (i+1) xs∧(∀b,sblk v6=some b→w.heap.size≤b)∧
  Below w.heap.size w (((w6.setCell ⟨bT,1,none⟩ u1).setCell ⟨w.heap.size+1,0,none⟩ u2).setCell ⟨w.heap.size+1,1,none⟩ u3):=by
 obtain ⟨n1,n2,n3,n4,n5⟩:=hM.nums
 have hT:sblk v6≠some bT:=fun e=>by rcases hd _ e with h | h<;>omega
 have hO:sblk v6≠some (w.heap.size+1):=fun e=>by rcases hd _ e with h | h<;>omega
 refine ⟨(((hs.far (p:=⟨bT,1,none⟩) hT u1).far (p:=⟨w.heap.size+1,0,none⟩) hO u2).far (p:=⟨w.heap.size+1,1,none⟩) hO u3),fun b hb=>by rcases hd _ hb with h | h<;>omega,?_⟩
 have hb:Below w.heap.size w w6:=hM.below.trans (hm.below hM.below.size fun b hb e=>by have e:b=bK:=e;omega)
 exact ((hb.setCell (p:=⟨bT,1,none⟩) (by show w.heap.size≤bT;omega) _).setCell (p:=⟨w.heap.size+1,0,none⟩) (by show w.heap.size≤w.heap.size+1;omega) _).setCell (p:=⟨w.heap.size+1,1,none⟩) (by show w.heap.size≤w.heap.size+1;omega) _
set_option maxRecDepth 100000 in
set_option maxHeartbeats 3200000 in
theorem mint_any (w:World) (s:Nat) (hsr:s<100) (i:Nat) (hi:i<32) (K:List KeyD) (kv:Value) (hk:Rd w w.heap.size 3 kv i (keysV K)) (name:ByteArray) (r d:Int) (hr:1≤r∧r≤3)
 (h:w.cell? ⟨4,15,none⟩=some (.int .u8 4)):
 Calls Tryz.prog 117 #[.agg #[.int .i64 s,kv],.string name,.int .i64 r,.int .i64 d] w (MintPost w s i K name r d):=by
 have H:=Lib.hid h
 have HK:=Lib.hid hk
 have hlt5:4<w.heap.size:=World.block_lt_of_cell? w _ h
 have hs0:(0:Int)≤(s:Int):=by omega
 have hs1:(s:Int)<100:=by omega
 obtain ⟨A,cap,rfl,hc1,hc2⟩:=hk.form
 clear h hk
 obtain ⟨hr1,hr2⟩:=hr
 have HMK:=mk_keys i (by omega)
 have HD:=Lib.hid (dec_small ⟨s,hsr⟩)
 have HIT:Hid (∀w:World,Calls Tryz.prog 34 #[.int .i64 s] w fun e w'=>e= .returned (.string (str (Lib.decDigits s)))∧w'=w):=Tryz.strconv_Itoa_small s (by omega)
 have HKT:Hid (∀h,keyT s h=33::Lib.decDigits s++ [107]++h):=fun h=>by simp [keyT]
 simp only at HD
 generalize Lib.decDigits s=D at HD HIT HKT
 have e1:∀w,(Op.stringOp .add ⟨#[33]⟩ (str D)).run Tryz.prog w= .ok (.string (str (33::D))) w:=fun w=>by
  rw [run_string_add_sum w _ _ (by have:=HD.out.1;rw [str_size];have e:(⟨#[33]⟩:ByteArray).size=1:=rfl;omega)]
  exact congrArg (fun x=>Result.ok (Value.string x) w) (str_append [33] D)
 have e2:∀w,(Op.stringOp .add (str (33::D)) ⟨#[107]⟩).run Tryz.prog w= .ok (.string (str (33::D++ [107]))) w:=fun w=>by
  rw [run_string_add_sum w _ _ (by have:=HD.out.1;rw [str_size,List.length_cons];have e:(⟨#[107]⟩:ByteArray).size=1:=rfl;omega)]
  exact congrArg (fun x=>Result.ok (Value.string x) w) (str_append (33::D) [107])
 have E3:Hid (∀(x:List UInt8),x.length≤16→∀w,(Op.stringOp .add (str (33::D++ [107])) (str x)).run Tryz.prog w= .ok (.string (str (keyT s x))) w):=fun x hs w=>by
  rw [run_string_add_sum w _ _ (by have:=HD.out.1;rw [str_size,str_size,List.length_append,List.length_cons];simp;omega),str_append,HKT.out]
 generalize str (33::D++ [107])=s2 at e2 E3
 generalize str (33::D)=s1 at e1 e2
 generalize str D=s0 at e1 HIT
 clear HKT HD
 go_enter Tryz.func117,Tryz.ntmps117
 go_wp2_with fail
 generalize hw1:World.alloc (World.alloc w _) _=w1
 have HB1:Hid (Below w.heap.size w w1):=by subst hw1;exact ((Below.refl _ _).alloc (Nat.le_refl _) _).alloc (by simp) _
 have HT1:Hid (Blk w1 w.heap.size 102 #[.int .i64 s,.slice A i cap]):=by subst hw1;exact (Blk.new w _ _).alloc _
 have HO1:Hid (Blk w1 (w.heap.size+1) 102 #[.int .i64 0,.slice none 0 0]):=by subst hw1;have:=Blk.new (w.alloc (.cells #[.int .i64 s,.slice A i cap] 102)) 102 #[.int .i64 0,.slice none 0 0];rw [World.size_alloc] at this;exact this
 have HC1:Hid (w1.cell? ⟨4,15,none⟩=some (.int .u8 4)):=(HB1.out.cell (p:=⟨4,15,none⟩) hlt5).trans H.out
 have c0:w1.cell? ⟨w.heap.size,0,none⟩=some (.int .i64 s):=HT1.out.cellS rfl
 have c1:w1.cell? ⟨w.heap.size,1,none⟩=some (.slice A i cap):=HT1.out.cellS rfl
 clear hw1
 go_region_held3 (fun w'=>w'.cell? ⟨w.heap.size,0,none⟩=some (.int .i64 s)) (first | exact c0 | exact (hb2.cell (p:=⟨w.heap.size,0,none⟩) HT1.out.lt).trans c0)
  (first
    | (go_at_call 34;refine (HIT.out _).mono ?_;rintro e w' ⟨rfl,rfl⟩)
    | (go_at_call 166;refine (mix_any _ _ _).mono ?_;rintro e w' ⟨rfl,hu,rfl⟩;obtain ⟨u,hue⟩:∃u,u=mixV s d:=⟨_,rfl⟩;rw [←hue] at hu ⊢;obtain ⟨hu1,hu2⟩:=hu;have HUE:=Lib.hid hue;clear hue)
    | (go_at_call 165;refine (fmt _ u hu1 hu2 (by exact HC1.out)).mono ?_;rintro e w2 ⟨hx,rfl,hxe,hxl,hxc,hb2⟩;have e3:=E3.out hx hxl.2;have HXQ:=Lib.hid hxe;clear hxe))
 have hb2':Below w1.heap.size w1 w2:=⟨hb2.os,hb2.tape,hb2.output,hb2.size,hb2.block⟩
 have HB2:Hid (Below w.heap.size w w2):=HB1.out.trans (hb2'.mono HB1.out.size)
 have HT2:Hid (Blk w2 w.heap.size 102 #[.int .i64 s,.slice A i cap]):=(hb2'.block _ HT1.out.lt).trans HT1.out
 have HO2:Hid (Blk w2 (w.heap.size+1) 102 #[.int .i64 0,.slice none 0 0]):=(hb2'.block _ HO1.out.lt).trans HO1.out
 have HXE:Hid (hx=hexL (mixV s d).toNat []):=by show _=_;rw [←HUE.out];exact HXQ.out
 have HXX:Hid ((1≤hx.length∧hx.length≤16)∧∀c∈hx,hexC c):=⟨hxl,hxc⟩
 clear HXQ hu1 hu2 HUE
 generalize hTT:keyT s hx=T at*
 have HTT:=Lib.hid hTT
 clear hTT
 have hlt2:w.heap.size+1<w2.heap.size:=HO2.out.lt
 clear hb2 hb2' HB1 HT1 HO1 HC1 c0 c1 e1 e2 e3 E3 HIT H hxl hxc
 have c0:w2.cell? ⟨w.heap.size,0,none⟩=some (.int .i64 s):=HT2.out.cellS rfl
 have c1:w2.cell? ⟨w.heap.size,1,none⟩=some (.slice A i cap):=HT2.out.cellS rfl
 have HRD:Hid (∀w5:World,Rd (w5.alloc (.cells #[.string (str T),.string name,.int .i64 r] 241)) (w5.heap.size+1) 3 (.slice (some ⟨w5.heap.size,0,none⟩) 1 1) 1 [.string (str T),.string name,.int .i64 r]):=fun w5=>Rd.fresh w5 _ #[.string (str T),.string name,.int .i64 r] 3 1 rfl (by unfold maxLen;omega)
 have HON:Hid (∀u∈ [Value.string (str T),.string name,.int .i64 r],u.oneCell'=true):=by intro u hu;simp at hu;rcases hu with rfl | rfl | rfl<;>rfl
 have hwi:IntKind.i64.wrap ((i:Int)+1)=(i:Int)+1:=by rw [IntKind.wrap_i64];omega
 have hws:IntKind.i64.wrap ((s:Int)+1)=(s:Int)+1:=by rw [IntKind.wrap_i64];omega
 go_wp2_with fail
 go_region_held3 (fun w'=>w'.cell? ⟨w.heap.size,0,none⟩=some (.int .i64 s)∧w'.cell? ⟨w.heap.size,1,none⟩=some (.slice A i cap)) (first | exact ⟨c0,c1⟩ | go_keep) (fail)
 all_goals (generalize hw3:World.drew _=w3)
 all_goals (first
  | (have HM:Hid (Mid w w3 w2.heap.size (w2.heap.size+1) s i (.slice A i cap)):=by subst hw3;exact mid_a hi HB2.out HT2.out HO2.out
     clear hw3 hlt2 c0 c1 HB2 HT2 HO2 HMK hwi
     generalize w2.heap.size+1=bT at HM ⊢
     generalize w2.heap.size=bK at HM ⊢)
  | (have HM:Hid (Mid w w3 (w2.heap.size+1) w2.heap.size s i (.slice A i cap)):=by subst hw3;exact mid_b hi HB2.out HT2.out HO2.out
     clear hw3 hlt2 c0 c1 HB2 HT2 HO2 HMK hwi
     generalize w2.heap.size+1=bK at HM ⊢
     generalize w2.heap.size=bT at HM ⊢))
 all_goals (
  have HL3:=Lib.hid HM.out.hl
  have HK3:Hid (Rd w3 w.heap.size 3 (.slice A i cap) i (keysV K)):=HK.out.below HM.out.below
  have c3:w3.cell? ⟨bT,1,none⟩=some (.slice (some ⟨bK,0,none⟩) 0 (i+1)):=HM.out.hr.cellS rfl
  have d3:w3.cell? ⟨w.heap.size,1,none⟩=some (.slice A i cap):=HM.out.ht.cellS rfl
  go_wp2_with (first
   | (at_builtin;refine wpList_append_sl _ rfl (.tmp 58) (.tmp 60) 100 rfl 241 (.agg #[.string ⟨#[]⟩,.string ⟨#[]⟩,.int .i64 0]) 3 40 Tryz.underlying100 Tryz.infoKey rfl (by decide) rfl (by exact HL3.out) rfl (by exact HK3.out) keysV_one (by omega) (by unfold maxLen;omega) ?_;intro v5 w5 hs5 hm5 hd5;rw [Nat.zero_add,List.nil_append] at hs5;obtain ⟨A5,cap5,rfl,_,_⟩:=hs5.form;obtain ⟨hm5',hd5'⟩:=mint_a hm5 hd5;clear hm5 hd5)
   | (at_builtin;refine wpList_append_sl _ rfl (.tmp 61) (.tmp 66) 100 rfl 241 (.agg #[.string ⟨#[]⟩,.string ⟨#[]⟩,.int .i64 0]) 3 40 Tryz.underlying100 Tryz.infoKey rfl (by decide) rfl (by exact hs5.alloc _) rfl (by exact HRD.out w5) HON.out (by omega) (by unfold maxLen;omega) ?_;intro v6 w6 hs6 hm6 hd6;obtain ⟨A6,cap6,rfl,_,_⟩:=hs6.form;obtain ⟨hm6',hd6'⟩:=mint_b hm5' hd5' hm6 hd6;clear hm6 hd6
      have HR6:=Lib.hid (HM.out.hr.mod hm6' (show ¬bT=bK from fun e=>HM.out.nums.1 e.symm))
      have HO6:=Lib.hid (HM.out.ho.mod hm6' (show ¬w.heap.size+1=bK by have:=HM.out.nums;omega))
      have c60:w6.cell? ⟨bT,0,none⟩=some (.int .i64 ((s:Int)+1)):=HR6.out.cellS rfl
      have c61:w6.cell? ⟨bT,1,none⟩=some (.slice (some ⟨bK,0,none⟩) 0 (i+1)):=HR6.out.cellS rfl
      have f6:=HR6.out.frozen 1
      have hbt:=HM.out.nums.2.2.1
      have c62:w6.cell? ⟨w.heap.size+1,0,none⟩=some (.int .i64 0):=HO6.out.cellS rfl
      have c63:w6.cell? ⟨w.heap.size+1,1,none⟩=some (.slice none 0 0):=HO6.out.cellS rfl
      have f60:=HO6.out.frozen 0
      have f61:=HO6.out.frozen 1)))
 all_goals (
  have HE:Hid _:=mint_end (u1:= .slice A6 (i+1) cap6) (u2:= .int .i64 ((s:Int)+1)) (u3:= .slice A6 (i+1) cap6) HM.out hm6' hd6' hs6
  have hTT:=HTT.out
  have k0:((((w6.setCell ⟨bT,1,none⟩ (.slice A6 (i+1) cap6)).setCell ⟨w.heap.size+1,0,none⟩ (.int .i64 ((s:Int)+1))).setCell ⟨w.heap.size+1,1,none⟩ (.slice A6 (i+1) cap6))).cell? ⟨w.heap.size+1,0,none⟩=some (.int .i64 ((s:Int)+1)):=(((HO6.out.far (p:=⟨bT,1,none⟩) (by show w.heap.size+1≠bT;omega) _).set 0 _).set 1 _).cellS rfl
  have k1:((((w6.setCell ⟨bT,1,none⟩ (.slice A6 (i+1) cap6)).setCell ⟨w.heap.size+1,0,none⟩ (.int .i64 ((s:Int)+1))).setCell ⟨w.heap.size+1,1,none⟩ (.slice A6 (i+1) cap6))).cell? ⟨w.heap.size+1,1,none⟩=some (.slice A6 (i+1) cap6):=(((HO6.out.far (p:=⟨bT,1,none⟩) (by show w.heap.size+1≠bT;omega) _).set 0 _).set 1 _).cellS rfl
  generalize World.setCell _ _ _=W at HE k0 k1 ⊢
  refine bodyPost_ret (v:= .tuple #[.agg #[.int .i64 ((s:Int)+1),.slice A6 (i+1) cap6],.string (str T),.int .i64 0]) (by simp [results,Tryz.results117,go_sem,k0,k1]) rfl ?_
  subst hTT
  refine ⟨hx,.slice A6 (i+1) cap6,HXE.out,HXX.out.1,HXX.out.2,rfl,?_,HE.out.2.1,HE.out.2.2⟩
  have:=HE.out.1
  rw [keysV,List.flatMap_append]
  exact this)
end Go.Proofs.YthohnjgnpapnoaaGreatDoor
