/- Part 13 of the proof of lawSpec.card: NatRefA, OrdWalkI, Iter, OrdKeys, OrdMap, OrdAllotA, OrdBools. Conditions: those of each theorem. -/
import Derived.Lib.ConvBytes
import Derived.Shelf.SlIterI.Nil
import Derived.Shelf.SortM.Plain
import Derived.Shelf.SortM.SortNone
import Derived.Ground.GgzProg
import Derived.Ground.SlgmProg
import Derived.Test.YtanhhdndgkhcfaaGreatDoorProg
import Derived.Maps.Own
import Derived.Test.YtanhhdndgkhcfaaGreatDoorSp01
import Derived.Test.YtanhhdndgkhcfaaGreatDoorSp05
import Derived.Test.YtanhhdndgkhcfaaGreatDoorSp08
import Derived.Test.YtanhhdndgkhcfaaGreatDoorSp12
set_option maxRecDepth 1000000
set_option maxHeartbeats 4000000
namespace Go.Proofs.YtanhhdndgkhcfaaGreatDoor
open Go Go.Proofs Go.RowKit
attribute [local go_sem] Oper.semAt_some
theorem encB_of_clean(s:ByteArray):encB (natB s)=⟨(cleanB s.data.toList).toArray⟩:=by
 unfold encB natB;rw[encN_val]
theorem encB_list(n:Nat):(encB n).toList=encN n:=by rw[ByteArray.toList_eq];rfl
theorem bytes_of{a b:ByteArray} (h:a.data.toList=b.data.toList):a=b:=by
 obtain⟨⟨a⟩⟩:=a;obtain⟨⟨b⟩⟩:=b;exact congrArg (fun l:List UInt8=>(⟨⟨l⟩⟩ : ByteArray)) h
theorem drop_at{s:ByteArray} {k:Nat} (h:k < s.size):s.data.toList.drop k=s[k]::s.data.toList.drop (k+1):=by
 have hl:k < s.data.toList.length:=by simpa using h
 rw[List.drop_eq_getElem_cons hl];rfl
theorem extract_drop(s:ByteArray) (k:Nat):(s.extract k s.size).data.toList=s.data.toList.drop k:=by
 have hl:s.data.toList.length=s.size:=by simp
 simp only[ByteArray.data_extract,Array.toList_extract,List.extract_eq_take_drop];rw[List.take_of_length_le (by rw[List.length_drop,hl];omega)]
theorem mClean_any(s:ByteArray) (W:World) (hs:s.size<=1000000000):Calls Tryz.prog 112 #[.string s] W fun e w'=>e=.returned (.string (encB (natB s)))/\w'=W:=by
 rw[encB_of_clean];go_enter Tryz.func112,Tryz.ntmps112;go_wp2_with fail
 go_loopw [3] (fun i wr=>∃k:Nat,k<=s.size/\i=(.int .i64 k)/\Hid (cleanB (s.data.toList.drop k)=cleanB s.data.toList)/\wr=W) (fun i _=>s.size-(intOf i).toNat)
 case atStart=>exact⟨0,Nat.zero_le _,rfl,zh rfl,rfl⟩
 case round =>
  obtain⟨k,hk,rfl,HC,rfl⟩:=hrel;by_cases hlt:k < s.size
  ·have hd:=drop_at hlt;by_cases h0:s[k]=0
   ·have hz:((s[k].toNat:Int) == 0)=true:=by rw[h0];rfl
    have HN:Hid (cleanB (s.data.toList.drop (k+1))=cleanB s.data.toList):=zh (by rw[<- HC.out,hd,h0,cleanB_zero])
    clear hd h0;go_wp2_with fail
    go_roundw
    case rel=>exact⟨k+1,by omega,by go_num,HN,trivial⟩
    case measure=>simp[intOf];omega
   ·have hz:((s[k].toNat:Int) == 0)=false:=by
     rw[beq_eq_false_iff_ne];intro h;exact h0 (UInt8.toNat_inj.1 (by simpa using h))
    have HN:Hid (s.extract k s.size=⟨(cleanB s.data.toList).toArray⟩):=zh (bytes_of (by
     rw[extract_drop,<- HC.out,hd,cleanB_cons h0]))
    clear hd h0;go_wp2_with fail;go_ret;rw[HN.out];exact⟨rfl,rfl⟩
  ·have HN:Hid (s.extract k s.size=⟨(cleanB s.data.toList).toArray⟩):=zh (bytes_of (by
    have hl:s.data.toList.length=s.size:=by simp
    rw[extract_drop,<- HC.out,List.drop_of_length_le (by omega)]
    rfl))
   go_wp2_with fail;go_ret;rw[HN.out];exact⟨rfl,rfl⟩
theorem mValid_any(s:ByteArray) (W:World) (hs:s.size<=1000000000):Calls Tryz.prog 94 #[.string s] W fun e w'=>e=.returned (.bool (decide (encB (natB s)=s)))/\w'=W:=by
 have HC:=zh (fun W=>mClean_any s W hs)
 have HE:Hid ((s.toList == (encB (natB s)).toList)=decide (encB (natB s)=s)):=zh (by
  rw[Bool.eq_iff_iff,beq_iff_eq,decide_eq_true_eq,ByteArray.toList_eq,ByteArray.toList_eq];exact⟨fun h=>(bytes_of h).symm,fun h=>by rw[h]⟩)
 obtain⟨c,hc⟩ : ∃c,encB (natB s)=c:=⟨_,rfl⟩;rw[hc] at HC HE ⊢;clear hc;go_enter Tryz.func94,Tryz.ntmps94;go_wp2_with fail;refine(HC.out _).mono ?_;rintro e w1 ⟨rfl,rfl⟩;go_wp2_with fail;go_ret;rw[HE.out];exact⟨rfl,rfl⟩
theorem bytesLess_val:∀(x y:List UInt8),x.length=y.length->Op.bytesLess x y=decide (valB x < valB y)
 | [],[],_=>by simp[Op.bytesLess]
 | [],_::_,h=>by cases h
 | _::_,[],h=>by cases h
 | a::x,b::y,h=>by
  have h2:x.length=y.length:=by simpa using h
  rw[Op.bytesLess,bytesLess_val x y h2];have e1:valB (a::x)=a.toNat*256 ^ x.length+valB x:=rfl;have e2:valB (b::y)=b.toNat*256 ^ y.length+valB y:=rfl;have b1:=valB_lt x;have b2:=valB_lt y;rw[e1,e2,<- h2];rw[<- h2] at b2;rcases Nat.lt_trichotomy a.toNat b.toNat with hab | hab | hab
  ·have h1:a < b:=hab;have h3:(a.toNat+1)*256 ^ x.length<=b.toNat*256 ^ x.length:=Nat.mul_le_mul_right _ hab;rw[Nat.add_mul] at h3;simp[h1];omega
  ·have h1:a=b:=UInt8.toNat_inj.1 hab;subst h1;simp
  ·have h1:¬a < b:=fun h=>by have:a.toNat < b.toNat:=h;omega
   have h3:(b.toNat+1)*256 ^ x.length<=a.toNat*256 ^ x.length:=Nat.mul_le_mul_right _ hab;have h4:(a == b)=false:=by
    rw[beq_eq_false_iff_ne];rintro rfl;omega
   rw[Nat.add_mul] at h3;simp[h1,h4];omega
theorem encN_len_lt{m n:Nat} (h:(encN m).length < (encN n).length):m < n:=by
 rcases Nat.lt_or_ge m n with h1 | h1
 ·exact h1
 ·exfalso;have h2:n < 256 ^ (encN m).length:=Nat.lt_of_le_of_lt h1 (by have:=valB_lt (encN m);rwa [valB_encN] at this)
  have:=encN_len_le h2;omega
theorem mCmp_any(a b:ByteArray) (W:World) (ha:a.size<=1000000000) (hb:b.size<=1000000000):Calls Tryz.prog 82 #[.string a,.string b] W fun e w'=>e=.returned (.int .i64 (cmpZ (natB a) (natB b)))/\w'=W:=by
 have HA:=zh (fun W=>mClean_any a W ha)
 have HB:=zh (fun W=>mClean_any b W hb)
 obtain⟨m,hm⟩ : ∃m,natB a=m:=⟨_,rfl⟩;obtain⟨n,hn⟩ : ∃n,natB b=n:=⟨_,rfl⟩;rw[hm] at HA ⊢;rw[hn] at HB ⊢;have e1:((encB m).toList == (encB n).toList)=decide (m=n):=by
  rw[encB_list,encB_list,Bool.eq_iff_iff,beq_iff_eq,decide_eq_true_eq];exact⟨encN_inj,fun h=>by rw[h]⟩
 have e2:(encB m).size=(encN m).length:=by show(encN m).toArray.size=_;simp
 have e3:(encB n).size=(encN n).length:=by show(encN n).toArray.size=_;simp
 have e4:(encN m).length=(encN n).length->Op.bytesLess (encB m).toList (encB n).toList=decide (m < n):=fun h=>by
  rw[encB_list,encB_list,bytesLess_val _ _ h,valB_encN,valB_encN]
 have e5:m < n↔(encN m).length < (encN n).length\/((encN m).length=(encN n).length/\m < n):=by
  constructor
  ·intro h;rcases Nat.lt_trichotomy (encN m).length (encN n).length with h1 | h1 | h1
   ·exact .inl h1
   ·exact .inr ⟨h1,h⟩
   ·have:=encN_len_lt h1;omega
  ·rintro(h | h)
   ·exact encN_len_lt h
   ·exact h.2
 obtain⟨x,hx⟩ : ∃x,encB m=x:=⟨_,rfl⟩;obtain⟨y,hy⟩ : ∃y,encB n=y:=⟨_,rfl⟩;rw[hx] at HA e1 e2 e4;rw[hy] at HB e1 e3 e4;clear hx hy hm hn;by_cases h1:m=n
 ·have f1:(x.toList == y.toList)=true:=by rw[e1];exact decide_eq_true h1
  have HV:Hid (cmpZ m n=0):=zh (by subst h1;unfold cmpZ;simp)
  clear e1 e2 e3 e4 e5 h1;go_enter Tryz.func82,Tryz.ntmps82;go_wp2_with fail;refine(HA.out _).mono ?_;rintro e w1 ⟨rfl,rfl⟩;go_wp2_with fail;refine(HB.out _).mono ?_;rintro e w1 ⟨rfl,rfl⟩;go_wp2_with fail;go_ret;rw[HV.out];exact⟨rfl,rfl⟩
 ·have f1:(x.toList == y.toList)=false:=by rw[e1];exact decide_eq_false h1
  have h5:=e5;by_cases h2:x.size < y.size
  ·have h2':(x.size:Int) < y.size:=by omega
   have HV:Hid (cmpZ m n = -1):=zh (by
    have:m < n:=h5.2 (.inl (by omega))
    unfold cmpZ;rw[if_pos (by omega)])
   clear e1 e2 e3 e4 e5 h5 h1;go_enter Tryz.func82,Tryz.ntmps82;go_wp2_with fail;refine(HA.out _).mono ?_;rintro e w1 ⟨rfl,rfl⟩;go_wp2_with fail;refine(HB.out _).mono ?_;rintro e w1 ⟨rfl,rfl⟩;go_wp2_with fail;go_ret;rw[HV.out];exact⟨rfl,rfl⟩
  ·have h2':¬(x.size:Int) < y.size:=by omega
   by_cases h3:x.size=y.size
   ·have h3':((x.size:Int) == y.size)=true:=by rw[beq_iff_eq];omega
    have h6:=e4 (by omega)
    by_cases h4:m < n
    ·have f6:Op.bytesLess x.toList y.toList=true:=by rw[h6];exact decide_eq_true h4
     have HV:Hid (cmpZ m n = -1):=zh (by unfold cmpZ;rw[if_pos (by omega)])
     clear e1 e2 e3 e4 e5 h5 h1 h3 h6 h2;go_enter Tryz.func82,Tryz.ntmps82;go_wp2_with fail;refine(HA.out _).mono ?_;rintro e w1 ⟨rfl,rfl⟩;go_wp2_with fail;refine(HB.out _).mono ?_;rintro e w1 ⟨rfl,rfl⟩;go_wp2_with fail;go_ret;rw[HV.out];exact⟨rfl,rfl⟩
    ·have f6:Op.bytesLess x.toList y.toList=false:=by rw[h6];exact decide_eq_false h4
     have HV:Hid (cmpZ m n=1):=zh (by unfold cmpZ;rw[if_neg (by omega),if_pos (by omega)])
     clear e1 e2 e3 e4 e5 h5 h1 h3 h6 h2;go_enter Tryz.func82,Tryz.ntmps82;go_wp2_with fail;refine(HA.out _).mono ?_;rintro e w1 ⟨rfl,rfl⟩;go_wp2_with fail;refine(HB.out _).mono ?_;rintro e w1 ⟨rfl,rfl⟩;go_wp2_with fail;go_ret;rw[HV.out];exact⟨rfl,rfl⟩
   ·have h3':((x.size:Int) == y.size)=false:=by rw[beq_eq_false_iff_ne];omega
    have HV:Hid (cmpZ m n=1):=zh (by
     have h4:¬m < n:=fun h=>by
      rcases h5.1 h with h | h <;> omega
     unfold cmpZ;rw[if_neg (by omega),if_pos (by omega)])
    clear e1 e2 e3 e4 e5 h5 h1 h3 h2;go_enter Tryz.func82,Tryz.ntmps82;go_wp2_with fail;refine(HA.out _).mono ?_;rintro e w1 ⟨rfl,rfl⟩;go_wp2_with fail;refine(HB.out _).mono ?_;rintro e w1 ⟨rfl,rfl⟩;go_wp2_with fail;go_ret;rw[HV.out];exact⟨rfl,rfl⟩
attribute [local go_sem ↓] run_eql_rat' run_neq_rat'
def firstTrue:List Bool->Nat->Int
 | [],_ => -1
 | b::l,k=>if b=true then k else firstTrue l (k+1)
theorem firstTrue_any:∀(l:List Bool) (k:Nat),decide (0<=firstTrue l k)=l.contains true
 | [],k=>by rfl
 | b::l,k=>by
  rw[firstTrue];cases b
  ·rw[if_neg (by simp),firstTrue_any l (k+1)]
   simp
  ·simp
theorem firstTrue_drop:∀(l:List Bool) (k i:Nat),(∀j u,j < k->l[j]? = some u->u=false)->firstTrue l i=firstTrue (l.drop k) (i+k)
 | [],k,i,_=>by rw[List.drop_nil];rfl
 | u::l,0,i,_=>rfl
 | u::l,k+1,i,h=>by
  rw[firstTrue,if_neg (by rw[h 0 u (by omega) rfl];simp),List.drop_succ_cons,firstTrue_drop l k (i+1) fun j v hj hv=>h (j+1) v (by omega) (by simpa using hv),show i+1+k=i+(k+1) by omega]
theorem slIndB_any(us:List Bool) (p:Option Addr) (c N:Nat) (W:World) (h:At N W 1 boolCells us p c) :
  Calls Tryz.prog 100 #[.slice p us.length c,.bool true] W fun e w'=>e=.returned (.int .i64 (firstTrue us 0))/\w'=W:=by
 have HL:=zh h;have hmx:(us.length:Int)<=9223372036854775807:=by have:=h.len;unfold maxLen at this;omega
 obtain⟨n,hn⟩ : ∃n,us.length=n:=⟨_,rfl⟩;have HN:=zh hn;rw[hn] at hmx ⊢;clear h hn;go_enter Tryz.func100,Tryz.ntmps100;go_wp2_with fail
 go_loop [8] (fun i=>∃k:Nat,k<=n/\i=(.int .i64 k)/\Hid (∀j u,j < k->us[j]? = some u->u=false)) (fun i=>n-(intOf i).toNat)
 case atStart=>exact⟨0,Nat.zero_le _,rfl,zh fun j u h=>by omega⟩
 case round =>
  obtain⟨k,hk,rfl,HH⟩:=hrel;by_cases hlt:k < n
  ·have hx:us[k]? = some (us[k]'(by rw[HN.out];exact hlt)):=List.getElem?_eq_getElem _
   obtain⟨u,hxe⟩ : ∃u,us[k]'(by rw[HN.out];exact hlt)=u:=⟨_,rfl⟩
   rw[hxe] at hx;obtain⟨b,a,rfl,-,e0⟩:=HL.out.bools hx;have HFB:Hid (firstTrue us 0=if u=true then(k:Int) else firstTrue (us.drop (k+1)) (k+1)):=zh (by
    rw[firstTrue_drop us k 0 HH.out,List.drop_eq_getElem_cons (by rw[HN.out];exact hlt),hxe,firstTrue,Nat.zero_add])
   have HX:=zh hx;clear hx hxe;cases u
   ·have HG:Hid (∀j u,j < k+1->us[j]? = some u->u=false):=zh fun j u hj hu=>by
     rcases Nat.lt_or_ge j k with h1 | h1
     ·exact HH.out j u h1 hu
     ·obtain rfl:j=k:=by omega
      rw[HX.out] at hu;cases hu;rfl
    go_wp2_with fail
    go_round
    case rel=>exact⟨k+1,by omega,by go_num,HG⟩
    case measure=>simp[intOf];omega
   ·have HFB2:Hid (firstTrue us 0=k):=zh (by rw[HFB.out];rfl)
    go_wp2_with fail;go_ret;rw[HFB2.out];exact⟨rfl,rfl⟩
  ·obtain rfl:k=n:=by omega
   have HFB2:Hid (firstTrue us 0 = -1):=zh (by
    rw[firstTrue_drop us k 0 HH.out,List.drop_eq_nil_of_le (by rw[HN.out];exact Nat.le_refl _)];rfl)
   go_wp2_with fail;go_ret;rw[HFB2.out];exact⟨rfl,rfl⟩
theorem slContB_any(us:List Bool) (p:Option Addr) (c N:Nat) (W:World) (h:At N W 1 boolCells us p c) :
  Calls Tryz.prog 59 #[.slice p us.length c,.bool true] W fun e w'=>e=.returned (.bool (us.contains true))/\w'=W:=by
 have HC:=zh (slIndB_any us p c N W h);obtain⟨z,hz⟩ : ∃z,firstTrue us 0=z:=⟨_,rfl⟩;rw[<- firstTrue_any us 0];rw[hz] at HC ⊢;clear h hz;go_enter Tryz.func59,Tryz.ntmps59;go_wp2_with (go_at_call 100;refine HC.out.mono ?_;rintro e w' ⟨rfl,rfl⟩);go_ret;exact⟨rfl,rfl⟩
theorem hAllotE_any(us:List Bool) (p:Option Addr) (c N b k:Nat) (u:Bool) (W:World) (h:At N W 1 boolCells us p c) (hc:W.cell? ⟨b,0,none⟩=some (.slice p us.length c)) (hk:us[k]? = some u) :
  Calls Tryz.prog 58 #[.int .i64 k,.pointer (some ⟨b,0,none⟩)] W fun e w'=>e=.returned (.bool u)/\w'=W:=by
 obtain⟨g,a,rfl,-,e0⟩:=h.bools hk;have h1:(0:Int)<=k:=by omega
 have h2:(k:Int) < us.length:=by have:=(List.getElem?_eq_some_iff.1 hk).1;omega
 obtain⟨n,hn⟩ : ∃n,us.length=n:=⟨_,rfl⟩;rw[hn] at hc h2;clear h hk hn;go_enter Tryz.func58,Tryz.ntmps58;go_wp2_with fail;go_ret;exact⟨rfl,rfl⟩
theorem hAllotF_any(cs:List Cl) (p:Option Addr) (c N b k:Nat) (x:Cl) (W:World) (h:At N W 5 claimCells cs p c) (hc:W.cell? ⟨b,0,none⟩=some (.slice p cs.length c)) (hk:cs[k]? = some x) :
  Calls Tryz.prog 62 #[.int .i64 k,.pointer (some ⟨b,0,none⟩)] W fun e w'=>e=.returned (ratV x.amt)/\Turned (fun _=>False) W w':=by
 obtain⟨g,a,rfl,-,e0,e1,e2,e3,e4⟩:=h.claims hk;have h1:(0:Int)<=k:=by omega
 have h2:(k:Int) < cs.length:=by have:=(List.getElem?_eq_some_iff.1 hk).1;omega
 obtain⟨n,hn⟩ : ∃n,cs.length=n:=⟨_,rfl⟩;rw[hn] at hc h2;obtain⟨pl,rk,⟨un,ux,ud⟩⟩:=x;have T:=(zr W).alloc (.cells #[.bool false,.string ⟨#[]⟩,.string ⟨#[]⟩] 68);have f0:=cellT T id hc;have f2:=cellT T id e2;have f3:=cellT T id e3;have f4:=cellT T id e4;clear h hk hn hc e0 e1 e2 e3 e4 T;go_enter Tryz.func62,Tryz.ntmps62;go_wp2_with fail;refine bodyPost_ret (results_cell_row (fn:=Tryz.f62) rfl _ _ W.heap.size 68 #[.bool un,.string ux,.string ud] (0,0) _ rfl (World.alloc_heap_new _ _) Tryz.underlying68 rfl (by kernel_rfl)) rfl ?_
 exact⟨rfl,(zr W).alloc _⟩
end Go.Proofs.YtanhhdndgkhcfaaGreatDoor
namespace Go.Proofs
open Go.Shelf
def Tryz.keysA_ren:Go.Shelf.Ren:=⟨fun | 7=>56 | 10=>99 | n=>n,fun | 23=>99 | 26=>3 | 3=>4 | 28=>102 | 0=>0 | 27=>101 | 33=>106 | 4=>4 | n=>n,fun | n=>n⟩
theorem Tryz.keysA:Go.Proofs.SlLaysZI.n7 Tryz.prog Tryz.keysA_ren:={
 mixed:=by kernel_rfl
 f7:=⟨Tryz.f56.name,by decide,Tryz.func56.trans (congrArg some (by kernel_rfl))⟩
 f10:=⟨Tryz.f99.name,by decide,Tryz.func99.trans (congrArg some (by kernel_rfl))⟩
 t0:=Tryz.underlying0
 a0:=Tryz.isAgg0
 z0:=Tryz.sizeOf0
 v0:=Tryz.zeroValue0
 t4:=Tryz.underlying4
 a4:=Tryz.isAgg4
 z4:=Tryz.sizeOf4
 v4:=Tryz.zeroValue4
 t23:=Tryz.underlying99
 a23:=Tryz.isAgg99
 z23:=Tryz.sizeOf99
 v23:=Tryz.zeroValue99
 t26:=Tryz.underlying3
 a26:=Tryz.isAgg3
 z26:=Tryz.sizeOf3
 v26:=Tryz.zeroValue3
 t27:=Tryz.underlying101
 a27:=Tryz.isAgg101
 z27:=Tryz.sizeOf101
 v27:=Tryz.zeroValue101
 t28:=Tryz.underlying102
 a28:=Tryz.isAgg102
 z28:=Tryz.sizeOf102
 v28:=Tryz.zeroValue102
 t33:=Tryz.underlying106
 a33:=Tryz.isAgg106
 z33:=Tryz.sizeOf106
 v33:=Tryz.zeroValue106 }
def Tryz.sortedA_ren:Go.Shelf.Ren:=⟨fun | 6=>55 | 8=>97 | 9=>98 | 11=>126 | 13=>128 | 12=>127 | 23=>160 | 24=>161 | 14=>151 | 15=>152 | 16=>153 | 17=>154 | 18=>155 | 19=>156 | 20=>157 | 21=>158 | 22=>159 | 25=>168 | 26=>169 | 27=>170 | 28=>171 | 29=>172 | 30=>173 | 31=>179 | n=>n,fun | 26=>3 | 28=>102 | 24=>44 | 0=>0 | 3=>3 | 37=>171 | 48=>173 | 50=>187 | 4=>4 | 40=>191 | 39=>190 | 45=>196 | 5=>5 | 9=>9 | 51=>204 | 55=>208 | 57=>218 | 58=>219 | 33=>106 | n=>n,fun | n=>n⟩
theorem Tryz.sortedA:Go.Proofs.SlLaysZI.n6 Tryz.prog Tryz.sortedA_ren:={
 mixed:=by kernel_rfl
 f6:=⟨Tryz.f55.name,by decide,Tryz.func55.trans (congrArg some (by kernel_rfl))⟩
 f8:=⟨Tryz.f97.name,by decide,Tryz.func97.trans (congrArg some (by kernel_rfl))⟩
 f11:=⟨Tryz.f126.name,by decide,Tryz.func126.trans (congrArg some (by kernel_rfl))⟩
 t0:=Tryz.underlying0
 a0:=Tryz.isAgg0
 z0:=Tryz.sizeOf0
 v0:=Tryz.zeroValue0
 t24:=Tryz.underlying44
 a24:=Tryz.isAgg44
 z24:=Tryz.sizeOf44
 v24:=Tryz.zeroValue44
 t26:=Tryz.underlying3
 a26:=Tryz.isAgg3
 z26:=Tryz.sizeOf3
 v26:=Tryz.zeroValue3
 t28:=Tryz.underlying102
 a28:=Tryz.isAgg102
 z28:=Tryz.sizeOf102
 v28:=Tryz.zeroValue102
 i26:=by kernel_rfl }
def Tryz.sortA_ren:Go.Shelf.Ren:=⟨fun | 5=>98 | 8=>128 | 7=>127 | 19=>160 | 20=>161 | 10=>151 | 11=>152 | 12=>153 | 13=>154 | 14=>155 | 15=>156 | 16=>157 | 17=>158 | 18=>159 | 30=>168 | 31=>169 | 32=>170 | 33=>171 | 34=>172 | 35=>173 | 40=>179 | n=>n,fun | 23=>44 | 25=>3 | 3=>3 | 32=>171 | 22=>44 | 0=>0 | 44=>173 | 46=>187 | 4=>4 | 36=>191 | 35=>190 | 41=>196 | 5=>5 | 9=>9 | 53=>204 | 57=>208 | 63=>218 | 64=>219 | n=>n,fun | n=>n⟩
theorem Tryz.sortA:Go.Proofs.SlLaysM.n5 Tryz.prog Tryz.sortA_ren:={
 mixed:=by kernel_rfl
 f5:=⟨Tryz.f98.name,by decide,Tryz.func98.trans (congrArg some (by kernel_rfl))⟩
 f7:=⟨Tryz.f127.name,by decide,Tryz.func127.trans (congrArg some (by kernel_rfl))⟩
 f8:=Tryz.func128.trans (congrArg some (by kernel_rfl))
 f10:=⟨Tryz.f151.name,by decide,Tryz.func151.trans (congrArg some (by kernel_rfl))⟩
 f11:=⟨Tryz.f152.name,by decide,Tryz.func152.trans (congrArg some (by kernel_rfl))⟩
 f12:=⟨Tryz.f153.name,by decide,Tryz.func153.trans (congrArg some (by kernel_rfl))⟩
 f13:=⟨Tryz.f154.name,by decide,Tryz.func154.trans (congrArg some (by kernel_rfl))⟩
 f14:=⟨Tryz.f155.name,by decide,Tryz.func155.trans (congrArg some (by kernel_rfl))⟩
 f15:=⟨Tryz.f156.name,by decide,Tryz.func156.trans (congrArg some (by kernel_rfl))⟩
 f16:=⟨Tryz.f157.name,by decide,Tryz.func157.trans (congrArg some (by kernel_rfl))⟩
 f17:=⟨Tryz.f158.name,by decide,Tryz.func158.trans (congrArg some (by kernel_rfl))⟩
 f18:=⟨Tryz.f159.name,by decide,Tryz.func159.trans (congrArg some (by kernel_rfl))⟩
 f19:=Tryz.func160.trans (congrArg some (by kernel_rfl))
 f20:=Tryz.func161.trans (congrArg some (by kernel_rfl))
 f30:=⟨Tryz.f168.name,by decide,Tryz.func168.trans (congrArg some (by kernel_rfl))⟩
 f31:=Tryz.func169.trans (congrArg some (by kernel_rfl))
 f32:=Tryz.func170.trans (congrArg some (by kernel_rfl))
 f33:=⟨Tryz.f171.name,by decide,Tryz.func171.trans (congrArg some (by kernel_rfl))⟩
 f34:=⟨Tryz.f172.name,by decide,Tryz.func172.trans (congrArg some (by kernel_rfl))⟩
 f35:=⟨Tryz.f173.name,by decide,Tryz.func173.trans (congrArg some (by kernel_rfl))⟩
 f40:=⟨Tryz.f179.name,by decide,Tryz.func179.trans (congrArg some (by kernel_rfl))⟩
 t0:=Tryz.underlying0
 a0:=Tryz.isAgg0
 z0:=Tryz.sizeOf0
 v0:=Tryz.zeroValue0
 t3:=Tryz.underlying3
 a3:=Tryz.isAgg3
 z3:=Tryz.sizeOf3
 v3:=Tryz.zeroValue3
 t4:=Tryz.underlying4
 a4:=Tryz.isAgg4
 z4:=Tryz.sizeOf4
 v4:=Tryz.zeroValue4
 t5:=Tryz.underlying5
 a5:=Tryz.isAgg5
 z5:=Tryz.sizeOf5
 v5:=Tryz.zeroValue5
 t9:=Tryz.underlying9
 a9:=Tryz.isAgg9
 z9:=Tryz.sizeOf9
 v9:=Tryz.zeroValue9
 t22:=Tryz.underlying44
 a22:=Tryz.isAgg44
 z22:=Tryz.sizeOf44
 v22:=Tryz.zeroValue44
 t23:=Tryz.underlying44
 a23:=Tryz.isAgg44
 z23:=Tryz.sizeOf44
 v23:=Tryz.zeroValue44
 t25:=Tryz.underlying3
 a25:=Tryz.isAgg3
 z25:=Tryz.sizeOf3
 v25:=Tryz.zeroValue3
 t32:=Tryz.underlying171
 a32:=Tryz.isAgg171
 z32:=Tryz.sizeOf171
 v32:=Tryz.zeroValue171
 t35:=Tryz.underlying190
 a35:=Tryz.isAgg190
 z35:=Tryz.sizeOf190
 v35:=Tryz.zeroValue190
 t36:=Tryz.underlying191
 a36:=Tryz.isAgg191
 z36:=Tryz.sizeOf191
 v36:=Tryz.zeroValue191
 t41:=Tryz.underlying196
 a41:=Tryz.isAgg196
 z41:=Tryz.sizeOf196
 v41:=Tryz.zeroValue196
 t44:=Tryz.underlying173
 a44:=Tryz.isAgg173
 z44:=Tryz.sizeOf173
 v44:=Tryz.zeroValue173
 t46:=Tryz.underlying187
 a46:=Tryz.isAgg187
 z46:=Tryz.sizeOf187
 v46:=Tryz.zeroValue187
 t53:=Tryz.underlying204
 a53:=Tryz.isAgg204
 z53:=Tryz.sizeOf204
 v53:=Tryz.zeroValue204
 t57:=Tryz.underlying208
 a57:=Tryz.isAgg208
 z57:=Tryz.sizeOf208
 v57:=Tryz.zeroValue208
 t63:=Tryz.underlying218
 a63:=Tryz.isAgg218
 z63:=Tryz.sizeOf218
 v63:=Tryz.zeroValue218
 t64:=Tryz.underlying219
 a64:=Tryz.isAgg219
 z64:=Tryz.sizeOf219
 v64:=Tryz.zeroValue219 }
end Go.Proofs
namespace Go.Proofs.YtanhhdndgkhcfaaGreatDoor
open Go.RowKit Go.Maps Go.Sort Go.Shelf
theorem sortsA(m:Nat):AnyZI.SortsIn Tryz.prog Tryz.sortedA_ren Fence.wide m :=
 ⟨fun blk off cap ss W hH hblk hsz=>callsIn_wide.2 (AnyM.slices_Sort_int Tryz.sortA blk off cap ss W hH hblk hsz),
 fun p cap W=>callsIn_wide.2 (AnyM.slices_Sort_int_none Tryz.sortA p cap W)⟩
theorem mapsKeys_in(mb:Option Nat) (W:World):CallsIn Fence.wide 5 Tryz.prog 56 #[.map mb] W fun e w'=>e=.returned (.func (.func 99) #[] #[.pointer (some ⟨W.heap.size,0,none⟩)])/\w'=W.alloc (.cells #[.map mb] 99) :=
 AnyZI.keys_in Tryz.keysA Fence.wide 5 trivial rfl mb W
theorem mapsKeys_any(mb:Option Nat) (W:World):Calls Tryz.prog 56 #[.map mb] W fun e w'=>e=.returned (.func (.func 99) #[] #[.pointer (some ⟨W.heap.size,0,none⟩)])/\w'=W.alloc (.cells #[.map mb] 99) :=
 callsIn_wide.1 (mapsKeys_in mb W)
theorem slSorted_any{H:Type} (b nn:Nat) (D0:DataW H) (R:Value->Option (DataW H×List MemPlace)) (w:World) (hown:w.ownsMap Tryz.prog 3 R b nn D0) (hmax:Maps.size D0<=maxLen) (hbytes:Maps.size D0*8<=140737488355328) :
  Calls Tryz.prog 55 #[.func (.func 99) #[] #[.pointer (some ⟨w.heap.size,0,none⟩)]] (w.alloc (.cells #[.map (some b)] 99)) fun e w'=>∃(v:Value) (ss:List Int),e=.returned v/\ss.Perm (intKeys D0) /\
   w'.ownsRow (w.alloc (.cells #[.map (some b)] 99)).heap.size 3 1 v ss.length ((ss.mergeSort (fun x y=>decide (x<=y))).map encZ)/\(v=.slice none 0 0↔ss=[])/\Below (w.alloc (.cells #[.map (some b)] 99)).heap.size (w.alloc (.cells #[.map (some b)] 99)) w':=by
 have hbl:=hown.lt;have hseq:SeqGives Fence.wide 2 Tryz.prog 99 #[.pointer (some ⟨w.heap.size,0,none⟩)] encZ (fun ss=>ss.Perm (intKeys D0)) (Maps.size D0) (w.alloc (.cells #[.map (some b)] 99)) :=
  AnyZI.keys_gives (ρ:=Tryz.keysA_ren) { Tryz.keysA with } Fence.wide _ trivial rfl (by omega) w.heap.size b nn D0 _ (by simp) (by simp) (by
   obtain⟨es,clock,hb,Ft,hs,hD⟩:=hown;exact⟨es,clock,(Below.heap_alloc _ _ b hbl).trans hb,Ft,hs,hD⟩)
 exact callsIn_wide.1 (AnyZI.sorted_in Tryz.sortedA Fence.wide 5 trivial trivial trivial trivial rfl (by omega) (sortsA _) (enters_of Tryz.func98 (by kernel_rfl) rfl) 99 #[.pointer (some ⟨w.heap.size,0,none⟩)] trivial (enters_of Tryz.func99 (by kernel_rfl) rfl) _ _ hmax hbytes _ hseq)
def ranksD {H:Type} (rs:List Int):DataW H:=rs.foldl (fun D r=>D.put (.int .i64 r) (.lit (.bool true))) (.map [])
structure KeysAre {H:Type} (es:List (Lit×DataW H)) (rs:List Int):Prop where
 int:∀p∈es,∃x,p.1=.int .i64 x
 nd:(es.map fun p=>Go.intOf p.1).Nodup
 mem:∀x,x∈(es.map fun p=>Go.intOf p.1)↔x∈rs
 len:es.length<=rs.length
theorem keysAre_nil{H:Type} : KeysAre ([]:List (Lit×DataW H)) []:=⟨fun _ h=>(by cases h),List.nodup_nil,fun x=>(by simp),Nat.le_refl _⟩
theorem keysAre_put{H:Type} {es:List (Lit×DataW H)} {rs:List Int} (h:KeysAre es rs) (r:Int) (d:DataW H) :
  KeysAre (DataW.insert (.int .i64 r,d) (es.filter fun p=>!p.1.sameKey (.int .i64 r))) (rs++[r]):=by
 have hp:=Go.WideShapes.insert_perm (Lit.int .i64 r,d) (es.filter fun p=>!p.1.sameKey (.int .i64 r))
 have hm:=hp.map fun p=>Go.intOf p.1
 have hk:∀p∈es.filter fun p=>!p.1.sameKey (.int .i64 r),Go.intOf p.1≠r:=by
  intro p hp2 he;rw[List.mem_filter] at hp2;obtain⟨x,hx⟩:=h.int p hp2.1;rw[hx] at he hp2;have:x=r:=he;subst this;simp[Lit.sameKey] at hp2
 refine⟨fun p hp2=>?_,?_,fun x=>?_,?_⟩
 ·rcases List.mem_cons.1 (hp.mem_iff.1 hp2) with h1 | h1
  ·exact⟨r,by rw[h1]⟩
  ·exact h.int p (List.mem_filter.1 h1).1
 ·rw[hm.nodup_iff];refine List.nodup_cons.2 ⟨fun hr=>?_,?_⟩
  ·obtain⟨p,hp2,he⟩:=List.mem_map.1 hr;exact hk p hp2 he
  ·exact List.Nodup.sublist (List.Sublist.map _ List.filter_sublist) h.nd
 ·rw[hm.mem_iff,List.map_cons,List.mem_cons,List.mem_append,List.mem_singleton];constructor
  ·rintro(h1 | h1)
   ·exact .inr h1
   ·obtain⟨p,hp2,he⟩:=List.mem_map.1 h1;exact .inl ((h.mem x).1 (List.mem_map.2 ⟨p,(List.mem_filter.1 hp2).1,he⟩))
  ·rintro(h1 | h1)
   ·by_cases hx:x=r
    ·exact .inl hx
    ·obtain⟨p,hp2,he⟩:=List.mem_map.1 ((h.mem x).2 h1);refine .inr (List.mem_map.2 ⟨p,List.mem_filter.2 ⟨hp2,?_⟩,he⟩);obtain⟨y,hy⟩:=h.int p hp2;have he2:y=x:=by rw[<- he,hy];rfl
     rw[hy,he2];simp[Lit.sameKey,hx]
   ·exact .inl h1
 ·rw[hp.length_eq,List.length_cons,List.length_append,List.length_singleton];have h1:=List.length_filter_le (fun p:Lit×DataW H=>!p.1.sameKey (.int .i64 r)) es
  have h2:=h.len;omega
theorem ranksD_append{H:Type} (rs:List Int) (r:Int):(ranksD (rs++[r]):DataW H)=(ranksD rs).put (.int .i64 r) (.lit (.bool true)):=by
 unfold ranksD;rw[List.foldl_append];rfl
theorem ranksD_keys{H:Type} (rs:List Int):∃es:List (Lit×DataW H),ranksD rs=.map es/\KeysAre es rs:=by
 have h:∀n,n<=rs.length->∃es:List (Lit×DataW H),ranksD (rs.take n)=.map es/\KeysAre es (rs.take n):=by
  intro n
  induction n with
  | zero=>intro _;exact⟨[],rfl,keysAre_nil⟩
  | succ n ih =>
   intro hn;obtain⟨es,h1,h2⟩:=ih (by omega)
   rw[List.take_succ_eq_append_getElem (by omega),ranksD_append,h1]
   exact⟨_,rfl,keysAre_put h2 _ _⟩
 have:=h rs.length (Nat.le_refl _);rwa [List.take_length] at this
theorem ranksD_size{H:Type} (rs:List Int):Maps.size (ranksD rs:DataW H)<=rs.length:=by
 obtain⟨es,h1,h2⟩:=ranksD_keys (H:=H) rs;rw[h1];exact h2.len
structure RanksUp (rs ss:List Int):Prop where
 up:ss.Pairwise (fun x y=>x < y)
 mem:∀x,x∈ss↔x∈rs
theorem ranksUp_of{H:Type} {rs ss:List Int} (h:ss.Perm (intKeys (ranksD rs:DataW H))):RanksUp rs (ss.mergeSort fun x y=>decide (x<=y)):=by
 obtain⟨es,h1,h2⟩:=ranksD_keys (H:=H) rs;rw[h1] at h;have hs:=List.mergeSort_perm ss fun x y=>decide (x<=y)
 have hp:(ss.mergeSort fun x y=>decide (x<=y)).Perm (es.map fun p=>Go.intOf p.1):=hs.trans h
 have hle:(ss.mergeSort fun x y=>decide (x<=y)).Pairwise (fun x y=>decide (x<=y)=true) :=
  List.pairwise_mergeSort (fun a b c h1 h2=>by rw[decide_eq_true_eq] at *;omega) (fun a b=>by rw[Bool.or_eq_true,decide_eq_true_eq,decide_eq_true_eq];omega) ss
 have hnd:(ss.mergeSort fun x y=>decide (x<=y)).Nodup:=hp.nodup_iff.2 h2.nd
 refine⟨?_,fun x=>by rw[hp.mem_iff,h2.mem]⟩
 have:=List.pairwise_and_iff.2 ⟨hle,hnd⟩;refine this.imp ?_;rintro a b ⟨h3,h4⟩;rw[decide_eq_true_eq] at h3;omega
def blkOf (n:Nat):Code->Option Code
 | .block m c=>if m=n then some c else blkOf n c
 | .loop c=>blkOf n c
 | .scope c=>blkOf n c
 | .seq a b=>match blkOf n a with
  | some c=>some c
  | none=>blkOf n b
 | .cond _ a b=>match blkOf n a with
  | some c=>some c
  | none=>blkOf n b
 | .rangeFunc _ _ _ b=>blkOf n b
 | _=>none
def loopOf:Code->Option Code
 | .loop c=>some c
 | _=>none
noncomputable def aBody (n:Nat):Code:=(((Tryz.f28).body.bind (blkOf n)).bind loopOf).getD .skip
theorem ranks_step{H:Type} {cs:List Cl} {j:Nat} {x:Cl} (h:cs[j]? = some x):(ranksD (List.take (j+1) (cs.map (·.rank))):DataW H)=(ranksD ((cs.take j).map (·.rank))).put (.int .i64 x.rank) (.lit (.bool true)):=by
 obtain⟨hlt,rfl⟩:=List.getElem?_eq_some_iff.1 h;rw[<- List.map_take,List.take_succ_eq_append_getElem hlt,List.map_append];exact ranksD_append _ _
def tmpN (a:Act) (i:Nat):Nat:=match a.tmps[i]? with
 | some (.int _ j)=>j.toNat
 | _=>0
theorem allotL1{Q:Exit->Act->World->Prop} (cs:List Cl) (cp:Option Addr) (cc mb N:Nat) (w0:World) (ds:List Deferred) (c0 c1 c2 c3 c4 c5 c6 c7 c8 c9 c11 c13 c14 c15 c16 c17 c18 c19 c20 c21 c22 c23 c24 c25 c26 c27 c28 c29 c30 c31 c32 c33 c34 c35 c36 c37 c38 c39 c40 c41 c42 c43 c44 c45 c56 c57 c58 c59 c60 c61 c62 c63 c64 c65 c66 c67 c68 c69 c70 c71 c72 c73 c74 c75 c76 c77 c78 c79 c80 c81 c82 c83 c84 c85 c86 c87 c88 c89 c90 c91 c92 c93 c94 c95 c96 c97 c98 c99 c100 c101 c102 c103 c104 c105 c106 c107 c108 c109 c110 c111 c112 c113 c114 c115 c116 c117 c118 c119 c120 c121 c122 c123 c124 c125 c126 c127 c128 c129 c130 c131 c132 c133 c134 c135 c136 c137 c138 c139 c140 c141 c142 c143 c144 c145 c146 c147 c148 c149 c150 c151 c152 c153 c154 c155 c156 c157 c158 c159 c160 c161 c162 c163 c164 c165 c166 c167 c168 c169 c170 c171 c172 c173 c174 c175 c176 c177 c178 c179 c180 c181 c182 c183 c184 c185 c186 c187 c188 c189 c190 c191 c192 c193 c194 c195 c196 c12 c49 c50 c51 c52 c53 c54 c55:Value)
  (HA:At N w0 5 claimCells cs cp cc) (hsz:cs.length<=200) (hr:∀c∈cs,0<=c.rank/\c.rank<=100) (hown:w0.ownsMap Tryz.prog 3 (plainElem (H:=Nat) Tryz.prog 4) mb 0 (.map [])) (hN:N<=mb)
  (hexit:∀(u12 u48 u49 u50 u51 u52 u53 u54 u55:Value) (w':World),w'.ownsMap Tryz.prog 3 (plainElem (H:=Nat) Tryz.prog 4) mb cs.length (ranksD (cs.map (·.rank)))->Turned (fun i=>i=mb) w0 w'->Q (.exit 0) { tmps:=(c0::c1::c2::c3::c4::c5::c6::c7::c8::c9::.map (some mb)::c11::u12::c13::c14::c15::c16::c17::c18::c19::c20::c21::c22::c23::c24::c25::c26::c27::c28::c29::c30::c31::c32::c33::c34::c35::c36::c37::c38::c39::c40::c41::c42::c43::c44::c45::.slice cp cs.length cc::(.int .i64 cs.length)::u48::u49::u50::u51::u52::u53::u54::u55::c56::c57::c58::c59::c60::c61::c62::c63::c64::c65::c66::c67::c68::c69::c70::c71::c72::c73::c74::c75::c76::c77::c78::c79::c80::c81::c82::c83::c84::c85::c86::c87::c88::c89::c90::c91::c92::c93::c94::c95::c96::c97::c98::c99::c100::c101::c102::c103::c104::c105::c106::c107::c108::c109::c110::c111::c112::c113::c114::c115::c116::c117::c118::c119::c120::c121::c122::c123::c124::c125::c126::c127::c128::c129::c130::c131::c132::c133::c134::c135::c136::c137::c138::c139::c140::c141::c142::c143::c144::c145::c146::c147::c148::c149::c150::c151::c152::c153::c154::c155::c156::c157::c158::c159::c160::c161::c162::c163::c164::c165::c166::c167::c168::c169::c170::c171::c172::c173::c174::c175::c176::c177::c178::c179::c180::c181::c182::c183::c184::c185::c186::c187::c188::c189::c190::c191::c192::c193::c194::c195::c196::[]).toArray,defers:=ds } w') :
  Code.wp Tryz.prog (Code.loop (aBody 0)) Q { tmps:=(c0::c1::c2::c3::c4::c5::c6::c7::c8::c9::.map (some mb)::c11::c12::c13::c14::c15::c16::c17::c18::c19::c20::c21::c22::c23::c24::c25::c26::c27::c28::c29::c30::c31::c32::c33::c34::c35::c36::c37::c38::c39::c40::c41::c42::c43::c44::c45::.slice cp cs.length cc::(.int .i64 cs.length)::(.int .i64 0)::c49::c50::c51::c52::c53::c54::c55::c56::c57::c58::c59::c60::c61::c62::c63::c64::c65::c66::c67::c68::c69::c70::c71::c72::c73::c74::c75::c76::c77::c78::c79::c80::c81::c82::c83::c84::c85::c86::c87::c88::c89::c90::c91::c92::c93::c94::c95::c96::c97::c98::c99::c100::c101::c102::c103::c104::c105::c106::c107::c108::c109::c110::c111::c112::c113::c114::c115::c116::c117::c118::c119::c120::c121::c122::c123::c124::c125::c126::c127::c128::c129::c130::c131::c132::c133::c134::c135::c136::c137::c138::c139::c140::c141::c142::c143::c144::c145::c146::c147::c148::c149::c150::c151::c152::c153::c154::c155::c156::c157::c158::c159::c160::c161::c162::c163::c164::c165::c166::c167::c168::c169::c170::c171::c172::c173::c174::c175::c176::c177::c178::c179::c180::c181::c182::c183::c184::c185::c186::c187::c188::c189::c190::c191::c192::c193::c194::c195::c196::[]).toArray,defers:=ds } w0:=by
 have HHA:=zh HA;have HR:=zh hr;obtain⟨n,hn⟩ : ∃n,cs.length=n:=⟨_,rfl⟩;have HNN:=zh hn;rw[hn] at hexit hsz ⊢;clear HA hr hn;refine wp_loop (fun a w'=>∃(j:Nat) (u12 u49 u50 u51 u52 u53 u54 u55:Value),(j<=n/\Hid (w'.ownsMap Tryz.prog 3 (plainElem (H:=Nat) Tryz.prog 4) mb j (ranksD ((cs.take j).map (·.rank)))/\Turned (fun i=>i=mb) w0 w'))/\a={ tmps:=(c0::c1::c2::c3::c4::c5::c6::c7::c8::c9::.map (some mb)::c11::u12::c13::c14::c15::c16::c17::c18::c19::c20::c21::c22::c23::c24::c25::c26::c27::c28::c29::c30::c31::c32::c33::c34::c35::c36::c37::c38::c39::c40::c41::c42::c43::c44::c45::.slice cp n cc::(.int .i64 n)::(.int .i64 j)::u49::u50::u51::u52::u53::u54::u55::c56::c57::c58::c59::c60::c61::c62::c63::c64::c65::c66::c67::c68::c69::c70::c71::c72::c73::c74::c75::c76::c77::c78::c79::c80::c81::c82::c83::c84::c85::c86::c87::c88::c89::c90::c91::c92::c93::c94::c95::c96::c97::c98::c99::c100::c101::c102::c103::c104::c105::c106::c107::c108::c109::c110::c111::c112::c113::c114::c115::c116::c117::c118::c119::c120::c121::c122::c123::c124::c125::c126::c127::c128::c129::c130::c131::c132::c133::c134::c135::c136::c137::c138::c139::c140::c141::c142::c143::c144::c145::c146::c147::c148::c149::c150::c151::c152::c153::c154::c155::c156::c157::c158::c159::c160::c161::c162::c163::c164::c165::c166::c167::c168::c169::c170::c171::c172::c173::c174::c175::c176::c177::c178::c179::c180::c181::c182::c183::c184::c185::c186::c187::c188::c189::c190::c191::c192::c193::c194::c195::c196::[]).toArray,defers:=ds }) (fun a _=>n-tmpN a 48) ?_ ?_
 ·exact⟨0,_,_,_,_,_,_,_,_,⟨Nat.zero_le _,zh ⟨hown,Turned.refl _ _⟩⟩,rfl⟩
 ·have hown0:=hown;clear hown;rintro a wr ⟨j,u12,u49,u50,u51,u52,u53,u54,u55,⟨hj,HH⟩,rfl⟩;by_cases hlt:j < n
  ·have hx:cs[j]? = some (cs[j]'(by rw[HNN.out];exact hlt)):=List.getElem?_eq_getElem _
   obtain⟨⟨pl,rk,⟨un,ux,ud⟩⟩,hxe⟩ : ∃u,cs[j]'(by rw[HNN.out];exact hlt)=u:=⟨_,rfl⟩
   rw[hxe] at hx;have hrk:=HR.out _ (List.mem_of_getElem? hx);have hsame:Same N w0 wr:=HH.out.2.same (by have:=hown0.lt;omega) (fun k hk=>by omega)
   obtain⟨b,a,rfl,-,e0,e1,e2,e3,e4⟩:=(HHA.out.same hsame).claims hx;have TA:=(zr wr).alloc (.cells #[.int .i64 pl,.int .i64 rk,.bool un,.string ux,.string ud] 75);have HOA:=HH.out.1.alloc (.cells #[.int .i64 pl,.int .i64 rk,.bool un,.string ux,.string ud] 75);have hkey:keyOf Tryz.prog 3 (.int .i64 rk)=some (.int .i64 rk):=keyOf_int_mk Tryz.underlying3 (by show(decide (IntKind.i64.min<=rk) && decide (rk<=IntKind.i64.max))=true;rw[Bool.and_eq_true,decide_eq_true_eq,decide_eq_true_eq,show IntKind.i64.min = -9223372036854775808 from rfl,show IntKind.i64.max=9223372036854775807 from rfl];have h0:0<=rk/\rk<=100:=hrk;omega)
   have HX:=zh hx;clear hx hxe hsame
   conv=>arg 2;whnf
   go_wp2_with (first | (at_mapUpdate;refine wpList_mapUpdate_own _ rfl _ _ _ 99 rfl 3 4 (int_keyed Tryz.underlying3) Tryz.underlying99 _ mb j _ rfl HOA (by simp[maxLen];omega) _ _ (.int .i64 rk) rfl rfl hkey (.lit (.bool true)) [] (plainElem_bool Tryz.underlying4 true) ?_;intro w1 hown1 hgrow1) | fail)
   refine⟨⟨j+1,⟨hlt,zh ⟨?_,?_⟩⟩,rfl⟩,?_⟩
   ·rw[ranks_step HX.out];exact hown1
   ·exact HH.out.2.trans ((TA.mono fun _ h=>h.elim).trans ⟨hgrow1.os,hgrow1.tape,hgrow1.output,hgrow1.size,fun i hi h=>hgrow1.block i hi fun e=>h (by cases e;rfl)⟩)
   ·simp[tmpN];omega
  ·obtain rfl:j=n:=by omega
   conv=>arg 2;whnf
   go_wp2_with fail;refine hexit _ _ _ _ _ _ _ _ _ wr ?_ HH.out.2;have h1:=HH.out.1;rwa [List.take_of_length_le (Nat.le_of_eq HNN.out)] at h1
def OwnB (W:World) (g:Nat) (l:List Bool):Prop:=W.heap[g]? = some (.cells (l.map Value.bool).toArray 4 (0,0))
section
variable {W W':World} {g:Nat} {l:List Bool}
theorem OwnB.lt(h:OwnB W g l):g < W.heap.size:=getElem?_lt h
theorem OwnB.made(W:World) (n:Nat):OwnB (W.alloc (.cells (Array.replicate n (.bool false)) 4)) W.heap.size (List.replicate n false):=by
 unfold OwnB;rw[World.alloc_heap_new,List.map_replicate]
 congr 2
theorem OwnB.cell(h:OwnB W g l) {i:Nat} {u:Bool} (hi:l[i]? = some u):W.cell? ⟨g,i,none⟩=some (.bool u):=by
 simp only[World.cell?,show W.heap[g]? = _ from h];simp[hi]
theorem OwnB.free(h:OwnB W g l) (o:Nat):W.frozen? ⟨g,o,none⟩=false:=by simp[World.frozen?,show W.heap[g]? = _ from h]
theorem OwnB.turned(h:OwnB W g l) {C:Nat->Prop} (ht:Turned C W W') (hC:¬C g):OwnB W' g l:=(ht.block g h.lt hC).trans h
theorem OwnB.set(h:OwnB W g l) (i:Nat) (u:Bool):OwnB (W.setCell ⟨g,i,none⟩ (.bool u)) g (l.set i u)/\Turned (fun k=>k=g) W (W.setCell ⟨g,i,none⟩ (.bool u)):=by
 refine⟨?_,(Turned.refl (fun k=>k=g) W).setCell (p:=⟨g,i,none⟩) rfl _⟩
 unfold OwnB;rw[set_block h i (.bool u)]
 congr 2
 apply Array.ext';simp[List.map_set]
theorem OwnB.at_(h:OwnB W g l) {N:Nat} (hN:g < N) (hm:l.length<=maxLen):At N W 1 boolCells l (some ⟨g,0,none⟩) l.length :=
 ⟨Nat.le_refl _,hm,fun i u hi=>⟨g,0,rfl,hN,fun j v hj=>by
  have hj3:j=0:=by
   have:=(List.getElem?_eq_some_iff.1 hj).1;simp at this;omega
  subst hj3;have h2:v=.bool u:=by simpa using hj.symm
  rw[h2];simpa using h.cell hi⟩⟩
end
def bL (m:Nat) (f:Nat->Bool):List Bool:=(List.range m).map f
theorem bL_len(m:Nat) (f:Nat->Bool):(bL m f).length=m:=by unfold bL;simp
theorem bL_at(m:Nat) (f:Nat->Bool) (i:Nat):(bL m f)[i]? = if i < m then some (f i) else none:=by
 unfold bL;rw[List.getElem?_map];by_cases h:i < m
 ·simp[h]
 ·rw[List.getElem?_eq_none (by simp;omega),if_neg h];rfl
theorem bL_get{m i:Nat} (f:Nat->Bool) (h:i < m):(bL m f)[i]? = some (f i):=by rw[bL_at,if_pos h]
theorem bL_set(m:Nat) (f:Nat->Bool) (j:Nat) (u:Bool):(bL m f).set j u=bL m (fun k=>if k=j then u else f k):=by
 apply List.ext_getElem?;intro i;rw[List.getElem?_set,bL_at,bL_at,bL_len];by_cases h:j=i
 ·subst h;by_cases hm:j < m <;> simp[hm]
 ·rw[if_neg h,if_neg (fun e:i=j=>h e.symm)]
theorem bL_congr{m:Nat} {f g:Nat->Bool} (h:∀k,k < m->f k=g k):bL m f=bL m g:=by
 apply List.ext_getElem?;intro i;rw[bL_at,bL_at];by_cases hi:i < m
 ·rw[if_pos hi,if_pos hi,h i hi]
 ·rw[if_neg hi,if_neg hi]
theorem bL_none(m:Nat):List.replicate m false=bL m fun _=>false:=by
 apply List.ext_getElem?;intro i;rw[bL_at,List.getElem?_replicate]
theorem bL_some(m:Nat) (f:Nat->Bool):(bL m f).contains true=(List.range m).any f:=by
 unfold bL;rw[List.contains_eq_any_beq,List.any_map]
 congr 1
 funext k
 simp
def noCl:Cl:=⟨0,0,zeroR⟩
def rankK (cs:List Cl) (k:Nat):Int:=(cs.getD k noCl).rank
def amtK (cs:List Cl) (k:Nat):Rat:=qR (cs.getD k noCl).amt
def placeK (cs:List Cl) (k:Nat):Nat:=(cs.getD k noCl).place.toNat
theorem getD_of{α:Type} {l:List α} {k:Nat} {x d:α} (h:l[k]? = some x):l.getD k d=x:=by rw[List.getD_eq_getElem?_getD,h];rfl
end Go.Proofs.YtanhhdndgkhcfaaGreatDoor
