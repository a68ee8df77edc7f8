import Derived.Test.YtpoafhgbhnblmaaGreatDoorRows
import Derived.Test.YtpoafhgbhnblmaaGreatDoorF01
import Derived.WalkSpells
import Derived.WalkLawsBesides
import Derived.BigQuiet
import Derived.Deep.AppendLies
set_option linter.unusedVariables false
set_option linter.unusedSimpArgs false
set_option maxRecDepth 100000
set_option maxHeartbeats 20000000
namespace Go.Proofs.YtpoafhgbhnblmaaGreatDoor
open Go.Proofs.Tryz (prog)
open Go.RowKit
theorem IC(a k:Nat)(ha:a<256)(hk:k≤7):bits .and .i64 (a:Int) ((2 ^ k - 1:Nat):Int)=((a % 2 ^ k:Nat):Int):=by
 have hk':(2:Nat) ^ k≤2 ^ 7:=Nat.pow_le_pow_right (by decide) hk;have h:=show bits .and .i64 (a:Int) ((2 ^ k - 1:Nat):Int)=((a &&& (2 ^ k - 1):Nat):Int) by
  have o:∀x:Nat,x<256→(BitVec.ofInt 64 (x:Int)).toNat=x:=fun x hx=>by
   rw[BitVec.ofInt_natCast,BitVec.toNat_ofNat];exact Nat.mod_eq_of_lt (by omega)
  show IntKind.i64.wrap ((BitVec.ofInt 64 (a:Int) &&& BitVec.ofInt 64 ((2 ^ k - 1:Nat):Int)).toNat:Int)=_;have hx:a &&& (2 ^ k - 1)≤a:=Nat.and_le_left;rw[BitVec.toNat_and,o a ha,o _ (by omega),IntKind.wrap_i64];omega
 rw[h,Nat.and_two_pow_sub_one_eq_mod]
theorem ID(b:Nat):((b:Int) % 64)=((b % 64:Nat):Int):=by omega
theorem IE(a b:Nat)(ha:a<8388608)(hb:b<64):bits .or .i64 ((a:Int) * 64) (b:Int)=((a * 64+b:Nat):Int):=by
 have o:∀x:Nat,x<9223372036854775808→(BitVec.ofInt 64 (x:Int)).toNat=x:=fun x hx=>by
  rw[BitVec.ofInt_natCast,BitVec.toNat_ofNat];exact Nat.mod_eq_of_lt (by omega)
 have e:((a:Int) * 64)=((a * 64:Nat):Int):=by omega
 rw[e];show IntKind.i64.wrap ((BitVec.ofInt 64 ((a * 64:Nat):Int) ||| BitVec.ofInt 64 (b:Int)).toNat:Int)=_;have hor:a * 64 ||| b=a * 64+b:=by
  have:=Nat.two_pow_add_eq_or_of_lt (i:=6) (b:=b) (by simpa using hb) a;rw[show (2:Nat) ^ 6=64 from rfl,Nat.mul_comm 64 a] at this;exact this.symm
 rw[BitVec.toNat_or,o _ (by omega),o b (by omega),hor,IntKind.wrap_i64];omega
theorem wF(b:Nat)(hb:b<256)(w:World) :
 Calls prog 196 #[.int .u8 b] w fun e w'=>e=.returned (.int .i64 (wd b))∧w=w':=by
 have hb':(b:Int)<256:=by omega
 have HW:Hid (wd b=if b<128 then 1 else if 194≤b∧b≤223 then 2 else if 224≤b∧b≤239 then 3 else if 240≤b∧b≤244 then 4 else 0):=aen rfl;generalize wd b=z at *;clear hb;go_enter Tryz.func196,Tryz.ntmps196;go_wp2;all_goals
  go_ret;have hz:=HW.out
  (repeat' split at hz) <;> first|omega|(subst hz;exact⟨rfl,rfl⟩)
theorem Bz(b:Nat)(hb:b<256)(w:World) :
 Calls prog 197 #[.int .u8 b] w fun e w'=>e=.returned (.tuple #[.int .u8 (lo b),.int .u8 (kR b)])∧w=w':=by
 have HW:Hid (lo b=if b=224 then 160 else if b=240 then 144 else 128):=aen rfl;have HV:Hid (kR b=if b=237 then 159 else if b=244 then 143 else 191):=aen rfl;generalize lo b=y at *;generalize kR b=z at *;go_enter Tryz.func197,Tryz.ntmps197;go_wp2;all_goals
  go_ret2;have hz:=HW.out;have hy:=HV.out;refine⟨?_,rfl⟩;simp only[beq_iff_eq,aes,ne_eq] at *
  (repeat' split at hz) <;> first|omega|((repeat' split at hy) <;> first|omega|(subst hz hy;rfl))
def wG(c n:Int)(w:World)(e:Ending)(w':World):Prop:=e=.returned (.tuple #[.int .i64 c,.int .i64 n])∧∃k,w'=w.drewN k
theorem Vl(s:ByteArray)(i:Int)(w:World)(hs:s.size≤9223372036854775807)(h:¬(0≤i∧i<s.size)) :
 Calls prog 144 #[.string s,.int .i64 i] w (wG (-1) 0 w):=by
 by_cases h0:i<0;all_goals
  go_enter Tryz.func144,Tryz.ntmps144;go_wp2;go_ret2;exact⟨rfl,0,rfl⟩
theorem NQ(s:ByteArray)(i:Nat)(w:World)(hs:s.size≤9223372036854775807)(hi:i<s.size)(h:wd (bt s i)=0∨s.size - i<wd (bt s i)) :
 Calls prog 144 #[.string s,.int .i64 i] w (wG 65533 1 w):=by
 have hb:=aK s i;have hbt:=aen (get_bt s i hi);by_cases h0:wd (bt s i)=0
 ·have hb0:(((wd (bt s i):Nat):Int)==0)=true:=by rw[h0];rfl
  clear h0 h;go_enter Tryz.func144,Tryz.ntmps144;go_wp2_with (go_at_call 196;rw[hbt.out];refine(wF _ hb _).mono ?_;rintro e w' ⟨rfl,rfl⟩);go_ret2;exact⟨rfl,0,rfl⟩
 ·have hb0:(((wd (bt s i):Nat):Int)==0)=false:=by simpa using h0
  have h':(s.size:Int) - i<(wd (bt s i):Nat):=by omega
  clear h0 h;go_enter Tryz.func144,Tryz.ntmps144;go_wp2_with (go_at_call 196;rw[hbt.out];refine(wF _ hb _).mono ?_;rintro e w' ⟨rfl,rfl⟩);go_ret2;exact⟨rfl,0,rfl⟩
theorem pW{c n c' n':Int}{w:World}{k:Nat}(hc:c=c')(hn:n=n'):wG c' n' w (.returned (.tuple #[.int .i64 c,.int .i64 n])) (w.drewN k):=by
 subst hc hn;exact⟨rfl,k,rfl⟩
theorem Vm(s:ByteArray)(i:Nat)(w:World)(hs:s.size≤9223372036854775807)(hi:i<s.size)(h:bt s i<128) :
 Calls prog 144 #[.string s,.int .i64 i] w (wG (bt s i) 1 w):=by
 have hb:=aK s i;have hlt:((s[i].toNat:Nat):Int)<256:=by rw[get_bt s i hi];omega
 have hbt:=aen (get_bt s i hi);have hw:wd (bt s i)=1:=by unfold wd;rw[if_pos h]
 have hw':=aen hw;clear hw;go_enter Tryz.func144,Tryz.ntmps144;go_wp2_with (go_at_call 196;rw[hbt.out];refine(wF _ hb _).mono ?_;rw[hw'.out];rintro e w' ⟨rfl,rfl⟩);go_ret2;exact pW (k:=0) (by rw[hbt.out]) rfl
theorem oJ(s:ByteArray)(k:Nat)(h:k<s.size):((s[k].toNat:Nat):Int)=(bt s k:Int):=by rw[get_bt s k h]
theorem Vo(s:ByteArray)(i:Nat)(w:World)(hs:s.size≤9223372036854775807)(hi:i<s.size)(h2:2≤wd (bt s i))(hn:wd (bt s i)≤s.size - i)(h:bt s (i+1)<lo (bt s i)∨kR (bt s i)<bt s (i+1)) :
 Calls prog 144 #[.string s,.int .i64 i] w (wG 65533 1 w):=by
 have hb:=aK s i;have hi1:i+1<s.size:=by omega
 have hlt:((s[i].toNat:Nat):Int)<256:=by rw[get_bt s i hi];omega
 have hlt1:((s[i+1].toNat:Nat):Int)<256:=by rw[get_bt s (i+1) hi1];have:=aK s (i+1);omega
 have e1:=oJ s (i+1) hi1;have hbt:=aen (get_bt s i hi);have hn':((wd (bt s i):Nat):Int)≤(s.size:Int) - i:=by omega
 have z0:(((wd (bt s i):Nat):Int)==0)=false:=by simp;omega
 have z1:(((wd (bt s i):Nat):Int)==1)=false:=by simp;omega
 rcases h with h|h
 ·have h':((s[i+1].toNat:Nat):Int)<(lo (bt s i):Nat):=by omega
  clear h e1 hn;go_enter Tryz.func144,Tryz.ntmps144;go_wp2_with (first|(go_at_call 196;rw[hbt.out];refine(wF _ hb _).mono ?_;rintro e w' ⟨rfl,rfl⟩)|(go_at_call 197;rw[hbt.out];refine(Bz _ hb _).mono ?_;rintro e w' ⟨rfl,rfl⟩));go_ret2;exact pW (k:=0) rfl rfl
 ·have h':((kR (bt s i):Nat):Int)<((s[i+1].toNat:Nat):Int):=by omega
  have hle:((lo (bt s i):Nat):Int)≤((s[i+1].toNat:Nat):Int):=by
   have:lo (bt s i)≤kR (bt s i):=by unfold lo kR;(repeat' split) <;> omega
   omega
  clear h e1 hn;go_enter Tryz.func144,Tryz.ntmps144;go_wp2_with (first|(go_at_call 196;rw[hbt.out];refine(wF _ hb _).mono ?_;rintro e w' ⟨rfl,rfl⟩)|(go_at_call 197;rw[hbt.out];refine(Bz _ hb _).mono ?_;rintro e w' ⟨rfl,rfl⟩));go_ret2;exact pW (k:=0) rfl rfl
theorem Vp(s:ByteArray)(i sz:Nat)(w:World)(hs:s.size≤9223372036854775807)(hi:i<s.size)(hw:wd (bt s i)=sz)(h2:sz=2∨sz=3∨sz=4)(hn:sz≤s.size - i)(hl:lo (bt s i)≤bt s (i+1))(hh:bt s (i+1)≤kR (bt s i)) :
 Calls prog 144 #[.string s,.int .i64 i] w (wG (Utf8.decode s i).1 (Utf8.decode s i).2 w):=by
 have hb:=aK s i;have hi1:i+1<s.size:=by omega
 have hlt:((s[i].toNat:Nat):Int)<256:=by rw[get_bt s i hi];omega
 have hlt1:((s[i+1].toNat:Nat):Int)<256:=by rw[get_bt s (i+1) hi1];have:=aK s (i+1);omega
 have e1:=oJ s (i+1) hi1;have hbt:=aen (get_bt s i hi);have h1:((lo (bt s i):Nat):Int)≤((s[i+1].toNat:Nat):Int):=by omega
 have h3:((s[i+1].toNat:Nat):Int)≤((kR (bt s i):Nat):Int):=by omega
 have hbad:∀j,j+1<sz→bt s (i+1+j)<128∨191<bt s (i+1+j)→Utf8.decode s i=(65533,1):=fun j hj h=>U9 s i j (by rw[hw];exact hj) h;have hgood:Bl s i (sz - 1)→Utf8.decode s i=(acc s i (2 ^ (7 - sz)) (sz - 1),sz):=Va s i sz hi hw (by omega) hn hl hh;have mG:=aen hbad;have zK:=aen hgood;have hw':=aen hw;clear hbad hgood hl hh e1 hw;generalize Utf8.decode s i=D at *;have d0:decide ((i:Int)<0)=false:=by simp
 have d2:decide (s[i+1].toNat<lo (bt s i))=false:=by simp;omega
 have d3:decide (kR (bt s i)<s[i+1].toNat)=false:=by simp;omega
 rcases h2 with rfl|rfl|rfl
 ·have hn':(2:Int)≤(s.size:Int) - i:=by omega
  have d1:decide ((s.size:Int) - i<2)=false:=by simp;omega
  go_enter Tryz.func144,Tryz.ntmps144;go_wp2_with (first|(go_at_call 196;rw[hbt.out];refine(wF _ hb _).mono ?_;rw[hw'.out];rintro e w' ⟨rfl,rfl⟩)|(go_at_call 197;rw[hbt.out];refine(Bz _ hb _).mono ?_;rintro e w' ⟨rfl,rfl⟩));go_quiet (fail);go_wp2;go_loop [4,71] (fun c k=>∃j:Nat,j≤2 - 1∧k=.int .i64 j∧c=.int .i64 (acc s i (2 ^ (7 - 2)) j)∧Bl s i j) (fun _ k=>2 - 1 - (intOf k).toNat);case atStart=>exact⟨0,by omega,rfl,congrArg (Value.int .i64) (by rw[hbt.out];exact IC _ 5 hb (by decide)),fun k hk=>absurd hk (by omega)⟩
  case round=>
   obtain⟨j,hj,rfl,rfl,hc⟩:=hrel;have ha:=Ip s i (2 ^ (7 - 2)) j (by decide) (by decide) (by omega);generalize hacc:acc s i (2 ^ (7 - 2)) j=a at *;have aY:=aen hacc;clear hacc;by_cases hlast:j<2 - 1
   ·have hij:i+1+j<s.size:=by omega
    have hlj:((s[i+1+j].toNat:Nat):Int)<256:=by rw[get_bt s _ hij];have:=aK s (i+1+j);omega
    by_cases hcont:128≤bt s (i+1+j)∧bt s (i+1+j)≤191
    ·have q1:decide (((s[i+1+j].toNat:Nat):Int)<128)=false:=by rw[get_bt s _ hij];simp;omega
     have q2:decide (191<((s[i+1+j].toNat:Nat):Int))=false:=by rw[get_bt s _ hij];simp;omega
     go_wp2;go_round;case rel=>
      refine⟨j+1,by omega,by go_num,congrArg (Value.int .i64) ?_,fun k hk=>?_⟩
      ·rw[oJ s _ hij,ID,IE _ _ ha (Nat.mod_lt _ (by decide)),←aY.out];rfl
      ·by_cases hk':k<j
       ·exact hc k hk'
       ·obtain rfl:k=j:=by omega
        exact hcont
     case measure=>simp[intOf];omega
    ·have hb':=mG.out j (by omega) (by omega);by_cases q1:bt s (i+1+j)<128
     ·have q1':((s[i+1+j].toNat:Nat):Int)<128:=by rw[get_bt s _ hij];omega
      clear hb' q1 hcont;go_wp2;go_ret2;exact pW (by rw[mG.out j (by omega) (by have:=get_bt s _ hij;omega)];rfl) (by rw[mG.out j (by omega) (by have:=get_bt s _ hij;omega)];rfl)
     ·have q1':128≤((s[i+1+j].toNat:Nat):Int):=by rw[get_bt s _ hij];omega
      have q2':191<((s[i+1+j].toNat:Nat):Int):=by rw[get_bt s _ hij];omega
      clear hb' q1 hcont;go_wp2;go_ret2;exact pW (by rw[mG.out j (by omega) (by have:=get_bt s _ hij;omega)];rfl) (by rw[mG.out j (by omega) (by have:=get_bt s _ hij;omega)];rfl)
   ·obtain rfl:j=2 - 1:=by omega
    go_wp2;go_ret2;exact pW (by rw[zK.out hc,aY.out]) (by rw[zK.out hc];rfl)
 ·have hn':(3:Int)≤(s.size:Int) - i:=by omega
  have d1:decide ((s.size:Int) - i<3)=false:=by simp;omega
  go_enter Tryz.func144,Tryz.ntmps144;go_wp2_with (first|(go_at_call 196;rw[hbt.out];refine(wF _ hb _).mono ?_;rw[hw'.out];rintro e w' ⟨rfl,rfl⟩)|(go_at_call 197;rw[hbt.out];refine(Bz _ hb _).mono ?_;rintro e w' ⟨rfl,rfl⟩));go_quiet (fail);go_wp2;go_loop [4,71] (fun c k=>∃j:Nat,j≤3 - 1∧k=.int .i64 j∧c=.int .i64 (acc s i (2 ^ (7 - 3)) j)∧Bl s i j) (fun _ k=>3 - 1 - (intOf k).toNat);case atStart=>exact⟨0,by omega,rfl,congrArg (Value.int .i64) (by rw[hbt.out];exact IC _ 4 hb (by decide)),fun k hk=>absurd hk (by omega)⟩
  case round=>
   obtain⟨j,hj,rfl,rfl,hc⟩:=hrel;have ha:=Ip s i (2 ^ (7 - 3)) j (by decide) (by decide) (by omega);generalize hacc:acc s i (2 ^ (7 - 3)) j=a at *;have aY:=aen hacc;clear hacc;by_cases hlast:j<3 - 1
   ·have hij:i+1+j<s.size:=by omega
    have hlj:((s[i+1+j].toNat:Nat):Int)<256:=by rw[get_bt s _ hij];have:=aK s (i+1+j);omega
    by_cases hcont:128≤bt s (i+1+j)∧bt s (i+1+j)≤191
    ·have q1:decide (((s[i+1+j].toNat:Nat):Int)<128)=false:=by rw[get_bt s _ hij];simp;omega
     have q2:decide (191<((s[i+1+j].toNat:Nat):Int))=false:=by rw[get_bt s _ hij];simp;omega
     go_wp2;go_round;case rel=>
      refine⟨j+1,by omega,by go_num,congrArg (Value.int .i64) ?_,fun k hk=>?_⟩
      ·rw[oJ s _ hij,ID,IE _ _ ha (Nat.mod_lt _ (by decide)),←aY.out];rfl
      ·by_cases hk':k<j
       ·exact hc k hk'
       ·obtain rfl:k=j:=by omega
        exact hcont
     case measure=>simp[intOf];omega
    ·have hb':=mG.out j (by omega) (by omega);by_cases q1:bt s (i+1+j)<128
     ·have q1':((s[i+1+j].toNat:Nat):Int)<128:=by rw[get_bt s _ hij];omega
      clear hb' q1 hcont;go_wp2;go_ret2;exact pW (by rw[mG.out j (by omega) (by have:=get_bt s _ hij;omega)];rfl) (by rw[mG.out j (by omega) (by have:=get_bt s _ hij;omega)];rfl)
     ·have q1':128≤((s[i+1+j].toNat:Nat):Int):=by rw[get_bt s _ hij];omega
      have q2':191<((s[i+1+j].toNat:Nat):Int):=by rw[get_bt s _ hij];omega
      clear hb' q1 hcont;go_wp2;go_ret2;exact pW (by rw[mG.out j (by omega) (by have:=get_bt s _ hij;omega)];rfl) (by rw[mG.out j (by omega) (by have:=get_bt s _ hij;omega)];rfl)
   ·obtain rfl:j=3 - 1:=by omega
    go_wp2;go_ret2;exact pW (by rw[zK.out hc,aY.out]) (by rw[zK.out hc];rfl)
 ·have hn':(4:Int)≤(s.size:Int) - i:=by omega
  have d1:decide ((s.size:Int) - i<4)=false:=by simp;omega
  go_enter Tryz.func144,Tryz.ntmps144;go_wp2_with (first|(go_at_call 196;rw[hbt.out];refine(wF _ hb _).mono ?_;rw[hw'.out];rintro e w' ⟨rfl,rfl⟩)|(go_at_call 197;rw[hbt.out];refine(Bz _ hb _).mono ?_;rintro e w' ⟨rfl,rfl⟩));go_quiet (fail);go_wp2;go_loop [4,71] (fun c k=>∃j:Nat,j≤4 - 1∧k=.int .i64 j∧c=.int .i64 (acc s i (2 ^ (7 - 4)) j)∧Bl s i j) (fun _ k=>4 - 1 - (intOf k).toNat);case atStart=>exact⟨0,by omega,rfl,congrArg (Value.int .i64) (by rw[hbt.out];exact IC _ 3 hb (by decide)),fun k hk=>absurd hk (by omega)⟩
  case round=>
   obtain⟨j,hj,rfl,rfl,hc⟩:=hrel;have ha:=Ip s i (2 ^ (7 - 4)) j (by decide) (by decide) (by omega);generalize hacc:acc s i (2 ^ (7 - 4)) j=a at *;have aY:=aen hacc;clear hacc;by_cases hlast:j<4 - 1
   ·have hij:i+1+j<s.size:=by omega
    have hlj:((s[i+1+j].toNat:Nat):Int)<256:=by rw[get_bt s _ hij];have:=aK s (i+1+j);omega
    by_cases hcont:128≤bt s (i+1+j)∧bt s (i+1+j)≤191
    ·have q1:decide (((s[i+1+j].toNat:Nat):Int)<128)=false:=by rw[get_bt s _ hij];simp;omega
     have q2:decide (191<((s[i+1+j].toNat:Nat):Int))=false:=by rw[get_bt s _ hij];simp;omega
     go_wp2;go_round;case rel=>
      refine⟨j+1,by omega,by go_num,congrArg (Value.int .i64) ?_,fun k hk=>?_⟩
      ·rw[oJ s _ hij,ID,IE _ _ ha (Nat.mod_lt _ (by decide)),←aY.out];rfl
      ·by_cases hk':k<j
       ·exact hc k hk'
       ·obtain rfl:k=j:=by omega
        exact hcont
     case measure=>simp[intOf];omega
    ·have hb':=mG.out j (by omega) (by omega);by_cases q1:bt s (i+1+j)<128
     ·have q1':((s[i+1+j].toNat:Nat):Int)<128:=by rw[get_bt s _ hij];omega
      clear hb' q1 hcont;go_wp2;go_ret2;exact pW (by rw[mG.out j (by omega) (by have:=get_bt s _ hij;omega)];rfl) (by rw[mG.out j (by omega) (by have:=get_bt s _ hij;omega)];rfl)
     ·have q1':128≤((s[i+1+j].toNat:Nat):Int):=by rw[get_bt s _ hij];omega
      have q2':191<((s[i+1+j].toNat:Nat):Int):=by rw[get_bt s _ hij];omega
      clear hb' q1 hcont;go_wp2;go_ret2;exact pW (by rw[mG.out j (by omega) (by have:=get_bt s _ hij;omega)];rfl) (by rw[mG.out j (by omega) (by have:=get_bt s _ hij;omega)];rfl)
   ·obtain rfl:j=4 - 1:=by omega
    go_wp2;go_ret2;exact pW (by rw[zK.out hc,aY.out]) (by rw[zK.out hc];rfl)
theorem iy{k:IntKind}{a b:Int}(h:a=b):Ending.returned (.int k a)=.returned (.int k b):=by rw[h]
theorem aJ{a b:Bool}(h:a=b):Ending.returned (.bool a)=.returned (.bool b):=by rw[h]
theorem dX{a b:ByteArray}(h:a=b):Ending.returned (.string a)=.returned (.string b):=by rw[h]
theorem block_of_add(a:Addr)(n:Nat):(a.add n).block=a.block:=by unfold Addr.add;split <;> rfl
def Reads(w:World)(B size:Nat)(A:Option Addr)(n:Nat)(xs:List Value):Prop:=
 xs.length=n * size∧(0<n→∃ad,A=some ad∧ad.block<B∧∀j u,xs[j]?=some u→w.cell? (ad.add j)=some u)
section
variable {w w':World} {B B' size n:Nat} {A:Option Addr} {xs:List Value}
theorem Reads.none_:Reads w B size A 0 []:=⟨by simp,fun h=>absurd h (by omega)⟩
theorem Reads.keep(h:Reads w B size A n xs)(hk:∀p:Addr,p.block<B→w'.cell? p=w.cell? p):Reads w' B size A n xs:=
 ⟨h.1,fun hn=>by
  obtain⟨ad,e,hb,hc⟩:=h.2 hn;exact⟨ad,e,hb,fun j u hu=>(hk _ (by rw[block_of_add];exact hb)).trans (hc j u hu)⟩⟩
theorem Reads.more(h:Reads w B size A n xs)(hB:B≤B'):Reads w B' size A n xs:=
 ⟨h.1,fun hn=>by
  obtain⟨ad,e,hb,hc⟩:=h.2 hn;exact⟨ad,e,by omega,hc⟩⟩
theorem Reads.below(h:Reads w B size A n xs)(hb:Below B w w'):Reads w' B size A n xs:=h.keep fun _ hp=>hb.cell hp
theorem Reads.alloc(h:Reads w B size A n xs)(hB:B≤w.heap.size)(o:Obj):Reads (w.alloc o) B size A n xs:=h.keep fun p hp=>World.cell?_alloc_lt w o p (by omega)
theorem Reads.of_own{base:Nat}{e:TypeId}{c:Nat}(h:w.ownsRow base e size (.slice A n c) n xs):Reads w w.heap.size size A n xs:=by
 refine⟨h.1,fun hn=>?_⟩;obtain⟨g,cap,hv,_,hlt⟩:=h.form hn;have hA:A=some ⟨g,0,none⟩:=by injection hv
 subst hA;exact⟨_,rfl,hlt,h.cells (g:=g) rfl⟩
end
theorem ay{w:World}{base size n:Nat}{e:TypeId}{v:Value}{xs:List Value}(h:w.ownsRow base e size v n xs):∃A c,v=.slice A n c:=by
 rcases h.2 with ⟨rfl,rfl⟩|⟨g,cap,cur,rfl,_⟩
 ·exact⟨none,0,by have:=h.1;rfl⟩
 ·exact⟨_,_,rfl⟩
theorem below_drewN{B:Nat}{a w:World}(h:Below B a w)(n:Nat):Below B a (w.drewN n):=⟨h.os,h.tape,h.output,h.size,h.block⟩
theorem EH{a w:World}(h:Below a.heap.size a w)(row:Option Nat):a.grownBy w row:=⟨h.os,h.tape,h.output,h.size,fun i hi _=>h.block i hi⟩
theorem own_below{w w':World}{base size n:Nat}{e:TypeId}{v:Value}{xs:List Value}(h:w.ownsRow base e size v n xs)(hb:Below w.heap.size w w'):w'.ownsRow base e size v n xs:=by
 by_cases hv:v.ownBlock=none
 ·exact h.kept (EH hb none) (.inl hv)
 ·exact h.kept (EH hb none) (.inr hv)
def lJ(c:Int):Bool:=decide (48≤c)&&decide (c≤57)
def inB(c:Int)(l:List (Int × Int)):Bool:=l.any fun r=>decide (r.1≤c)&&decide (c≤r.2)
def qP:List (Int × Int):=[(33,47),(58,64),(91,96),(123,126),(161,169),(171,180),(182,185),(187,191),(215,215),(247,247),(8208,8231),(8240,8286),(12289,12291)]
def kW:List (Int × Int):=[(65,90),(97,122),(170,170),(181,181),(186,186),(192,214),(216,246),(248,687),(880,1327),(4256,4351),(7680,8191),(12353,12538),(19968,40959),(44032,55203)]
theorem Vq(b:Nat):wd b=0∨(wd b=1∧b<128)∨wd b=2∨wd b=3∨wd b=4:=by
 unfold wd;(repeat' split) <;> simp_all
theorem next_any(s:ByteArray)(i:Int)(w:World)(hs:s.size≤9223372036854775807) :
 Calls prog 144 #[.string s,.int .i64 i] w (wG (Bo s i).1 (Bo s i).2 w):=by
 by_cases h:0≤i∧i<s.size
 ·obtain⟨k,rfl⟩:=Int.eq_ofNat_of_zero_le h.1;have hk:k<s.size:=by omega
  rw[NC s k hk];by_cases c0:wd (bt s k)=0
  ·rw[Ny s k c0];exact NQ s k w hs hk (.inl c0)
  by_cases c1:bt s k<128
  ·rw[Nz s k c1];exact Vm s k w hs hk c1
  have hw:wd (bt s k)=2∨wd (bt s k)=3∨wd (bt s k)=4:=by
   rcases Vq (bt s k) with h|h|h
   ·exact absurd h c0
   ·exact absurd h.2 c1
   ·exact h
  by_cases c2:s.size - k<wd (bt s k)
  ·rw[U7 s k hk (by omega) c2];exact NQ s k w hs hk (.inr c2)
  by_cases c3:bt s (k+1)<lo (bt s k)∨kR (bt s k)<bt s (k+1)
  ·rw[U8 s k (by omega) c3];exact Vo s k w hs hk (by omega) (by omega) c3
  ·exact Vp s k (wd (bt s k)) w hs hk rfl hw (by omega) (by omega) (by omega)
 ·rw[Vb s i h];exact Vl s i w hs h
theorem EI(c:Int)(w:World):Calls prog 157 #[.int .i64 c] w fun e w'=>e=.returned (.bool (qO c))∧w=w':=by
 have H:Hid (qO c=(c==32||c==10)):=aen rfl;generalize qO c=b at *;go_enter Tryz.func157,Tryz.ntmps157;go_wp2;all_goals
  go_ret;exact⟨aJ (by rw[H.out] <;> simp_all),rfl⟩
theorem Vr(c:Int)(w:World):Calls prog 101 #[.int .i64 c] w fun e w'=>e=.returned (.bool (lJ c))∧w=w':=by
 have H:Hid (lJ c=(decide (48≤c)&&decide (c≤57))):=aen rfl;generalize lJ c=b at *;by_cases h:48≤c;all_goals
  go_enter Tryz.func101,Tryz.ntmps101;go_wp2
 all_goals
  go_ret;exact⟨aJ (by rw[H.out];first|rfl|(simp;omega)),rfl⟩
theorem EJ(c:Int)(w:World):Calls prog 145 #[.int .i64 c] w fun e w'=>e=.returned (.bool (pV c))∧w=w':=by
 have H:Hid (pV c=((decide (c<32)&&c != 10)||c==127)):=aen rfl;generalize pV c=b at *;by_cases h:c<32
 ·by_cases h2:c=10
  ·subst h2;go_enter Tryz.func145,Tryz.ntmps145;go_wp2;go_ret;exact⟨aJ (by rw[H.out];rfl),rfl⟩
  ·have h3:(c != 10)=true:=by simpa using h2
   clear h2;go_enter Tryz.func145,Tryz.ntmps145;go_wp2;go_ret;exact⟨aJ (by rw[H.out,h3];simp[h]),rfl⟩
 ·go_enter Tryz.func145,Tryz.ntmps145;go_wp2;go_ret;exact⟨aJ (by rw[H.out];simp[show ¬c<32 by omega]),rfl⟩
theorem Vs(c:Int)(w:World):Calls prog 161 #[.int .i64 c] w fun e w'=>e=.returned (.int .i64 (jy c))∧w=w':=by
 have H:Hid (jy c=if (65≤c∧c≤90)∨(192≤c∧c≤222∧c≠215)∨(913≤c∧c≤939∧c≠930)∨(1040≤c∧c≤1071) then c+32 else if 1024≤c∧c≤1039 then c+80 else c):=aen rfl;generalize jy c=b at *;go_enter Tryz.func161,Tryz.ntmps161;go_wp2;all_goals
  go_ret;refine⟨iy ?_,rfl⟩;rw[H.out];try simp only[beq_iff_eq,aeB,aes,bne_eq_false_iff_eq,ne_eq] at *
  (repeat' split) <;> omega
theorem Vt(c:Int)(h:c<0∨1114111<c∨(55296≤c∧c≤57343)):Utf8.encode c=Utf8.encode 65533:=by
 have hv:Utf8.valid c=false:=by unfold Utf8.valid;simp;omega
 have hv':Utf8.valid 65533=true:=by decide
 unfold Utf8.encode;simp only[hv,hv',Bool.false_eq_true,if_false,if_true,Utf8.runeError,show (65533:Int).toNat=65533 from rfl]
def lK(p:Nat × Nat):Bool:=!(p.1==65533&&p.2==1)&&!pV p.1
def oK(s:ByteArray):Bool:=(pts s).all lK
theorem Vu(s:ByteArray)(w:World)(hs:s.size<9223372036854775800):Calls prog 90 #[.string s] w fun e w'=>e=.returned (.bool (oK s))∧Below w.heap.size w w':=by
 have HV:Hid (oK s=(pts s).all lK):=aen rfl;generalize oK s=V at *;go_enter Tryz.func90,Tryz.ntmps90;go_wp2;go_loopw [3] (fun i wr=>∃(pos f:Nat) (acc:List (Nat × Nat)),i=.int .i64 pos∧Below w.heap.size w wr∧acc++ku s f pos=pts s∧acc.all lK=true∧s.size≤pos+f∧pos≤s.size) (fun i _=>s.size - (intOf i).toNat);case atStart=>
  exact⟨0,s.size,[],rfl,aer _ w,rfl,rfl,by omega,by omega⟩
 case round=>
  obtain⟨pos,f,acc,rfl,hbw,hacc,hok,hf,hal⟩:=hrel;have aY:=aen hacc;have uN:=aen hok;clear hacc hok;by_cases hp:pos<s.size
  ·have hd:=Bq s pos hp;have HN:Hid (∀W,Calls prog 144 #[.string s,.int .i64 pos] W (wG (Utf8.decode s pos).1 (Utf8.decode s pos).2 W)):=aen fun W=>by
    have h:=next_any s pos W (by omega);rw[NC s pos hp] at h;exact h
   have hall:Hid (pts s=(acc++[Utf8.decode s pos])++ku s (f - 1) (pos+(Utf8.decode s pos).2)):=aen (by rw[←aY.out,EG s f pos hp hf];simp);have sQ:Hid (lK (Utf8.decode s pos)=(!((Utf8.decode s pos).1==65533&&(Utf8.decode s pos).2==1)&&!pV (Utf8.decode s pos).1)):=aen rfl;generalize Utf8.decode s pos=D at *;have NR:lK D=false→V=false:=fun h=>by rw[HV.out,hall.out];simp[h]
   have IG:=aen NR;clear NR;by_cases c1:((D.1:Int)==65533)=true
   ·by_cases c2:((D.2:Int)==1)=true
    ·have hv:lK D=false:=by rw[sQ.out];simp at c1 c2;simp;omega
     have Hv:=aen hv;clear hv;go_wp2_with (go_at_call 144;refine(HN.out _).mono ?_;rintro e w' ⟨rfl,kq,rfl⟩);go_ret;exact⟨aJ (IG.out Hv.out).symm,below_drewN hbw _⟩
    ·rw[Bool.not_eq_true] at c2;by_cases c3:pV D.1=true
     ·have Hv:Hid (lK D=false):=aen (by rw[sQ.out,c3];simp);go_wp2_with (first|(go_at_call 144;refine(HN.out _).mono ?_;rintro e w' ⟨rfl,kq,rfl⟩)|(go_at_call 145;refine(EJ _ _).mono ?_;rintro e w' ⟨rfl,rfl⟩));go_ret;exact⟨aJ (IG.out Hv.out).symm,below_drewN hbw _⟩
     ·rw[Bool.not_eq_true] at c3;have Hv:Hid (lK D=true):=aen (by rw[sQ.out,c3];simp at c1 c2;simp;omega);go_wp2_with (first|(go_at_call 144;refine(HN.out _).mono ?_;rintro e w' ⟨rfl,kq,rfl⟩)|(go_at_call 145;refine(EJ _ _).mono ?_;rintro e w' ⟨rfl,rfl⟩));go_roundw;case rel=>exact⟨pos+D.2,f - 1,acc++[D],by go_num,below_drewN hbw _,hall.out.symm,by rw[List.all_append,uN.out];simp[Hv.out],by omega,by omega⟩
      case measure=>simp[intOf];omega
   ·rw[Bool.not_eq_true] at c1;by_cases c3:pV D.1=true
    ·have Hv:Hid (lK D=false):=aen (by rw[sQ.out,c3];simp);go_wp2_with (first|(go_at_call 144;refine(HN.out _).mono ?_;rintro e w' ⟨rfl,kq,rfl⟩)|(go_at_call 145;refine(EJ _ _).mono ?_;rintro e w' ⟨rfl,rfl⟩));go_ret;exact⟨aJ (IG.out Hv.out).symm,below_drewN hbw _⟩
    ·rw[Bool.not_eq_true] at c3;have Hv:Hid (lK D=true):=aen (by rw[sQ.out,c3];simp at c1;simp;omega);go_wp2_with (first|(go_at_call 144;refine(HN.out _).mono ?_;rintro e w' ⟨rfl,kq,rfl⟩)|(go_at_call 145;refine(EJ _ _).mono ?_;rintro e w' ⟨rfl,rfl⟩));go_roundw;case rel=>exact⟨pos+D.2,f - 1,acc++[D],by go_num,below_drewN hbw _,hall.out.symm,by rw[List.all_append,uN.out];simp[Hv.out],by omega,by omega⟩
     case measure=>simp[intOf];omega
  ·have hv:V=true:=by rw[HV.out,←aY.out,EF s f pos hp,List.append_nil];exact uN.out
   have Hv:=aen hv;clear hv;go_wp2;go_ret;exact⟨aJ Hv.out.symm,hbw⟩
def low(c:Nat):Nat:=(jy c).toNat
def NS(b:UInt8):Bool:=decide (b.toNat<128)&&inB (b.toNat:Int) qP
def xC:List UInt8→Bool
 | []=>false
 | [_]=>false
 |c :: d :: _=>c==92&&NS d
def bK:List UInt8→List UInt8
 | []=>[]
 |c :: l=>if xC (c :: l) then (match l with | []=>[] | d :: l'=>d :: bK l') else c :: bK l
def uO(stop wo:UInt8):List UInt8→Option Nat
 | []=>none
 |c :: l=>if c=stop then some 0 else if c=wo∨c=10 then none
  else if xC (c :: l) then (match l with | []=>none | _ :: l'=>(uO stop wo l').map (· + 2))
  else (uO stop wo l).map (· + 1)
def mJ:Nat→List UInt8→Option Nat
 |o,[]=>if o=0 then some 0 else none
 |o,c :: l=>if c=32∨c=10∨(c=41∧o=0) then (if o=0 then some 0 else none)
  else if xC (c :: l) then (match l with | []=>none | _ :: l'=>(mJ o l').map (· + 2))
  else if c=40 then (if 8≤o then none else (mJ (o+1) l).map (· + 1))
  else if c=41 then (mJ (o - 1) l).map (· + 1)
  else (mJ o l).map (· + 1)
def dJ(s:ByteArray)(k:Nat):Bool:=xC (sfx s k)
theorem II(s:ByteArray)(k:Nat)(h:s.size≤k+1):dJ s k=false:=by
 unfold dJ;by_cases hk:k<s.size
 ·rw[bV s k hk,kU s (k+1) h];rfl
 ·rw[kU s k (by omega)];rfl
theorem IJ(s:ByteArray)(k:Nat)(h:k+1<s.size):dJ s k=(decide (bt s k=92)&&(decide (bt s (k+1)<128)&&inB (bt s (k+1):Int) qP)):=by
 unfold dJ;rw[bV s k (by omega),bV s (k+1) h];show (s.get! k==92&&NS (s.get! (k+1)))=_;have e:(s.get! k==(92:UInt8))=decide (bt s k=92):=by
  rw[Bool.eq_iff_iff];simp only[beq_iff_eq,decide_eq_true_eq];exact IA (s.get! k) 92 (by decide)
 rw[e];rfl
theorem oL{s:ByteArray}{k:Nat}(h:dJ s k=true):k+1<s.size∧bt s k=92:=by
 by_cases hk:k+1<s.size
 ·rw[IJ s k hk] at h;simp only[Bool.and_eq_true,decide_eq_true_eq] at h;exact⟨hk,h.1⟩
 ·rw[II s k (by omega)] at h;simp at h
def bY(s:ByteArray)(stop wo:Nat)(k:Nat):Option Nat:=(uO (UInt8.ofNat stop) (UInt8.ofNat wo) (sfx s k)).map (· + k)
theorem IK(s:ByteArray)(a b k:Nat)(h:s.size≤k):bY s a b k=none:=by unfold bY;rw[kU s k h];rfl
theorem BA(a b c:UInt8)(l:List UInt8):uO a b (c :: l)=if c=a then some 0 else if c=b∨c=10 then none
 else if xC (c :: l) then (match l with | []=>none | _ :: l'=>(uO a b l').map (· + 2))
 else (uO a b l).map (· + 1):=by cases l <;> rfl
theorem kz(s:ByteArray)(k:Nat):s.get! k=40↔bt s k=40:=eY s k 40 (by decide)
theorem IL(s:ByteArray)(k:Nat):s.get! k=41↔bt s k=41:=eY s k 41 (by decide)
theorem IM(s:ByteArray)(a b k:Nat)(h:k<s.size)(ha:a<256)(hc:bt s k=a):bY s a b k=some k:=by
 unfold bY;rw[bV s k h,BA,if_pos ((eY s k a ha).2 hc)];simp
theorem IP(s:ByteArray)(a b k:Nat)(h:k<s.size)(ha:a<256)(hb:b<256)(hc:bt s k≠a)(hd:bt s k=b∨bt s k=10):bY s a b k=none:=by
 unfold bY;rw[bV s k h,BA,if_neg (fun e=>hc ((eY s k a ha).1 e)),if_pos (hd.imp (eY s k b hb).2 (g10 s k).2)];rfl
theorem IQ(s:ByteArray)(a b k:Nat)(ha:a<256)(hb:b<256)(ha':a≠92)(hb':b≠92)(he:dJ s k=true):bY s a b k=bY s a b (k+2):=by
 obtain⟨h1,h2⟩:=oL he;unfold dJ at he;unfold bY;rw[bV s k (by omega),bV s (k+1) h1] at he ⊢;rw[BA,if_neg (fun e=>by have:=(eY s k a ha).1 e;omega),if_neg,if_pos he]
 ·simp only[Option.map_map];congr 1;funext x;simp;omega
 ·rintro (e|e)
  ·have:=(eY s k b hb).1 e;omega
  ·have:=(g10 s k).1 e;omega
theorem IU(s:ByteArray)(a b k:Nat)(h:k<s.size)(ha:a<256)(hb:b<256)(hc:bt s k≠a)(hd:bt s k≠b)(hl:bt s k≠10)(he:dJ s k=false):bY s a b k=bY s a b (k+1):=by
 unfold dJ at he;unfold bY;rw[bV s k h] at he ⊢;rw[BA,if_neg (fun e=>hc ((eY s k a ha).1 e)),if_neg,if_neg (by rw[he];simp)]
 ·simp only[Option.map_map];congr 1;funext x;simp;omega
 ·rintro (e|e)
  ·exact hd ((eY s k b hb).1 e)
  ·exact hl ((g10 s k).1 e)
def bM(s:ByteArray)(o k:Nat):Option Nat:=(mJ o (sfx s k)).map (· + k)
theorem zL(o:Nat)(c:UInt8)(l:List UInt8):mJ o (c :: l)=if c=32∨c=10∨(c=41∧o=0) then (if o=0 then some 0 else none)
 else if xC (c :: l) then (match l with | []=>none | _ :: l'=>(mJ o l').map (· + 2))
 else if c=40 then (if 8≤o then none else (mJ (o+1) l).map (· + 1))
 else if c=41 then (mJ (o - 1) l).map (· + 1)
 else (mJ o l).map (· + 1):=by cases l <;> rfl
theorem NT(s:ByteArray)(o k:Nat)(h:s.size≤k):bM s o k=if o=0 then some k else none:=by
 unfold bM;rw[kU s k h];unfold mJ;split <;> simp
def nS(s:ByteArray)(o k:Nat):Prop:=bt s k=32∨bt s k=10∨(bt s k=41∧o=0)
theorem BB(s:ByteArray)(o k:Nat):(s.get! k=32∨s.get! k=10∨(s.get! k=41∧o=0))↔nS s o k:=by
 have h1:s.get! k=32↔bt s k=32:=eY s k 32 (by decide);have h2:=g10 s k;have h3:=IL s k;unfold nS;rw[h1,h2,h3]
theorem NU(s:ByteArray)(o k:Nat)(h:k<s.size)(hc:nS s o k):bM s o k=if o=0 then some k else none:=by
 unfold bM;rw[bV s k h,zL,if_pos ((BB s o k).2 hc)];split <;> simp
theorem NV(s:ByteArray)(o k:Nat)(he:dJ s k=true):bM s o k=bM s o (k+2):=by
 obtain⟨h1,h2⟩:=oL he;unfold dJ at he;unfold bM;have hn:¬nS s o k:=by unfold nS;omega
 rw[←BB] at hn;rw[bV s k (by omega),bV s (k+1) h1] at he ⊢;rw[zL,if_neg hn,if_pos he];simp only[Option.map_map];congr 1;funext x;simp;omega
theorem NW(s:ByteArray)(o k:Nat)(h:k<s.size)(hc:bt s k=40):bM s o k=if 8≤o then none else bM s (o+1) (k+1):=by
 have he:dJ s k=false:=by
  rw[Bool.eq_false_iff];intro e;have:=(oL e).2;omega
 have hn:¬nS s o k:=by unfold nS;omega
 rw[←BB] at hn;unfold dJ at he;unfold bM;rw[bV s k h] at he ⊢;rw[zL,if_neg hn,if_neg (by rw[he];simp),if_pos ((kz s k).2 hc)];split
 ·rfl
 ·simp only[Option.map_map];congr 1;funext x;simp;omega
theorem NY(s:ByteArray)(o k:Nat)(h:k<s.size)(hc:bt s k=41)(ho:0<o):bM s o k=bM s (o - 1) (k+1):=by
 have he:dJ s k=false:=by
  rw[Bool.eq_false_iff];intro e;have:=(oL e).2;omega
 have hn:¬nS s o k:=by unfold nS;omega
 rw[←BB] at hn;unfold dJ at he;unfold bM;rw[bV s k h] at he ⊢;rw[zL,if_neg hn,if_neg (by rw[he];simp),if_neg (fun e=>by have:=(kz s k).1 e;omega),if_pos ((IL s k).2 hc)];simp only[Option.map_map];congr 1;funext x;simp;omega
theorem NZ(s:ByteArray)(o k:Nat)(h:k<s.size)(hs:¬nS s o k)(he:dJ s k=false)(h0:bt s k≠40)(h1:bt s k≠41):bM s o k=bM s o (k+1):=by
 rw[←BB] at hs;unfold dJ at he;unfold bM;rw[bV s k h] at he ⊢;rw[zL,if_neg hs,if_neg (by rw[he];simp),if_neg (fun e=>h0 ((kz s k).1 e)),if_neg (fun e=>h1 ((IL s k).1 e))];simp only[Option.map_map];congr 1;funext x;simp;omega
def dY(s:ByteArray)(i stop wo:Nat):Option (List UInt8 × Nat):=(bY s stop wo (i+1)).map fun k=>(bK (sub s (i+1) k),k+1)
def bI(s:ByteArray)(i:Int):Option (List UInt8 × Nat):=
 if 0≤i∧i<s.size then
  if bt s i.toNat=60 then dY s i.toNat 62 60
  else (bM s 0 i.toNat).bind fun k=>if k=i.toNat then none else some (bK (sub s i.toNat k),k)
 else none
def dD(s:ByteArray)(i:Int):Option (List UInt8 × Nat):=
 if 0≤i∧i<s.size then
  if bt s i.toNat=34 then dY s i.toNat 34 34 else if bt s i.toNat=39 then dY s i.toNat 39 39 else none
 else none
theorem EK:∀(n:Nat) (l:List UInt8),l.length≤n→(bK l).length≤l.length
 |0,l,h=>by cases l with
  |nil=>simp[bK]
  |cons c l=>simp at h
 |n+1,[],_=>by simp[bK]
 |n+1,c :: l,h=>by
  unfold bK;split
  ·cases l with
   |nil=>simp
   |cons d l'=>
    have:=EK n l' (by simp at h;omega);simp;omega
  ·have:=EK n l (by simp at h;omega);simp;omega
theorem IV(a b:UInt8):∀(n:Nat) (l:List UInt8),l.length≤n→∀k,uO a b l=some k→k<l.length
 |0,l,h,k,hk=>by cases l with
  |nil=>simp[uO] at hk
  |cons c l=>simp at h
 |n+1,[],_,k,hk=>by simp[uO] at hk
 |n+1,c :: l,h,k,hk=>by
  rw[BA] at hk;split at hk
  ·simp at hk;subst hk;simp
  ·split at hk
   ·simp at hk
   ·split at hk
    ·cases l with
     |nil=>simp at hk
     |cons d l'=>
      simp only[Option.map_eq_some_iff] at hk;obtain⟨j,hj,rfl⟩:=hk;have:=IV a b n l' (by simp at h;omega) j hj;simp;omega
    ·simp only[Option.map_eq_some_iff] at hk;obtain⟨j,hj,rfl⟩:=hk;have:=IV a b n l (by simp at h;omega) j hj;simp;omega
theorem Vw{s:ByteArray}{a b i k:Nat}(h:bY s a b i=some k):i≤k∧k<s.size:=by
 unfold bY at h;simp only[Option.map_eq_some_iff] at h;obtain⟨j,hj,rfl⟩:=h;have:=IV _ _ _ _ (aeo _) j hj;rw[sfx_len] at this;omega
theorem BC:∀(n:Nat) (o:Nat) (l:List UInt8),l.length≤n→∀k,mJ o l=some k→k≤l.length
 |0,o,l,h,k,hk=>by cases l with
  |nil=>unfold mJ at hk;split at hk <;> simp_all
  |cons c l=>simp at h
 |n+1,o,[],_,k,hk=>by unfold mJ at hk;split at hk <;> simp_all
 |n+1,o,c :: l,h,k,hk=>by
  have hl:l.length≤n:=by simp at h;omega
  rw[zL] at hk;split at hk
  ·split at hk
   ·simp only[Option.some.injEq] at hk;omega
   ·simp at hk
  ·split at hk
   ·cases l with
    |nil=>simp at hk
    |cons d l'=>
     simp only[Option.map_eq_some_iff] at hk;obtain⟨j,hj,rfl⟩:=hk;have:=BC n o l' (by simp at h;omega) j hj;simp;omega
   ·split at hk
    ·split at hk
     ·simp at hk
     ·simp only[Option.map_eq_some_iff] at hk;obtain⟨j,hj,rfl⟩:=hk;have:=BC n _ l hl j hj;simp;omega
    ·split at hk
     ·simp only[Option.map_eq_some_iff] at hk;obtain⟨j,hj,rfl⟩:=hk;have:=BC n _ l hl j hj;simp;omega
     ·simp only[Option.map_eq_some_iff] at hk;obtain⟨j,hj,rfl⟩:=hk;have:=BC n _ l hl j hj;simp;omega
theorem Vx{s:ByteArray}{o i k:Nat}(hi:i≤s.size)(h:bM s o i=some k):i≤k∧k≤s.size:=by
 unfold bM at h;simp only[Option.map_eq_some_iff] at h;obtain⟨j,hj,rfl⟩:=h;have:=BC _ o _ (aeo _) j hj;rw[sfx_len] at this;omega
theorem IW{s:ByteArray}{i a b:Nat}{r:List UInt8 × Nat}(h:dY s i a b=some r):i+1<r.2∧r.2≤s.size∧r.1.length≤s.size:=by
 unfold dY at h;simp only[Option.map_eq_some_iff] at h;obtain⟨k,hk,rfl⟩:=h;have:=Vw hk;have h2:=EK _ (sub s (i+1) k) (aeo _);have h3:=IB s (i+1) k;exact⟨by show i+1<k+1;omega,by show k+1≤_;omega,by show (bK _).length≤_;omega⟩
theorem IX{s:ByteArray}{i:Int}{r:List UInt8 × Nat}(h:bI s i=some r):i<r.2∧r.2≤s.size∧r.1.length≤s.size:=by
 unfold bI at h;split at h
 ·split at h
  ·have:=IW h;omega
  ·rename_i hi _;rw[Option.bind_eq_some_iff] at h;obtain⟨k,hk,h⟩:=h;have:=Vx (by omega) hk;split at h
   ·simp at h
   ·simp only[Option.some.injEq] at h;subst h;have h2:=EK _ (sub s i.toNat k) (aeo _);have h3:=IB s i.toNat k;exact⟨by show i<(k:Nat);omega,by show k≤_;omega,by show (bK _).length≤_;omega⟩
 ·simp at h
theorem IY{s:ByteArray}{i:Int}{r:List UInt8 × Nat}(h:dD s i=some r):i+1<r.2∧r.2≤s.size∧r.1.length≤s.size:=by
 unfold dD at h;split at h
 ·split at h
  ·have:=IW h;omega
  ·split at h
   ·have:=IW h;omega
   ·simp at h
 ·simp at h
def iH(c:Int):Bool:=inB c kW||lJ c||c==32||c==45||c==95||c==46||c==58
def dK(l:List UInt8):List UInt8:=
 if 60<(kV (mk l)).length then [] else if (pts (mk (kV (mk l)))).all fun p=>iH p.1 then kV (mk l) else []
def brk(l:List UInt8):Nat:=l.findIdx (· == 93)
def iI(s:ByteArray)(i:Nat):Option (List UInt8 × Nat):=
 if i<s.size∧bt s i=91 then
  if brk (sfx s (i+1))<(sfx s (i+1)).length∧dK ((sfx s (i+1)).take (brk (sfx s (i+1))))≠[] then
   some (dK ((sfx s (i+1)).take (brk (sfx s (i+1)))),i+brk (sfx s (i+1))+2) else none
 else none
end Go.Proofs.YtpoafhgbhnblmaaGreatDoor
