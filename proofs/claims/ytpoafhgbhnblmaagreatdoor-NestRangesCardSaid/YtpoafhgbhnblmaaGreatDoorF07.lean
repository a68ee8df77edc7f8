import Derived.Test.YtpoafhgbhnblmaaGreatDoorF06
set_option linter.unusedVariables false
set_option linter.unusedSimpArgs false
set_option maxRecDepth 100000
set_option maxHeartbeats 20000000
namespace Go.Proofs.YtpoafhgbhnblmaaGreatDoor
open Go.Proofs.Tryz (prog)
open Go.RowKit
def Jg(e:TypeId)(size n:Nat)(xs:List Value)(w:World)(en:Ending)(w':World):Prop:=∃v,en=.returned v∧w'.ownsRow w.heap.size e size v n xs∧Below w.heap.size w w'
theorem WC:(prog.info? 59).map (fun i=>(i.zero,i.size,i.bytes))=some (some (.agg #[.int .i64 0,.int .i64 0]),2,16):=by kernel_rfl
theorem Jh(s:ByteArray)(w:World)(hs:s.size≤1000000):Calls prog 28 #[.string s] w (Jg 59 2 (pts s).length (sO (pts s)) w):=by
 obtain⟨i0,hi0,hz0,hz1,hz2⟩:=info_parts WC;go_enter Tryz.func28,Tryz.ntmps28;go_wp2;go_loopw [3,4] (fun v i wr=>∃(pos f:Nat) (acc:List (Nat × Nat)),i=.int .i64 pos∧wr.ownsRow w.heap.size 59 2 v acc.length (sO acc)∧Below w.heap.size w wr∧acc++ku s f pos=pts s∧s.size≤pos+f∧pos≤s.size∧acc.length≤pos) (fun _ i _=>s.size - (intOf i).toNat);case atStart=>exact⟨0,s.size,[],rfl,World.ownsRow_nil _ _ _ _,aer _ w,rfl,by omega,by omega,by simp⟩
 case round=>
  obtain⟨pos,f,acc,rfl,hown,hbw,hacc,hf,hal,WE⟩:=hrel;have aY:=aen hacc;clear hacc;by_cases hp:pos<s.size
  ·have hd:=Bq s pos hp;have HN:Hid (∀W,Calls prog 37 #[.string s,.int .i64 pos] W (xI (Utf8.decode s pos).1 (Utf8.decode s pos).2 W)):=aen fun W=>WB s pos W (by omega) hp;have hall:Hid ((acc++[Utf8.decode s pos])++ku s (f - 1) (pos+(Utf8.decode s pos).2)=pts s):=aen (by rw[←aY.out,EG s f pos hp hf];simp);generalize Utf8.decode s pos=D at *;go_wp2_with fail;refine(HN.out _).mono ?_;rintro e w1 ⟨rfl,hb1⟩;have WG:Below w.heap.size w w1:=hbw.trans (hb1.mono hbw.size);have hz:=hb1.size;have hzw:=hbw.size;have hown1:=own_below hown hb1;go_wp2_with (at_builtin;refine wpList_append_own _ rfl _ _ 56 rfl w.heap.size 59 i0 _ 2 16 Tryz.underlying56 hi0 hz0 hz1 hz2 rfl (by decide) _ _ _ rfl ((hown1.alloc _).alloc _) ⟨w1.heap.size+1,0,none⟩ 1 1 [.int .i64 D.1,.int .i64 D.2] rfl rfl ?c1 ?c2 ?c3 ?c4 ?c5 ?_);case c1=>
    intro j u hj;match j,hj with
    |0,hj=>simp at hj;subst hj;simp[Addr.add]
    |1,hj=>simp at hj;subst hj;simp[Addr.add]
   case c2=>intro u hu;simp at hu;rcases hu with rfl|rfl <;> rfl
   case c3=>unfold maxLen;omega
   case c4=>omega
   case c5=>simp;omega
   intro v' w2 hown2 hgrow _;have hnx:Below w.heap.size w w2:=((WG.alloc (by omega) _).alloc (by simp;omega) _).grown hgrow (by simp;omega) (fun k hk=>(hown1.lt k hk).1);have hc:w2.cell? ⟨w1.heap.size,1,none⟩=some (.int .i64 D.2):=by
    refine hgrow.cell ?_ ?_
    ·simp
    ·intro e;have:=(hown1.lt _ e.symm).2;simp at this
   go_wp2;go_roundw;case rel=>
    refine⟨pos+D.2,f - 1,acc++[D],by go_num,?_,hnx,hall.out,by omega,by omega,by simp;omega⟩;rw[Vd,aey];exact hown2
   case measure=>simp[intOf];omega
  ·go_wp2;go_ret;rw[EF s f pos hp,List.append_nil] at aY;exact⟨_,rfl,by rw[←aY.out];exact hown,hbw⟩
theorem EX{w:World}{o:Obj}:Below w.heap.size w (w.alloc o):=(aer _ _).alloc (aeo _) _
theorem OU(c:Int)(w:World)(h:0≤c∧c≤1114111∧(c<55296∨57343<c)):Calls prog 271 #[.int .i64 c] w (Jg 5 1 (bn c).length (Lib.byteCells (bn c)) w):=by
 obtain⟨h0,h1,h2⟩:=h;by_cases c1:c<128
 ·have H:=aen (NJ c h0 c1);have HL:=aen (Lib.byteCells_length (bn c));generalize bn c=L at *;go_enter Tryz.func271,Tryz.ntmps271;go_wp2;go_ret;exact⟨_,rfl,by rw[←HL.out,H.out];exact World.ownsRow_lit w _ 1 (aeo _) (by unfold maxLen;omega) rfl,EX⟩
 by_cases c2:c<2048
 ·have H:=aen (NK c (by omega) c2);have HL:=aen (Lib.byteCells_length (bn c));generalize bn c=L at *;go_enter Tryz.func271,Tryz.ntmps271;go_wp2;go_ret;exact⟨_,rfl,by rw[←HL.out,H.out];exact World.ownsRow_lit w _ 2 (aeo _) (by unfold maxLen;omega) rfl,EX⟩
 by_cases c3:c<65536
 ·have H:=aen (Iy c (by omega) c3 h2);have HL:=aen (Lib.byteCells_length (bn c));generalize bn c=L at *;by_cases c4:c<55296;all_goals
   go_enter Tryz.func271,Tryz.ntmps271;go_wp2;go_ret;exact⟨_,rfl,by rw[←HL.out,H.out];exact World.ownsRow_lit w _ 3 (aeo _) (by unfold maxLen;omega) rfl,EX⟩
 ·have H:=aen (NL c (by omega) h1);have HL:=aen (Lib.byteCells_length (bn c));generalize bn c=L at *;go_enter Tryz.func271,Tryz.ntmps271;go_wp2;go_ret;exact⟨_,rfl,by rw[←HL.out,H.out];exact World.ownsRow_lit w _ 4 (aeo _) (by unfold maxLen;omega) rfl,EX⟩
theorem WH(c:Int)(w:World):Calls prog 271 #[.int .i64 c] w (Jg 5 1 (bn c).length (Lib.byteCells (bn c)) w):=by
 by_cases h:0≤c∧c≤1114111∧(c<55296∨57343<c)
 ·exact OU c w h
 ·have e:bn c=bn 65533:=by unfold bn;rw[Vt c (by omega)]
  rw[e];have HB:=aen (OU 65533);clear e;by_cases h0:c<0;all_goals
   try (by_cases h1:1114111<c)
   all_goals
    go_enter Tryz.func271,Tryz.ntmps271;go_wp2_with fail;refine(HB.out _ (by omega)).mono ?_;rintro e w1 ⟨v,rfl,hown,hb⟩;go_wp2;go_ret;exact⟨_,rfl,hown,hb⟩
def intCells(l:List Int):List Value:=l.map (Value.int .i64)
theorem WI(l:List Int)(k:Nat)(h:k<l.length):(intCells l)[k]?=some (.int .i64 l[k]):=by simp[intCells,h]
theorem add_plain(g k:Nat):(⟨g,0,none⟩:Addr).add k=⟨g,k,none⟩:=by unfold Addr.add;split <;> simp_all
theorem EY(c:Int)(w:World):Calls prog 29 #[.int .i64 c] w fun e w'=>e=.returned (.bool (!pV c))∧w=w':=by
 have H:Hid ((!pV c)=!((decide (c<32)&&c != 10)||c==127)):=aen rfl;generalize (!pV c)=b at *;by_cases h2:c=10
 ·subst h2;go_enter Tryz.func29,Tryz.ntmps29;go_wp2;go_ret;exact⟨aJ (by rw[H.out];rfl),rfl⟩
 ·have h3:(c==10)=false:=by simpa using h2
  clear h2;by_cases h:32≤c
  ·go_enter Tryz.func29,Tryz.ntmps29;go_wp2;go_ret;exact⟨aJ (by rw[H.out];simp[show ¬c<32 by omega];rfl),rfl⟩
  ·go_enter Tryz.func29,Tryz.ntmps29;go_wp2;go_ret;exact⟨aJ (by rw[H.out];simp at h3;simp;omega),rfl⟩
theorem OV(s:ByteArray)(w:World)(hs:s.size≤1000000):Calls prog 21 #[.string s] w fun e w'=>e=.returned (.bool (oK s))∧Below w.heap.size w w':=by
 have HV:Hid (oK s=(pts s).all lK):=aen rfl;have HP:=aen (Jh s);have hlen:=Iq s;generalize oK s=V at *;generalize pts s=l at *;go_enter Tryz.func21,Tryz.ntmps21;go_wp2_with fail;refine(HP.out _ hs).mono ?_;rintro e w1 ⟨v,rfl,hown,hb1⟩;obtain⟨A,cp,rfl⟩:=ay hown;have hrd:=Reads.of_own hown;go_wp2;go_loopw [8] (fun i wr=>∃k:Nat,i=.int .i64 k∧k≤l.length∧Below w1.heap.size w1 wr∧(l.take k).all lK=true) (fun i _=>l.length - (intOf i).toNat);case atStart=>exact⟨0,rfl,by omega,aer _ w1,rfl⟩
 case round=>
  obtain⟨k,rfl,hk,hb,hok⟩:=hrel;have uN:=aen hok;clear hok;by_cases hlt:k<l.length
  ·obtain⟨ad,rfl,sU,hcell⟩:=hrd.2 (by omega);obtain⟨g,hg⟩:∃g,ad=⟨g,0,none⟩:=by
    obtain⟨g,cap,hv,_⟩:=hown.form (by omega);injection hv with h1 h2 h3
    injection h1 with h1
    exact⟨g,h1⟩
   subst hg;have hp:=Ir l k l[k] (List.getElem?_eq_getElem hlt);have hc0:wr.cell? ⟨g,k * 2,none⟩=some (.int .i64 l[k].1):=(hb.cell (p:=⟨g,k * 2,none⟩) sU).trans (by rw[←add_plain];exact hcell _ _ hp.1);have hc1:wr.cell? ⟨g,k * 2+1,none⟩=some (.int .i64 l[k].2):=(hb.cell (p:=⟨g,k * 2+1,none⟩) sU).trans (by rw[←add_plain];exact hcell _ _ hp.2);have hz:=hb.size;have OX:Hid (lK l[k]=false→V=false):=aen fun h=>by
    rw[HV.out,←List.take_append_drop k l,List.drop_eq_getElem_cons hlt,List.all_append,List.all_cons,h];simp
   have OY:Hid (lK l[k]=true→(l.take (k+1)).all lK=true):=aen fun h=>by
    rw[List.take_succ_eq_append_getElem hlt,List.all_append,uN.out];simp[h]
   have sQ:Hid (lK l[k]=(!(l[k].1==65533&&l[k].2==1)&&!pV l[k].1)):=aen rfl;clear hp hcell;generalize l[k]=D at *;by_cases c3:pV D.1=true
   ·have Hv:Hid (V=false):=aen (OX.out (by rw[sQ.out,c3];simp));go_wp2_with (go_at_call 29;refine(EY _ _).mono ?_;rw[c3];rintro e w' ⟨rfl,rfl⟩);go_ret;exact⟨aJ Hv.out.symm,(hb1.trans (hb.mono hb1.size)).alloc (aev hb1.size hz) _⟩
   ·rw[Bool.not_eq_true] at c3;by_cases c1:((D.1:Int)==65533)=true
    ·by_cases c2:((D.2:Int)==1)=true
     ·have Hv:Hid (V=false):=aen (OX.out (by rw[sQ.out,c3];simp at c1 c2;simp;omega));go_wp2_with (go_at_call 29;refine(EY _ _).mono ?_;rw[c3];rintro e w' ⟨rfl,rfl⟩);go_ret;exact⟨aJ Hv.out.symm,(hb1.trans (hb.mono hb1.size)).alloc (aev hb1.size hz) _⟩
     ·rw[Bool.not_eq_true] at c2;have Hv:=aen (OY.out (by rw[sQ.out,c3];simp at c1 c2;simp;omega));go_wp2_with (go_at_call 29;refine(EY _ _).mono ?_;rw[c3];rintro e w' ⟨rfl,rfl⟩);go_roundw;case rel=>exact⟨k+1,by go_num,by omega,hb.alloc hz _,Hv.out⟩
      case measure=>simp[intOf];omega
    ·rw[Bool.not_eq_true] at c1;have Hv:=aen (OY.out (by rw[sQ.out,c3];simp at c1;simp;omega));go_wp2_with (go_at_call 29;refine(EY _ _).mono ?_;rw[c3];rintro e w' ⟨rfl,rfl⟩);go_roundw;case rel=>exact⟨k+1,by go_num,by omega,hb.alloc hz _,Hv.out⟩
     case measure=>simp[intOf];omega
  ·obtain rfl:k=l.length:=by omega
   have Hv:Hid (V=true):=aen (by rw[HV.out];have:=uN.out;rwa [List.take_length] at this);go_wp2;go_ret;exact⟨aJ Hv.out.symm,hb1.trans (hb.mono hb1.size)⟩
theorem WJ(cs:List Int)(A:Option Addr)(cp:Nat)(w:World)(hl:cs.length≤10000000)(hrd:∃B,B≤w.heap.size∧Reads w B 1 A cs.length (intCells cs))(hA:A=none∨∃g,A=some ⟨g,0,none⟩) :
 Calls prog 265 #[.slice A cs.length cp] w fun e w'=>e=.returned (.string ⟨(cs.flatMap bn).toArray⟩)∧Below w.heap.size w w':=by
 obtain⟨B,hB,hrd⟩:=hrd;have HT:Hid (∀k,cs.flatMap bn=(cs.take k).flatMap bn++(cs.drop k).flatMap bn):=aen fun k=>by rw[←List.flatMap_append,List.take_append_drop]
 generalize hR:cs.flatMap bn=R at *;clear hR;obtain⟨i0,hi0,hz0,hz1,hz2⟩:=info_parts EL;go_enter Tryz.func265,Tryz.ntmps265;go_wp2;go_loopw [3,8] (fun v i wr=>∃(k:Nat) (acc:List UInt8),i=.int .i64 k∧k≤cs.length∧wr.ownsRow w.heap.size 5 1 v acc.length (Lib.byteCells acc)∧Below w.heap.size w wr∧acc=(cs.take k).flatMap bn∧acc.length≤4 * k) (fun _ i _=>cs.length - (intOf i).toNat);case atStart=>exact⟨0,[],rfl,by omega,World.ownsRow_nil _ _ _ _,aer _ w,rfl,by simp⟩
 case round=>
  obtain⟨k,acc,rfl,hk,hown,hb,hacc,hal⟩:=hrel;have aY:=aen hacc;clear hacc;by_cases hlt:k<cs.length
  ·obtain⟨ad,rfl,sU,hcell⟩:=hrd.2 (by omega);rcases hA with hA|⟨g,hg⟩
   ·cases hA
   injection hg with hg
   subst hg;have hc0:wr.cell? ⟨g,k,none⟩=some (.int .i64 cs[k]):=(hb.cell (p:=⟨g,k,none⟩) (by show g<_;have:g<B:=sU;omega)).trans (by rw[←add_plain];exact hcell _ _ (WI cs k hlt));have hnext:Hid (acc++bn cs[k]=(cs.take (k+1)).flatMap bn):=aen (by rw[List.take_succ_eq_append_getElem hlt,List.flatMap_append,←aY.out];simp);have hel:=Iz cs[k];clear hcell;have HB:=aen (WH cs[k]);have hone:Hid (∀u∈Lib.byteCells (bn cs[k]),u.oneCell'=true):=aen (fun u hu=>by simp only[Lib.byteCells,List.mem_map] at hu;obtain⟨b,_,rfl⟩:=hu;rfl);generalize bn cs[k]=E at *;generalize cs[k]=c at *;have hz:=hb.size;go_wp2_with fail;refine(HB.out _).mono ?_;rintro e w1 ⟨v2,rfl,hown2,hb2⟩;obtain⟨A2,cp2,rfl⟩:=ay hown2;obtain⟨WL,rfl,adL,hcell2⟩:=(Reads.of_own hown2).2 (by omega);have hown1:=own_below hown hb2;have jA:=hb2.size;go_wp2_with (at_builtin;refine wpList_append_own _ rfl _ _ 156 rfl w.heap.size 5 i0 _ 1 1 Tryz.underlying156 hi0 hz0 hz1 hz2 rfl (by decide) _ _ _ rfl hown1 WL E.length cp2 (Lib.byteCells E) rfl (by rw[Lib.byteCells_length,Nat.mul_one]) hcell2 hone.out ?c3 ?c4 ?c5 ?_);case c3=>unfold maxLen;omega
   case c4=>omega
   case c5=>omega
   intro v' w2 hown3 hgrow _;have hnx:Below w.heap.size w w2:=(hb.trans (hb2.mono hz)).grown hgrow (by omega) (fun k hk=>(hown1.lt k hk).1);go_wp2;go_roundw;case rel=>
    refine⟨k+1,acc++E,by go_num,by omega,?_,hnx,hnext.out,by simp;omega⟩;rw[Lib.byteCells_append,aey];exact hown3
   case measure=>simp[intOf];omega
  ·obtain rfl:k=cs.length:=by omega
   have hR:Hid (acc=R):=aen (by rw[HT.out cs.length,List.drop_length,aY.out];simp);obtain⟨A2,cp2,rfl⟩:=ay hown;have hcv:=OT wr 156 5 Tryz.underlying156 Tryz.underlying5 cp2 (Reads.of_own hown) 9 Tryz.underlying9;go_wp2;go_ret;exact⟨dX (by rw[hR.out]),hb⟩
theorem OZ(l:List UInt8)(c:UInt8):-1≤Lib.indexByte l c∧(decide (Lib.indexByte l c<0)=!l.contains c):=by
 induction l with
 |nil=>exact⟨Int.le_refl _,rfl⟩
 |cons b l ih=>
  unfold Lib.indexByte;by_cases h:b=c
  ·subst h;simp
  ·have h1:(b==c)=false:=by simpa using h
   have h2:(c==b)=false:=by simpa using fun e=>h e.symm
   rw[h1];simp only[Bool.false_eq_true,if_false,List.contains_cons,h2,Bool.false_or];by_cases h3:Lib.indexByte l c=-1
   ·rw[show (Lib.indexByte l c==-1)=true by simpa using h3,if_pos rfl];refine⟨by decide,?_⟩;rw[←ih.2,h3]
   ·rw[show (Lib.indexByte l c==-1)=false by simpa using h3,if_neg (by decide)];have:=ih.1;refine⟨by omega,?_⟩;rw[←ih.2];rw[aep (by omega),aep (by omega)]
def xK(s:ByteArray):Bool:=!(bytesL s).contains 10
theorem WM(s:ByteArray):xK s=true↔∀k,k<s.size→bt s k≠10:=by
 unfold xK;rw[Bool.not_eq_true',←Bool.not_eq_true,List.contains_iff_mem];have key:∀k,k<s.size→((bytesL s)[k]?=some (s.get! k)):=fun k hk=>by
  unfold bytesL;rw[Array.getElem?_toList];have:s.get! k=s.data[k]! := rfl;rw[this,getElem!_pos s.data k hk,Array.getElem?_eq_getElem hk]
 constructor
 ·intro h k hk e;apply h;have h10:s.get! k=10:=UInt8.toNat_inj.1 e;have:=key k hk;rw[h10] at this;exact List.mem_of_getElem? this
 ·intro h hm;obtain⟨k,hk,he⟩:=List.mem_iff_getElem.1 hm;have hk':k<s.size:=by have e:(bytesL s).length=s.size:=Array.length_toList;omega
  have:=key k hk';rw[List.getElem?_eq_getElem hk,he] at this;injection this with this
  exact h k hk' (by unfold bt;rw[←this];rfl)
def sV(s:ByteArray):Bool:=oK s&&xK s
theorem WN(s:ByteArray)(w:World)(hs:s.size<9223372036854775800):Calls prog 98 #[.string s] w fun e w'=>e=.returned (.bool (sV s))∧Below w.heap.size w w':=by
 have HL:Hid (sV s=(oK s&&xK s)):=aen rfl;have HV:=aen (Vu s);have HX:Hid (∀W,Calls prog 91 #[.string s,.int .u8 10] W fun e w'=>e=.returned (.int .i64 (Lib.indexByte (bytesL s) 10))∧w'=W):=aen fun W=>Tryz.strings_IndexByte s 10 W;have HD:Hid (decide (Lib.indexByte (bytesL s) 10<0)=xK s):=aen (OZ _ _).2;generalize sV s=R at *;generalize oK s=V at *;generalize Lib.indexByte (bytesL s) 10=x at *;cases V
 ·go_enter Tryz.func98,Tryz.ntmps98;go_wp2_with fail;refine(HV.out _ hs).mono ?_;rintro e w1 ⟨rfl,b1⟩;go_wp2_with fail;go_ret;exact⟨aJ (by rw[HL.out];rfl),b1⟩
 ·go_enter Tryz.func98,Tryz.ntmps98;go_wp2_with fail;refine(HV.out _ hs).mono ?_;rintro e w1 ⟨rfl,b1⟩;go_wp2_with fail;refine(HX.out _).mono ?_;rintro e w2 ⟨rfl,rfl⟩;go_wp2;go_ret;exact⟨aJ (by rw[HL.out,←HD.out];rfl),b1⟩
theorem WO(s:ByteArray)(w:World)(hs:s.size≤1000000):Calls prog 270 #[.string s] w fun e w'=>e=.returned (.bool (sV s))∧Below w.heap.size w w':=by
 have HL:Hid (sV s=(oK s&&xK s)):=aen rfl;have HV:=aen (OV s);have HN:=aen (WM s);generalize sV s=R at *;generalize oK s=V at *;generalize xK s=N at *;cases V
 ·go_enter Tryz.func270,Tryz.ntmps270;go_wp2_with fail;refine(HV.out _ hs).mono ?_;rintro e w1 ⟨rfl,b1⟩;go_wp2_with fail;go_ret;exact⟨aJ (by rw[HL.out];rfl),b1⟩
 ·have HL2:Hid (R=N):=aen (by rw[HL.out];simp);go_enter Tryz.func270,Tryz.ntmps270;go_wp2_with fail;refine(HV.out _ hs).mono ?_;rintro e w1 ⟨rfl,b1⟩;go_wp2_with fail;go_loop [3] (fun v=>∃k:Nat,v=.int .i64 k∧k≤s.size∧(∀j,j<k→bt s j≠10)) (fun v=>s.size - (intOf v).toNat);case atStart=>exact⟨0,rfl,by omega,fun j hj=>absurd hj (by omega)⟩
  case round=>
   obtain⟨k,rfl,hk,hno⟩:=hrel;have Hno:=aen hno;clear hno;by_cases hlt:k<s.size
   ·have hb:=aK s k;have hlt2:((s[k].toNat:Nat):Int)<256:=by rw[get_bt s k hlt];omega
    by_cases h10:bt s k=10
    ·have z:(((s[k].toNat:Nat):Int)==10)=true:=by rw[get_bt s k hlt,h10];rfl
     have hN:Hid (N=false):=aen (by
      rw[←Bool.not_eq_true];intro h;exact HN.out.1 h k hlt h10)
     clear h10;go_wp2;go_ret;exact⟨aJ (by rw[HL2.out,hN.out]),b1⟩
    ·have z:(((s[k].toNat:Nat):Int)==10)=false:=by rw[get_bt s k hlt,aes];omega
     have WQ:=aen h10;clear h10;go_wp2;go_round;case rel=>
      refine⟨k+1,by go_num,by omega,fun j hj=>?_⟩;by_cases hj':j<k
      ·exact Hno.out j hj'
      ·obtain rfl:j=k:=by omega
       exact WQ.out
     case measure=>simp[intOf];omega
   ·obtain rfl:k=s.size:=by omega
    have hN:Hid (N=true):=aen (HN.out.2 Hno.out);go_wp2;go_ret;exact⟨aJ (by rw[HL2.out,hN.out]),b1⟩
def qv(s:ByteArray):Nat→Nat→List UInt8→Option (List UInt8 × Nat)
 |0,_,_=>none
 |f+1,i,acc=>
  if i<s.size then
   (if bt s i=34 then some (acc,i+1)
    else if bt s i=92 then (if i+1<s.size∧(bt s (i+1)=34∨bt s (i+1)=92) then qv s f (i+2) (acc++[s.get! (i+1)]) else none)
    else qv s f (i+1) (acc++[s.get! i]))
  else none
theorem O0(s:ByteArray)(f i:Nat)(acc:List UInt8)(h:¬i<s.size):qv s f i acc=none:=by
 cases f <;> simp[qv,h]
theorem EZ(s:ByteArray)(f i:Nat)(acc:List UInt8)(h:i<s.size)(hf:s.size≤i+f)(hb:bt s i=34):qv s f i acc=some (acc,i+1):=by
 obtain⟨g,rfl⟩:∃g,f=g+1:=⟨f - 1,by omega⟩;simp[qv,h,hb]
theorem O3(s:ByteArray)(f i:Nat)(acc:List UInt8)(h:i<s.size)(hf:s.size≤i+f)(hb:bt s i=92):qv s f i acc=if i+1<s.size∧(bt s (i+1)=34∨bt s (i+1)=92) then qv s (f - 1) (i+2) (acc++[s.get! (i+1)]) else none:=by
 obtain⟨g,rfl⟩:∃g,f=g+1:=⟨f - 1,by omega⟩;simp only[qv,if_pos h,if_neg (show ¬bt s i=34 by omega),if_pos hb,Nat.add_sub_cancel]
theorem O4(s:ByteArray)(f i:Nat)(acc:List UInt8)(h:i<s.size)(hf:s.size≤i+f)(h1:bt s i≠34)(h2:bt s i≠92):qv s f i acc=qv s (f - 1) (i+1) (acc++[s.get! i]):=by
 obtain⟨g,rfl⟩:∃g,f=g+1:=⟨f - 1,by omega⟩;simp only[qv,if_pos h,if_neg h1,if_neg h2,Nat.add_sub_cancel]
theorem wK(s:ByteArray):∀f i acc l j,qv s f i acc=some (l,j)→l.length≤acc.length+(s.size - i)∧i<j∧j≤s.size
 |0,i,acc,l,j,h=>by simp[qv] at h
 |f+1,i,acc,l,j,h=>by
  unfold qv at h;split at h
  ·rename_i hi;split at h
   ·injection h with h;injection h with h1 h2;subst h1 h2;omega
   ·split at h
    ·split at h
     ·rename_i hq;have:=wK s f _ _ l j h;simp at this;omega
     ·cases h
    ·have:=wK s f _ _ l j h;simp at this;omega
  ·cases h
def valOf(o:Option (List UInt8 × Nat)):ByteArray × Nat × Bool:=
 match o with
 |some (l,j)=>(mk l,j,sV (mk l))
 |none=>(⟨#[]⟩,0,false)
def uX(r:ByteArray × Nat × Bool)(w:World)(e:Ending)(w':World):Prop:=e=.returned (.tuple #[.string r.1,.int .i64 r.2.1,.bool r.2.2])∧Below w.heap.size w w'
theorem O5(s:ByteArray)(k:Nat):Lib.byteCells [s.get! k]=[.int .u8 (bt s k)]:=rfl
def WR(s:ByteArray)(R:Option (List UInt8 × Nat))(w:World)(i:Value)(wr:World):Prop:=
 ∃(k f:Nat) (acc:List UInt8),i=.int .i64 k∧Lib.IsBuilderF 158 5 w.heap.size w.heap.size (Lib.byteCells acc) wr∧Below w.heap.size w wr∧qv s f k acc=R∧s.size≤k+f∧acc.length≤k∧w.heap.size<wr.heap.size
theorem WS(s:ByteArray)(i:Nat)(w:World)(hs:s.size≤1000000)(hi:i<s.size)(hq:bt s i=34):Calls prog 232 #[.string s,.int .i64 i] w (uX (valOf (qv s s.size (i+1) [])) w):=by
 have hlt0:((s[i].toNat:Nat):Int)<256:=by rw[get_bt s i hi];have:=aK s i;omega
 have z0:(((s[i].toNat:Nat):Int) != 34)=false:=by rw[get_bt s i hi,hq];rfl
 have hlenq:Hid (∀l j,qv s s.size (i+1) []=some (l,j)→l.length≤s.size):=aen fun l j h=>by
  have:=(wK s _ _ _ l j h).1;simp at this;omega
 have Hq:=aen hq;have d0:decide (s.size≤i)=false:=aep (by omega);clear hq;generalize hR:qv s s.size (i+1) []=R at *;have HR:=aen hR;clear hR;have Ji:Hid (∀l j,R=some (l,j)→valOf R=(mk l,j,sV (mk l))):=aen fun l j h=>by rw[h];rfl
 have qT:Hid (R=none→valOf R=(⟨#[]⟩,0,false)):=aen fun h=>by rw[h];rfl
 generalize valOf R=T at *;go_enter Tryz.func232,Tryz.ntmps232;go_wp2;go_loopw [8] (fun v wr=>WR s R w v wr) (fun v _=>s.size - (intOf v).toNat);case atStart=>exact⟨i+1,s.size,[],by go_num,Lib.IsBuilderF.of (Lib.fresh_isBuilder 158 5 w),(aer _ w).alloc (aeo _) _,HR.out,by omega,by simp,by simp⟩
 case round=>
  obtain⟨k,f,acc,rfl,hI,hbw,hacc,hf,hal,hsz⟩:=hrel;have aY:=aen hacc;clear hacc;by_cases hk:k<s.size
  ·have hb:=aK s k;have hlt:((s[k].toNat:Nat):Int)<256:=by rw[get_bt s k hk];omega
   have hbi:=aen (oJ s k hk);by_cases c1:bt s k=34
   ·have z1:(((s[k].toNat:Nat):Int)==34)=true:=by rw[get_bt s k hk,c1];rfl
    have hT:=aen (Ji.out acc (k+1) (by rw[←aY.out,EZ s f k acc hk hf c1]));have hll:acc.length≤s.size:=hlenq.out acc (k+1) (by rw[←aY.out,EZ s f k acc hk hf c1]);have uY:=aen (WN (mk acc));have hms:(mk acc).size≤1000000:=by rw[←bytesL_length,bytesL_mk'];omega
    clear c1;go_wp2_with fail;refine(Tryz.Builder_String_any_k w.heap.size w.heap.size acc _ hI (by omega)).mono ?_;rintro e W1 ⟨rfl,h1,b1,_⟩;have hz1:=b1.size;go_wp2_with fail;refine(Tryz.Builder_String_any_k w.heap.size w.heap.size acc _ h1 (by omega)).mono ?_;rintro e W2 ⟨rfl,h2,b2,_⟩;have hz2:=b2.size;go_wp2_with fail;refine(uY.out _ (by omega)).mono ?_;rintro e W3 ⟨rfl,b3⟩;go_wp2;go_ret3;refine⟨?_,(((hbw.trans b1).trans b2).trans (b3.mono (by omega)))⟩;rw[hT.out];rfl
   ·have z1:(((s[k].toNat:Nat):Int)==34)=false:=by rw[get_bt s k hk,aes];omega
    by_cases c2:bt s k=92
    ·have z2:(((s[k].toNat:Nat):Int)==92)=true:=by rw[get_bt s k hk,c2];rfl
     have hst:=aen (O3 s f k acc hk hf c2);clear c1 c2;by_cases hk1:k+1<s.size
     ·have hb1:=aK s (k+1);have hlt1:((s[k+1].toNat:Nat):Int)<256:=by rw[get_bt s _ hk1];omega
      have WT:=aen (oJ s (k+1) hk1);by_cases c3:bt s (k+1)=34∨bt s (k+1)=92
      ·have hR1:=aen (hst.out.symm.trans aY.out);have hR2:Hid (qv s (f - 1) (k+2) (acc++[s.get! (k+1)])=R):=aen (by rw[←hR1.out,if_pos ⟨hk1,c3⟩]);have cc:(((s[k+1].toNat:Nat):Int) != 34)=false∨((((s[k+1].toNat:Nat):Int) != 34)=true∧(((s[k+1].toNat:Nat):Int) != 92)=false):=by
        rw[get_bt s _ hk1];rcases c3 with c|c
        ·left;rw[c];rfl
        ·right;rw[c];exact⟨rfl,rfl⟩
       clear c3;rcases cc with z3|⟨z3,z4⟩;all_goals
        go_wp2_with fail;refine(zM w.heap.size w.heap.size _ _ _ hI (by rw[Lib.byteCells_length];omega) (by omega)).mono ?_;rintro e W1 ⟨rfl,h1,b1,_⟩;have hz1:=b1.size;go_wp2;go_roundw;case rel=>exact⟨k+2,f - 1,acc++[s.get! (k+1)],by go_num,by rw[Lib.byteCells_append,O5,←WT.out];exact Or.inr h1,hbw.trans b1,hR2.out,by omega,by simp;omega,by omega⟩
        case measure=>simp[intOf];omega
      ·have mM:Hid (T=(⟨#[]⟩,0,false)):=aen (qT.out (by rw[←aY.out,hst.out,if_neg (by intro h;exact c3 h.2)]));have z3:(((s[k+1].toNat:Nat):Int) != 34)=true:=by rw[get_bt s _ hk1];simp;omega
       have z4:(((s[k+1].toNat:Nat):Int) != 92)=true:=by rw[get_bt s _ hk1];simp;omega
       clear c3;go_wp2_with fail;go_ret3;refine⟨?_,hbw⟩;rw[mM.out];rfl
     ·have mM:Hid (T=(⟨#[]⟩,0,false)):=aen (qT.out (by rw[←aY.out,hst.out,if_neg (by intro h;exact hk1 h.1)]));go_wp2_with fail;go_ret3;refine⟨?_,hbw⟩;rw[mM.out];rfl
    ·have z2:(((s[k].toNat:Nat):Int)==92)=false:=by rw[get_bt s k hk,aes];omega
     have hR2:Hid (qv s (f - 1) (k+1) (acc++[s.get! k])=R):=aen (by rw[←aY.out,O4 s f k acc hk hf c1 c2]);clear c1 c2;go_wp2_with fail;refine(zM w.heap.size w.heap.size _ _ _ hI (by rw[Lib.byteCells_length];omega) (by omega)).mono ?_;rintro e W1 ⟨rfl,h1,b1,_⟩;have hz1:=b1.size;go_wp2;go_roundw;case rel=>exact⟨k+1,f - 1,acc++[s.get! k],by go_num,by rw[Lib.byteCells_append,O5,←hbi.out];exact Or.inr h1,hbw.trans b1,hR2.out,by omega,by simp;omega,by omega⟩
     case measure=>simp[intOf];omega
  ·have mM:Hid (T=(⟨#[]⟩,0,false)):=aen (qT.out (by rw[←aY.out,O0 s f k acc hk]));go_wp2;go_ret3;refine⟨?_,hbw⟩;rw[mM.out];rfl
end Go.Proofs.YtpoafhgbhnblmaaGreatDoor
