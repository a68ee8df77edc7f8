import Derived.Test.YtpoafhgbhnblmaaGreatDoorF27
set_option linter.unusedVariables false
set_option linter.unusedSimpArgs false
set_option maxRecDepth 100000
set_option maxHeartbeats 20000000
namespace Go.Proofs.YtpoafhgbhnblmaaGreatDoor
open Go.Proofs.Tryz (prog)
theorem ab7(c:ByteArray)(i:Nat)(h:i<c.size):(sfx c i).contains 96=(decide (bt c i=96)||(sfx c (i+1)).contains 96):=by
 rw[bV c i h,List.contains_cons];congr 1;rw[Bool.eq_iff_iff,beq_iff_eq,decide_eq_true_iff];constructor
 ·intro e;exact(eY c i 96 (by decide)).1 e.symm
 ·intro e;exact((eY c i 96 (by decide)).2 e).symm
open Go.RowKit
theorem ab8(c:ByteArray)(ind:Nat)(w:World)(hs:c.size≤1000000)(h0:0<c.size)(hi:ind≤3):Calls prog 128 #[.string c,.int .i64 ind] w (lV ((kG c ind).getD {}) w):=by
 have hg:=get_bt c 0 h0;have hb256:=aK c 0;have HRn:=aen fun W=>AX c (bt c 0) W hs hb256;have hnl:=qf c (· != bt c 0);have HR:Hid (kG c ind=if bt c 0=96∨bt c 0=126 then (if xY c (aI c (· != bt c 0))=true then some {kind:=7,n:=aI c (· != bt c 0),ch:=c.extract 0 1,info:=mk (trimS (sfx c (aI c (· != bt c 0)))),off:=ind} else none) else none):=aen rfl;generalize kG c ind=R at *;generalize aI c (· != bt c 0)=n at *;have hB:Hid (∀x y z,Below w.heap.size w (w.alloc (.cells x y z))):=aen fun _ _ _=>(aer _ w).alloc (aeo _) _;have h1:1≤c.size:=h0;have h1i:(1:Int)≤(c.size:Int):=by omega
 have XU:(n:Int)≤(c.size:Int):=by omega
 by_cases hq:bt c 0=96∨bt c 0=126;case neg=>
  have HF:Hid (R=none):=aen (by rw[HR.out,if_neg hq]);have z1:(((bt c 0:Nat):Int) != 96)=true:=by rw[aeB];omega
  have z2:(((bt c 0:Nat):Int) != 126)=true:=by rw[aeB];omega
  clear HR hq;go_enter Tryz.func128,Tryz.ntmps128;go_wp2_with fail;with_reducible refine(HRn.out _).mono ?_
  rintro e w0 ⟨rfl,rfl⟩;go_wp2_with fail;exact zZ (ae.new w _ _) rfl rfl (gz HF.out (hB.out _ _ _))
 have jM:Hid (xY c n=(decide (3≤n)&&!(decide (bt c 0=96)&&(sfx c n).contains 96))):=aen rfl;have HR2:Hid (R=if xY c n=true then some {kind:=7,n:=n,ch:=c.extract 0 1,info:=mk (trimS (sfx c n)),off:=ind} else none):=aen (by rw[HR.out,if_pos hq]);clear HR;generalize xY c n=FB at *;have hcase:((((bt c 0:Nat):Int) != 96)=false∧(((bt c 0:Nat):Int)==96)=true∧bt c 0=96)∨((((bt c 0:Nat):Int) != 96)=true∧(((bt c 0:Nat):Int) != 126)=false∧(((bt c 0:Nat):Int)==96)=false∧bt c 0=126):=by
  rcases hq with h|h
  ·left;exact⟨by rw[h];rfl,by rw[h];rfl,h⟩
  ·right;exact⟨by rw[h];rfl,by rw[h];rfl,by rw[h];rfl,h⟩
 clear hq;by_cases h3:n<3
 ·have HF:Hid (R=none):=aen (by rw[HR2.out,jM.out,aep (by omega)];rfl);have d1:decide ((n:Int)<3)=true:=aeq (by omega);have d2:decide (n<3)=true:=aeq h3;clear HR2 jM;rcases hcase with ⟨z1,z2,z3⟩|⟨z1,z2,z3,z4⟩
  ·have HRn:Hid (∀W,Calls prog 176 #[.string c,.int .i64 0,.int .u8 96] W fun e w'=>e=.returned (.int .i64 n)∧W=w'):=aen fun W=>by have h:=HRn.out W;rw[z3] at h;exact h
   go_enter Tryz.func128,Tryz.ntmps128;go_wp2_with fail;with_reducible refine(HRn.out _).mono ?_
   rintro e w0 ⟨rfl,rfl⟩;go_wp2_with fail;exact zZ (ae.new w _ _) rfl rfl (gz HF.out (hB.out _ _ _))
  ·have HRn:Hid (∀W,Calls prog 176 #[.string c,.int .i64 0,.int .u8 126] W fun e w'=>e=.returned (.int .i64 n)∧W=w'):=aen fun W=>by have h:=HRn.out W;rw[z4] at h;exact h
   go_enter Tryz.func128,Tryz.ntmps128;go_wp2_with fail;with_reducible refine(HRn.out _).mono ?_
   rintro e w0 ⟨rfl,rfl⟩;go_wp2_with fail;exact zZ (ae.new w _ _) rfl rfl (gz HF.out (hB.out _ _ _))
 have d1:decide ((n:Int)<3)=false:=aep (by omega);have d2:decide (n<3)=false:=aep h3;rw[aeq (show 3≤n by omega),Bool.true_and] at jM;have hxz:(c.extract n c.size).size≤1000000:=by rw[aex];omega
 have dZ:Hid (∀W,Calls prog 178 #[.string (c.extract n c.size)] W fun e w'=>e=.returned (.string (mk (trimS (sfx c n))))∧w'=W):=aen fun W=>by
  have h:=L8 (c.extract n c.size) W hxz;rw[extract_drop,bytesL_mk',←extract_drop] at h;exact h.mono fun e w' hh=>⟨hh.1,hh.2.symm⟩
 generalize mk (trimS (sfx c n))=T at *;have HZ0:Hid (ZM (w.alloc (.cells #[.int .i64 0,.int .i64 0,.string ⟨#[]⟩,.int .i64 0,.string ⟨#[]⟩,.string ⟨#[]⟩,.string ⟨#[]⟩,.string ⟨#[]⟩,.string ⟨#[]⟩,.slice none 0 0,.slice none 0 0] 74)) w.heap.size):=aen (ae.new w _ _);rcases hcase with ⟨z1,z2,z3⟩|⟨z1,z2,z2',z3⟩
 ·have HRn:Hid (∀W,Calls prog 176 #[.string c,.int .i64 0,.int .u8 96] W fun e w'=>e=.returned (.int .i64 n)∧W=w'):=aen fun W=>by have h:=HRn.out W;rw[z3] at h;exact h
  have G5:Hid (FB=!((sfx c n).contains 96)):=aen (by rw[jM.out,aeq z3];rfl);clear jM;go_enter Tryz.func128,Tryz.ntmps128;go_wp2_with fail;with_reducible refine(HRn.out _).mono ?_
  rintro e w0 ⟨rfl,rfl⟩;go_wp2_with fail;go_loop [6] (fun v=>∃k:Nat,v=.int .i64 k∧k≤c.size∧Hid (FB=!((sfx c k).contains 96))) (fun v=>c.size - (intOf v).toNat);case atStart=>exact⟨n,rfl,hnl,G5⟩
  case round=>
   obtain⟨k,rfl,hks,Hk⟩:=hrel;clear G5;by_cases hlt:k<c.size
   ·have hgk:=get_bt c k hlt;have hn:=ab7 c k hlt;by_cases hc:bt c k=96
    ·have HF:Hid (R=none):=aen (by rw[HR2.out,Hk.out,hn,aeq hc];rfl);have y1:(((c[k].toNat:Nat):Int)==96)=true:=by rw[hgk,hc];rfl
     clear HR2 Hk hn hc hgk;go_wp2_with fail;exact zZ (ae.new w _ _) rfl rfl (gz HF.out (hB.out _ _ _))
    ·have HN:Hid (FB=!((sfx c (k+1)).contains 96)):=aen (by rw[Hk.out,hn,aep hc];rfl);have y1:(((c[k].toNat:Nat):Int)==96)=false:=by rw[hgk,aes];omega
     clear Hk hn hc hgk;go_wp2_with fail;go_round;case rel=>exact⟨k+1,by go_num,by omega,HN⟩
     case measure=>simp[intOf];omega
   ·obtain rfl:k=c.size:=by omega
    have HF:Hid (R=some {kind:=7,n:=n,ch:=c.extract 0 1,info:=T,off:=ind}):=aen (by rw[HR2.out,Hk.out,kU c _ (aeo _)];rfl);have HZ:=HZ0.out;obtain⟨k0,k1,k2,k3,k4,k5,k6,k7,k8,k9,k10,y0,y1,y2,y3,y4,y5,y6,y7,y8,y9,aj⟩:=ZM.facts HZ;have HB:=aen (hB.out #[.int .i64 0,.int .i64 0,.string ⟨#[]⟩,.int .i64 0,.string ⟨#[]⟩,.string ⟨#[]⟩,.string ⟨#[]⟩,.string ⟨#[]⟩,.string ⟨#[]⟩,.slice none 0 0,.slice none 0 0] 74 (0,0));clear HR2 Hk;go_wp2_with fail;generalize w.alloc (.cells #[.int .i64 0,.int .i64 0,.string ⟨#[]⟩,.int .i64 0,.string ⟨#[]⟩,.string ⟨#[]⟩,.string ⟨#[]⟩,.string ⟨#[]⟩,.string ⟨#[]⟩,.slice none 0 0,.slice none 0 0] 74)=W3 at *;refine wp_region_still_tail 9 (by kernel_rfl) (by kernel_rfl) ?_;simp only[List.take_succ_cons,List.take_zero,List.drop_succ_cons,List.drop_zero];repeat still_step
    still_call (dZ.out _);repeat still_step
    refine wpStill_nil ?_;go_wp2_with fail;exact zZ (ae.drewN (ax HZ _ _ _ _ _ _ _ _ _ _ _) 1) rfl rfl (rY (m:={kind:=7,n:=n,ch:=c.extract 0 1,info:=T,off:=ind}) HF.out rfl (below_drewN (au HB.out (aeo _) _ _ _ _ _ _ _ _ _ _ _) 1))
 ·have HRn:Hid (∀W,Calls prog 176 #[.string c,.int .i64 0,.int .u8 126] W fun e w'=>e=.returned (.int .i64 n)∧W=w'):=aen fun W=>by have h:=HRn.out W;rw[z3] at h;exact h
  have G5:Hid (FB=true):=aen (by rw[jM.out,aep (by omega)];rfl);have HF:Hid (R=some {kind:=7,n:=n,ch:=c.extract 0 1,info:=T,off:=ind}):=aen (by rw[HR2.out,G5.out];rfl);clear jM HR2;go_enter Tryz.func128,Tryz.ntmps128;go_wp2_with fail;with_reducible refine(HRn.out _).mono ?_
  rintro e w0 ⟨rfl,rfl⟩;go_wp2_with fail;go_loop [6] (fun v=>∃k:Nat,v=.int .i64 k∧k≤c.size) (fun v=>c.size - (intOf v).toNat);case atStart=>exact⟨n,rfl,hnl⟩
  case round=>
   obtain⟨k,rfl,hks⟩:=hrel;by_cases hlt:k<c.size
   ·go_wp2_with fail;go_round;case rel=>exact⟨k+1,by go_num,by omega⟩
    case measure=>simp[intOf];omega
   ·obtain rfl:k=c.size:=by omega
    have HZ:=HZ0.out;obtain⟨k0,k1,k2,k3,k4,k5,k6,k7,k8,k9,k10,y0,y1,y2,y3,y4,y5,y6,y7,y8,y9,aj⟩:=ZM.facts HZ;have HB:=aen (hB.out #[.int .i64 0,.int .i64 0,.string ⟨#[]⟩,.int .i64 0,.string ⟨#[]⟩,.string ⟨#[]⟩,.string ⟨#[]⟩,.string ⟨#[]⟩,.string ⟨#[]⟩,.slice none 0 0,.slice none 0 0] 74 (0,0));go_wp2_with fail;generalize w.alloc (.cells #[.int .i64 0,.int .i64 0,.string ⟨#[]⟩,.int .i64 0,.string ⟨#[]⟩,.string ⟨#[]⟩,.string ⟨#[]⟩,.string ⟨#[]⟩,.string ⟨#[]⟩,.slice none 0 0,.slice none 0 0] 74)=W3 at *;refine wp_region_still_tail 9 (by kernel_rfl) (by kernel_rfl) ?_;simp only[List.take_succ_cons,List.take_zero,List.drop_succ_cons,List.drop_zero];repeat still_step
    still_call (dZ.out _);repeat still_step
    refine wpStill_nil ?_;go_wp2_with fail;exact zZ (ae.drewN (ax HZ _ _ _ _ _ _ _ _ _ _ _) 1) rfl rfl (rY (m:={kind:=7,n:=n,ch:=c.extract 0 1,info:=T,off:=ind}) HF.out rfl (below_drewN (au HB.out (aeo _) _ _ _ _ _ _ _ _ _ _ _) 1))
theorem ab9(c:ByteArray)(h2:2≤c.size):yj (c.extract 2 c.size)=if nameB (c.extract 2 (dW c 2))=true∧dW c 2+1<c.size∧bt c (dW c 2+1)=58 then some {kind:=10,info:=c.extract 2 (dW c 2),off:=4,rest:=aT (c.extract (dW c 2+2) c.size) 1} else none:=by
 unfold yj dW;rw[ext_eq];have e2:bytesL (ext c 2)=sfx c 2:=LV c 2;unfold jB fB gG;rw[e2,ext_eq,zh];generalize brk (sfx c 2)=b;have hz:(ext c 2).size=c.size - 2:=ext_size c 2;have hh:mk ((sfx c 2).take b)=c.extract 2 (2+b):=by
  rw[←eX (c.extract 2 (2+b)),bytesL_sub];show mk ((sfx c 2).take b)=mk ((sfx c 2).take (2+b - 2));rw[show 2+b - 2=b by omega]
 rw[hh];have e3:2+(b+1)=2+b+1:=by omega
 rw[e3];have hp:=TD (ext c (2+b+1)) 58;rw[ext_size] at hp;by_cases hb:b<(ext c 2).size
 ·rw[if_pos hb,aeq hb];by_cases hn:nameB (c.extract 2 (2+b))=true
  ·by_cases hq:2+b+1<c.size∧bt c (2+b+1)=58
   ·have hp1:Lib.hasPrefix (bytesL (ext c (2+b+1))) [58]=true:=hp.2 ⟨by omega,by rw[pO c _ 0 (by omega)];exact hq.2⟩;rw[if_pos ⟨rfl,hn,hp1⟩,if_pos ⟨hn,hq⟩,xk,xy,ext_eq];rfl
   ·rw[if_neg,if_neg (fun e=>hq e.2)];rintro ⟨_,_,e⟩;have h7:=hp.1 e;have h8:2+b+1<c.size:=by omega
    have h9:=h7.2;rw[pO c _ 0 (by omega)] at h9;exact hq ⟨h8,h9⟩
  ·rw[if_neg (fun e=>hn e.2.1),if_neg (fun e=>hn e.1)]
 ·rw[if_neg (fun e=>hb (of_decide_eq_true e.1)),if_neg (fun e=>by have:=e.2.1;omega)]
theorem acd(c:ByteArray)(w:World)(hs:c.size≤1000000):Calls prog 131 #[.string c] w (lV ((jC c).getD {}) w):=by
 have hB:Hid (∀x y z,Below w.heap.size w (w.alloc (.cells x y z))):=aen fun _ _ _=>(aer _ w).alloc (aeo _) _;by_cases h2:c.size<2
 ·have HF:Hid (jC c=none):=aen (by
   unfold jC;rw[if_neg];intro h;have:=wW h;simp at this;omega)
  have d3:decide ((c.size:Int)<2)=true:=aeq (by omega);have d4:decide (c.size<2)=true:=aeq h2;generalize jC c=R at *;go_enter Tryz.func131,Tryz.ntmps131;go_wp2_with fail;exact Aa (ae.new w _ _) rfl rfl (gz HF.out (hB.out _ _ _))
 have h2':2≤c.size:=by omega
 have h2i:(2:Int)≤(c.size:Int):=by omega
 have d3:decide ((c.size:Int)<2)=false:=aep (by omega);have d4:decide (c.size<2)=false:=aep h2;have HR:Hid (jC c=if ((c.extract 0 2).toList==(⟨#[91,94]⟩:ByteArray).toList)=true then yj (c.extract 2 c.size) else none):=aen (by unfold jC;rw[L6 c 91 94 h2']);generalize jC c=R at *;generalize hX:c.extract 0 2=X at *;cases hp:(X.toList==(⟨#[91,94]⟩:ByteArray).toList)
 ·have HF:Hid (R=none):=aen (by rw[HR.out,hp];rfl);have hl:(⟨#[91,94]⟩:ByteArray).toList=[91,94]:=by decide +kernel
  have hp':(X.toList==[91,94])=false:=by rw[←hl];exact hp
  clear HR;go_enter Tryz.func131,Tryz.ntmps131;go_wp2_with fail;exact Aa (ae.new w _ _) rfl rfl (gz HF.out (hB.out _ _ _))
 have HR2:Hid (R=if nameB (c.extract 2 (dW c 2))=true∧dW c 2+1<c.size∧bt c (dW c 2+1)=58 then some {kind:=10,info:=c.extract 2 (dW c 2),off:=4,rest:=aT (c.extract (dW c 2+2) c.size) 1} else none):=aen (by rw[HR.out,hp,←ab9 c h2'];rfl);obtain rfl:X=⟨#[91,94]⟩:=(Lib.bytes_beq_iff _ _).1 hp;have hp':((⟨#[91,94]⟩:ByteArray).toList != (⟨#[91,94]⟩:ByteArray).toList)=false:=by simp
 clear HR hp;obtain⟨K,hK⟩:∃K,K=dW c 2:=⟨_,rfl⟩;rw[←hK] at HR2;have HK:=aen hK.symm;clear hK;have HZ0:Hid (ZM (w.alloc (.cells #[.int .i64 0,.int .i64 0,.string ⟨#[]⟩,.int .i64 0,.string ⟨#[]⟩,.string ⟨#[]⟩,.string ⟨#[]⟩,.string ⟨#[]⟩,.string ⟨#[]⟩,.slice none 0 0,.slice none 0 0] 74)) w.heap.size):=aen (ae.new w _ _);have HB0:Hid (Below w.heap.size w (w.alloc (.cells #[.int .i64 0,.int .i64 0,.string ⟨#[]⟩,.int .i64 0,.string ⟨#[]⟩,.string ⟨#[]⟩,.string ⟨#[]⟩,.string ⟨#[]⟩,.string ⟨#[]⟩,.slice none 0 0,.slice none 0 0] 74))):=aen (hB.out _ _ _);go_enter Tryz.func131,Tryz.ntmps131;go_wp2_with fail;go_loop [3] (fun v=>∃k:Nat,v=.int .i64 k∧2≤k∧k≤c.size∧Hid (dW c k=K)) (fun v=>c.size - (intOf v).toNat);case atStart=>exact⟨2,rfl,aeo _,h2',HK⟩
 case round=>
  obtain⟨k,rfl,hk2,hks,Hk⟩:=hrel;clear HK;have hmain:(∃h:k<c.size,(((c[k].toNat:Nat):Int) != 93)=true∧Hid (dW c (k+1)=K))∨(((decide ((k:Int)<(c.size:Int))=false∧decide (k<c.size)=false)∨∃h:k<c.size,(((c[k].toNat:Nat):Int) != 93)=false)∧K=k):=by
   by_cases hlt:k<c.size
   ·by_cases hc:bt c k=93
    ·right;exact⟨Or.inr ⟨hlt,by rw[get_bt c k hlt,hc];rfl⟩,by rw[←Hk.out,Tn c k hlt hc]⟩
    ·left;exact⟨hlt,by rw[get_bt c k hlt,aeB];omega,aen (by rw[←Hk.out,Tq c k hlt hc])⟩
   ·right;exact⟨Or.inl ⟨aep (by omega),aep hlt⟩,by rw[←Hk.out,Ti c k (by omega)]⟩
  clear Hk;rcases hmain with ⟨hlt,z1,HN⟩|⟨hex,rfl⟩
  ·go_wp2_with fail;go_round;case rel=>exact⟨k+1,by go_num,by omega,by omega,HN⟩
   case measure=>simp[intOf];omega
  have hnz:(c.extract 2 K).size<9223372036854775807:=by rw[aex];omega
  have gY:=aen fun W=>zV (c.extract 2 K) W hnz;have GN:(2:Int)≤(K:Int):=by omega
  have hKs:(K:Int)≤(c.size:Int):=by omega
  generalize hNN:c.extract 2 K=NM at *;have kX:(nameB NM=false∧Hid (R=none))∨(nameB NM=true∧(decide ((c.size:Int)≤(K:Int)+1)=true∧decide (c.size≤K+1)=true)∧Hid (R=none))∨(nameB NM=true∧(decide ((c.size:Int)≤(K:Int)+1)=false∧decide (c.size≤K+1)=false)∧∃h:K+1<c.size,((((c[K+1].toNat:Nat):Int) != 58)=true∧Hid (R=none))∨((((c[K+1].toNat:Nat):Int) != 58)=false∧Hid (R=some {kind:=10,info:=NM,off:=4,rest:=aT (c.extract (K+2) c.size) 1}))):=by
   cases hn:nameB NM
   ·left;exact⟨rfl,aen (by rw[HR2.out,if_neg (fun e=>by rw[hn] at e;cases e.1)])⟩
   ·right;by_cases h1:K+1<c.size
    ·right;refine⟨rfl,⟨aep (by omega),aep (by omega)⟩,h1,?_⟩;by_cases hc:bt c (K+1)=58
     ·right;exact⟨by rw[get_bt c _ h1,hc];rfl,aen (by rw[HR2.out,if_pos ⟨hn,h1,hc⟩])⟩
     ·left;exact⟨by rw[get_bt c _ h1,aeB];omega,aen (by rw[HR2.out,if_neg (fun e=>hc e.2.2)])⟩
    ·left;exact⟨rfl,⟨aeq (by omega),aeq (by omega)⟩,aen (by rw[HR2.out,if_neg (fun e=>h1 e.2.1)])⟩
  clear HR2;rcases kX with ⟨t1,HF⟩|⟨t1,t2,HF⟩|⟨t1,t2,h1,⟨t3,HF⟩|⟨t3,HF⟩⟩
  ·rw[t1] at gY;rcases hex with ⟨x1,x2⟩|⟨x0,x1⟩;all_goals
    go_wp2_with fail;with_reducible refine(gY.out _).mono ?_
    rintro e w0 ⟨rfl,rfl⟩;go_wp2_with fail;exact Aa (ae.new w _ _) rfl rfl (gz HF.out HB0.out)
  ·rw[t1] at gY;obtain⟨t2,t2'⟩:=t2;rcases hex with ⟨x1,x2⟩|⟨x0,x1⟩;all_goals
    go_wp2_with fail;with_reducible refine(gY.out _).mono ?_
    rintro e w0 ⟨rfl,rfl⟩;go_wp2_with fail;exact Aa (ae.new w _ _) rfl rfl (gz HF.out HB0.out)
  ·rw[t1] at gY;obtain⟨t2,t2'⟩:=t2;rcases hex with ⟨x1,x2⟩|⟨x0,x1⟩;all_goals
    go_wp2_with fail;with_reducible refine(gY.out _).mono ?_
    rintro e w0 ⟨rfl,rfl⟩;go_wp2_with fail;exact Aa (ae.new w _ _) rfl rfl (gz HF.out HB0.out)
  ·rw[t1] at gY;obtain⟨t2,t2'⟩:=t2;have mV:Hid (∀W,Calls prog 179 #[.string c,.int .i64 ((K:Int)+2)] W fun e w'=>e=.returned (.string (aT (c.extract (K+2) c.size) 1))∧w'=W):=aen fun W=>by
    have h:=GZ c (K+2) W hs (by omega);exact h.mono fun e w' hh=>⟨hh.1,hh.2.symm⟩
   generalize aT (c.extract (K+2) c.size) 1=S at *;have hwr:IntKind.i64.wrap ((K:Int)+2)=(K:Int)+2:=by rw[IntKind.wrap_i64];omega
   have HZ:=HZ0.out;obtain⟨k0,k1,k2,k3,k4,k5,k6,k7,k8,k9,k10,y0,y1,y2,y3,y4,y5,y6,y7,y8,y9,aj⟩:=ZM.facts HZ;rcases hex with ⟨x1,x2⟩|⟨x0,x1⟩;all_goals
    go_wp2_with fail;with_reducible refine(gY.out _).mono ?_
    rintro e w0 ⟨rfl,rfl⟩;go_wp2_with fail;have HB1:=HB0.out;generalize w.alloc (.cells #[.int .i64 0,.int .i64 0,.string ⟨#[]⟩,.int .i64 0,.string ⟨#[]⟩,.string ⟨#[]⟩,.string ⟨#[]⟩,.string ⟨#[]⟩,.string ⟨#[]⟩,.slice none 0 0,.slice none 0 0] 74)=W3 at *;refine wp_region_still_tail 8 (by kernel_rfl) (by kernel_rfl) ?_;simp only[List.take_succ_cons,List.take_zero,List.drop_succ_cons,List.drop_zero];repeat still_step
    still_call (mV.out _);repeat still_step
    refine wpStill_nil ?_;go_wp2_with fail;exact Aa (ae.drewN (ax HZ _ _ _ _ _ _ _ _ _ _ _) 1) rfl rfl (rY (m:={kind:=10,info:=NM,off:=4,rest:=S}) HF.out rfl (below_drewN (au HB1 (aeo _) _ _ _ _ _ _ _ _ _ _ _) 1))
theorem ace(c:ByteArray)(w:World)(hs:c.size≤1000000):Calls prog 130 #[.string c] w (lV ((kK c).getD {}) w):=by
 have HRn:Hid (∀W,Calls prog 176 #[.string c,.int .i64 0,.int .u8 58] W fun e w'=>e=.returned (.int .i64 (aI c (· != 58)))∧W=w'):=aen fun W=>AX c 58 W hs (by omega);have hnl:=qf c (· != 58);have HR:Hid (kK c=if 3≤aI c (· != 58) then wV (mk (trimS (sfx c (aI c (· != 58))))) (aI c (· != 58)) else none):=aen rfl;generalize kK c=R at *;generalize aI c (· != 58)=n at *;have hB:Hid (∀x y z,Below w.heap.size w (w.alloc (.cells x y z))):=aen fun _ _ _=>(aer _ w).alloc (aeo _) _;by_cases h3:n<3
 ·have HF:Hid (R=none):=aen (by rw[HR.out,if_neg (by omega)]);have y1:decide ((n:Int)<3)=true:=aeq (by omega);have y2:decide (n<3)=true:=aeq h3;clear HR;go_enter Tryz.func130,Tryz.ntmps130;go_wp2_with fail;with_reducible refine(HRn.out _).mono ?_
  rintro e w0 ⟨rfl,rfl⟩;go_wp2_with fail;exact Fj (ae.new w _ _) rfl rfl (gz HF.out (hB.out _ _ _))
 have y1:decide ((n:Int)<3)=false:=aep (by omega);have y2:decide (n<3)=false:=aep h3;have HR2:=aen (HR.out.trans ((if_pos (by omega)).trans (div_eq c n hnl)));clear HR;have jw:Hid (∀W,Calls prog 123 #[.string c,.int .i64 n] W fun e w'=>e=.returned (.int .i64 (ah c n))∧W=w'):=aen fun W=>pP c n W hs hnl;have hbd:=yu c n hnl;generalize ah c n=b at *;have MB:=aen fun W=>abU c b W hs hbd.2;have hwl:=runF_le c b bf;generalize runF c b bf=K at *;have hnz:(c.extract b (b+K)).size<9223372036854775807:=by rw[aex];omega
 have gY:=aen fun W=>zV (c.extract b (b+K)) W hnz;have G6:Hid (∀W,Calls prog 183 #[.string c,.int .i64 ((b:Int)+(K:Int))] W (ug (oh (qw c (b+K))) W)):=aen fun W=>TE c (b+K) W hs (by omega);generalize qw c (b+K)=AR at *;have hwr:IntKind.i64.wrap ((b:Int)+(K:Int))=(b:Int)+(K:Int):=by rw[IntKind.wrap_i64];omega
 have hbi:(b:Int)≤(c.size:Int):=by omega
 have hbK:(b:Int)+(K:Int)≤(c.size:Int):=by omega
 have ad9:(b:Int)≤(b:Int)+(K:Int):=by omega
 have aea:((b:Int)+(K:Int)).toNat=b+K:=by omega
 have aeb:b+K≤c.size:=by omega
 generalize hNN:c.extract b (b+K)=NM at *;cases hnm:nameB NM
 ·have HF:Hid (R=none):=aen (by rw[HR2.out,if_neg (by rw[hnm];exact Bool.false_ne_true)]);rw[hnm] at gY;clear HR2 G6;go_enter Tryz.func130,Tryz.ntmps130;go_wp2_with fail;with_reducible refine(HRn.out _).mono ?_
  rintro e w0 ⟨rfl,rfl⟩;go_wp2_with fail;with_reducible refine(jw.out _).mono ?_
  rintro e w0 ⟨rfl,rfl⟩;go_wp2_with fail;with_reducible refine(MB.out _).mono ?_
  rintro e w0 ⟨rfl,rfl⟩;go_wp2_with fail;with_reducible refine(gY.out _).mono ?_
  rintro e w0 ⟨rfl,rfl⟩;go_wp2_with fail;exact Fj (ae.new w _ _) rfl rfl (gz HF.out (hB.out _ _ _))
 rw[hnm] at gY;have HR3:Hid (R=AR.map fun a=>{kind:=9,n:=n,info:=NM,att:=a}):=aen (by rw[HR2.out,if_pos hnm]);clear HR2;cases AR with
 |none=>
  have HF:Hid (R=none):=aen HR3.out;clear HR3;go_enter Tryz.func130,Tryz.ntmps130;go_wp2_with fail;with_reducible refine(HRn.out _).mono ?_
  rintro e w0 ⟨rfl,rfl⟩;go_wp2_with fail;with_reducible refine(jw.out _).mono ?_
  rintro e w0 ⟨rfl,rfl⟩;go_wp2_with fail;with_reducible refine(MB.out _).mono ?_
  rintro e w0 ⟨rfl,rfl⟩;go_wp2_with fail;with_reducible refine(gY.out _).mono ?_
  rintro e w0 ⟨rfl,rfl⟩;go_wp2_with fail;with_reducible refine(G6.out _).mono ?_
  rintro e w1 ⟨⟨vC,vP,rfl,ho⟩,b1⟩;obtain⟨qA,qc,rfl⟩:=ay ho.cls;obtain⟨qD,qd,rfl⟩:=ay ho.aH;obtain⟨HZ1,HB1⟩:=dI b1;simp only[oh] at *;have HZ:=ae.alloc HZ1 (.cells #[.string ak.id,.slice qA ak.cl.length qc,.slice qD ak.pr.length qd] 43);have HB:=HB1.alloc HB1.size (.cells #[.string ak.id,.slice qA ak.cl.length qc,.slice qD ak.pr.length qd] 43);obtain⟨k0,k1,k2,k3,k4,k5,k6,k7,k8,k9,k10,v0,v1,v2,v3,v4,v5,v6,v7,v8,v9,v10⟩:=ZM.facts HZ;go_wp2_with fail;exact Fj (ax HZ _ _ _ _ _ _ _ _ _ _ _) rfl rfl (gz HF.out (au HB (aeo _) _ _ _ _ _ _ _ _ _ _ _))
 |some a=>
  have HF:Hid (R=some {kind:=9,n:=n,info:=NM,att:=a}):=aen HR3.out;clear HR3;have acf:Hid (∀W,Calls prog 183 #[.string c,.int .i64 ((b:Int)+(K:Int))] W (ug (a,true) W)):=G6;clear G6;go_enter Tryz.func130,Tryz.ntmps130;go_wp2_with fail;with_reducible refine(HRn.out _).mono ?_
  rintro e w0 ⟨rfl,rfl⟩;go_wp2_with fail;with_reducible refine(jw.out _).mono ?_
  rintro e w0 ⟨rfl,rfl⟩;go_wp2_with fail;with_reducible refine(MB.out _).mono ?_
  rintro e w0 ⟨rfl,rfl⟩;go_wp2_with fail;with_reducible refine(gY.out _).mono ?_
  rintro e w0 ⟨rfl,rfl⟩;go_wp2_with fail;with_reducible refine(acf.out _).mono ?_
  rintro e w1 ⟨⟨vC,vP,rfl,ho⟩,b1⟩;obtain⟨qA,qc,rfl⟩:=ay ho.cls;obtain⟨qD,qd,rfl⟩:=ay ho.aH;obtain⟨HZ1,HB1⟩:=dI b1;have HZ:=ae.alloc HZ1 (.cells #[.string a.id,.slice qA a.cl.length qc,.slice qD a.pr.length qd] 43);have HB:=aen (HB1.alloc HB1.size (.cells #[.string a.id,.slice qA a.cl.length qc,.slice qD a.pr.length qd] 43));have ho2:aZ w1 (w.heap.size+1) a (.slice qA a.cl.length qc) (.slice qD a.pr.length qd):=by
   have e:(zw w).heap.size=w.heap.size+1:=qj w;rw[←e];exact ho
  have HO:=aen (ho2.below ((aer _ _).alloc (aeo _) (.cells #[.string a.id,.slice qA a.cl.length qc,.slice qD a.pr.length qd] 43)));have hn:=ae.new w1 43 #[.string a.id,.slice qA a.cl.length qc,.slice qD a.pr.length qd];have e0:=hn.cell 0;have e1:=hn.cell 1;have e2:=hn.cell 2;clear b1 ho ho2 HZ1 HB1 hn;obtain⟨k0,k1,k2,k3,k4,k5,k6,k7,k8,k9,k10,v0,v1,v2,v3,v4,v5,v6,v7,v8,v9,v10⟩:=ZM.facts HZ;go_wp2_with fail;generalize (w1.alloc (.cells #[.string a.id,.slice qA a.cl.length qc,.slice qD a.pr.length qd] 43))=W3 at *;refine wp_region_still_tail 7 (by kernel_rfl) (by kernel_rfl) ?_;simp only[List.take_succ_cons,List.take_zero,List.drop_succ_cons,List.drop_zero];repeat still_step
  refine wpStill_nil ?_;go_wp2_with fail;refine Fj (ae.drewN (ax HZ _ _ _ _ _ _ _ _ _ _ _) 1) rfl rfl (TJ (m:={kind:=9,n:=n,info:=NM,att:=a}) HF.out ?_ (below_drewN (au HB.out (aeo _) _ _ _ _ _ _ _ _ _ _ _) 1));exact dN ((dR HO.out (aV _ _ _ _ _ _ _ _ _ _ _ _ _) (Nat.lt_succ_self _)).below (below_drewN (aer _ _) 1)) (Nat.le_succ _)
theorem acg(c:ByteArray)(k:Nat):kY c (k+1)=kY c k+if bt c k=bt c 0 then 1 else 0:=by
 unfold kY;rw[List.range_succ,List.filter_append,aey];by_cases h:bt c k=bt c 0
 ·rw[if_pos h,List.filter_cons_of_pos (by rw[beq_iff_eq];exact h)];rfl
 ·rw[if_neg h,List.filter_cons_of_neg (by rw[beq_iff_eq];exact h)];rfl
theorem TK(c:ByteArray):qm c=true↔∀j,j<c.size→lT c j=true:=by
 unfold qm;rw[List.all_eq_true];exact⟨fun h j hj=>h j (List.mem_range.2 hj),fun h j hj=>h j (List.mem_range.1 hj)⟩
theorem ach(c:ByteArray)(w:World)(hs:c.size≤1000000)(h0:0<c.size):Calls prog 125 #[.string c] w (lV ((kJ c).getD {}) w):=by
 have hg:=get_bt c 0 h0;have HR:Hid (kJ c=if (bt c 0=45∨bt c 0=42∨bt c 0=95)∧qm c=true then (if decide (3≤kY c c.size)=true then some {kind:=3,ch:=c.extract 0 1} else none) else none):=aen rfl;generalize kJ c=R at *;have hB:Hid (∀x y z,Below w.heap.size w (w.alloc (.cells x y z))):=aen fun _ _ _=>(aer _ w).alloc (aeo _) _;by_cases hq:bt c 0=45∨bt c 0=42∨bt c 0=95;case neg=>
  have z1:(((bt c 0:Nat):Int) != 45)=true:=by rw[aeB];omega
  have z2:(((bt c 0:Nat):Int) != 42)=true:=by rw[aeB];omega
  have z3:(((bt c 0:Nat):Int) != 95)=true:=by rw[aeB];omega
  have HF:Hid (R=none):=aen (by rw[HR.out,if_neg (fun h=>hq h.1)]);clear HR hq;go_enter Tryz.func125,Tryz.ntmps125;go_wp2_with fail;exact Fh (ae.new w _ _) rfl rfl (gz HF.out (hB.out _ _ _))
 have HR2:Hid (R=if qm c=true then (if decide (3≤kY c c.size)=true then some {kind:=3,ch:=c.extract 0 1} else none) else none):=aen (by
  rw[HR.out];by_cases h:qm c=true
  ·rw[if_pos h,if_pos ⟨hq,h⟩]
  ·rw[if_neg h,if_neg (fun e=>h e.2)])
 have h1:1≤c.size:=h0;have h1i:(1:Int)≤(c.size:Int):=by omega
 have h0i:(0:Int)<(c.size:Int):=by omega
 have HZ0:Hid (ZM (w.alloc (.cells #[.int .i64 0,.int .i64 0,.string ⟨#[]⟩,.int .i64 0,.string ⟨#[]⟩,.string ⟨#[]⟩,.string ⟨#[]⟩,.string ⟨#[]⟩,.string ⟨#[]⟩,.slice none 0 0,.slice none 0 0] 74)) w.heap.size):=aen (ae.new w _ _);have HB0:=aen (hB.out #[.int .i64 0,.int .i64 0,.string ⟨#[]⟩,.int .i64 0,.string ⟨#[]⟩,.string ⟨#[]⟩,.string ⟨#[]⟩,.string ⟨#[]⟩,.string ⟨#[]⟩,.slice none 0 0,.slice none 0 0] 74 (0,0));have hcase:(((bt c 0:Nat):Int) != 45)=false∨((((bt c 0:Nat):Int) != 45)=true∧(((bt c 0:Nat):Int) != 42)=false)∨((((bt c 0:Nat):Int) != 45)=true∧(((bt c 0:Nat):Int) != 42)=true∧(((bt c 0:Nat):Int) != 95)=false):=by
  rcases hq with h|h|h
  ·left;rw[h];rfl
  ·right;left;rw[h];exact⟨rfl,rfl⟩
  ·right;right;rw[h];exact⟨rfl,rfl,rfl⟩
 clear HR hq;obtain⟨q0,hq0⟩:∃q0,q0=bt c 0:=⟨_,rfl⟩;have TL:=aen hq0;clear hq0;rcases hcase with z1|⟨z1,z2⟩|⟨z1,z2,z3⟩;all_goals
  go_enter Tryz.func125,Tryz.ntmps125;go_wp2_with fail;go_loopw [3,4] (fun p m wr=>∃k q:Nat,p=.int .i64 q∧m=.int .i64 k∧k≤c.size∧q≤k∧Hid (q=kY c k)∧Hid (∀j,j<k→lT c j=true)∧Hid (ZM wr w.heap.size)∧Hid (Below w.heap.size w wr)) (fun p m wr=>c.size - (intOf m).toNat);case atStart=>exact⟨0,0,rfl,rfl,Nat.zero_le _,aeo _,aen rfl,aen (fun j hj=>absurd hj (Nat.not_lt_zero j)),HZ0,HB0⟩
  case round=>
   obtain⟨k,q,rfl,rfl,hks,hqk,Hq,lM,iG,jZ⟩:=hrel;clear HZ0 HB0 hB z1;have HZ:=iG.out;obtain⟨k0,k1,k2,k3,k4,k5,k6,k7,k8,k9,k10,v0,v1,v2,v3,v4,v5,v6,v7,v8,v9,v10⟩:=ZM.facts HZ;by_cases hlt:k<c.size
   ·have hgk:=get_bt c k hlt;have hki:(k:Int)<(c.size:Int):=by omega
    have hstep:=acg c k;by_cases he:bt c k=bt c 0
    ·have HN:Hid (q+1=kY c (k+1)):=aen (by rw[hstep,if_pos he,Hq.out]);have HA:Hid (∀j,j<k+1→lT c j=true):=aen (by
      intro j hj;by_cases h:j<k
      ·exact lM.out j h
      ·obtain rfl:j=k:=by omega
       unfold lT;rw[he,beq_self_eq_true];rfl)
     have y1:(((c[k].toNat:Nat):Int)==((bt c 0:Nat):Int))=true:=by rw[hgk,he,beq_self_eq_true]
     clear hstep he hgk Hq lM;go_wp2_with fail;go_quiet (fail);go_wp2_with fail;go_roundw;case rel=>exact⟨k+1,q+1,by go_num,by go_num,by omega,by omega,HN,HA,aen (ae.drewN iG.out _),aen (below_drewN jZ.out _)⟩
     case measure=>simp[intOf];omega
    ·have HN:Hid (q=kY c (k+1)):=aen (by rw[hstep,if_neg he,Hq.out];rfl);have y1:(((c[k].toNat:Nat):Int)==((bt c 0:Nat):Int))=false:=by rw[hgk,aes];omega
     by_cases h32:bt c k=32
     ·have HA:Hid (∀j,j<k+1→lT c j=true):=aen (by
       intro j hj;by_cases h:j<k
       ·exact lM.out j h
       ·obtain rfl:j=k:=by omega
        unfold lT;rw[h32];simp)
      have y2:(((c[k].toNat:Nat):Int) != 32)=false:=by rw[hgk,h32];rfl
      clear hstep he hgk Hq lM h32;go_wp2_with fail;go_quiet (fail);go_wp2_with fail;go_roundw;case rel=>exact⟨k+1,q,by go_num,by go_num,by omega,by omega,HN,HA,aen (ae.drewN iG.out _),aen (below_drewN jZ.out _)⟩
      case measure=>simp[intOf];omega
     ·have HF:Hid (R=none):=aen (by
       rw[HR2.out,if_neg];intro e;have:=(TK c).1 e k hlt;unfold lT at this;rw[beq_eq_false_iff_ne.2 he,beq_eq_false_iff_ne.2 h32] at this;cases this)
      have y2:(((c[k].toNat:Nat):Int) != 32)=true:=by rw[hgk,aeB];omega
      clear hstep he hgk Hq lM h32 HN HR2;go_wp2_with fail;go_quiet (fail);go_wp2_with fail;exact Fh (ax (ae.drewN iG.out _) _ _ _ _ _ _ _ _ _ _ _) rfl rfl (gz HF.out (au (below_drewN jZ.out _) (aeo _) _ _ _ _ _ _ _ _ _ _ _))
   ·obtain rfl:k=c.size:=by omega
    have HA:Hid (qm c=true):=aen ((TK c).2 lM.out);by_cases h3:q<3
    ·have HF:Hid (R=none):=aen (by rw[HR2.out,if_pos HA.out,←Hq.out,aep (by omega)];rfl);have d1:decide ((q:Int)<3)=true:=aeq (by omega);have d2:decide (q<3)=true:=aeq h3;clear Hq lM HA HR2;go_wp2_with fail;exact Fh (ax HZ _ _ _ _ _ _ _ _ _ _ _) rfl rfl (gz HF.out (au jZ.out (aeo _) _ _ _ _ _ _ _ _ _ _ _))
    ·have HF:Hid (R=some {kind:=3,ch:=c.extract 0 1}):=aen (by rw[HR2.out,if_pos HA.out,←Hq.out,aeq (by omega)];rfl);have d1:decide ((q:Int)<3)=false:=aep (by omega);have d2:decide (q<3)=false:=aep h3;clear Hq lM HA HR2;go_wp2_with fail;exact Fh (ax HZ _ _ _ _ _ _ _ _ _ _ _) rfl rfl (rY (m:={kind:=3,ch:=c.extract 0 1}) HF.out rfl (au jZ.out (aeo _) _ _ _ _ _ _ _ _ _ _ _))
end Go.Proofs.YtpoafhgbhnblmaaGreatDoor
