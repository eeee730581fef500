import Derived.Test.YtppefchjoodgnaaGreatPQ01
import Derived.Deep.DeepCutAuto
set_option linter.unusedSimpArgs false
set_option linter.unusedVariables false
namespace Go.Proofs.YtppefchjoodgnaaGreat
open Go.RowKit
theorem zK {α:Type}{xs:List α}{k:Nat}(h:k < xs.length):∃ x,xs[k]?=some x:=⟨xs[k],List.getElem?_eq_getElem h⟩
theorem sized_cases (n:Int):n=1∨n=2∨n=4∨n=8∨((n == 1)=false∧(n == 2)=false∧(n == 4)=false∧(n == 8)=false):=by
 simp only[beq_eq_false_iff_ne,ne_eq];omega
set_option maxHeartbeats 400000 in
theorem gH (n:Int)(w:World):Calls Tryz.prog 124 #[.int .i64 n] w fun e w'=>e=.returned (.bool (vU n))∧w'=w:=by
 rcases sized_cases n with rfl|rfl|rfl|rfl|⟨h1,h2,h4,h8⟩
 all_goals
  go_enter Tryz.func124,Tryz.ntmps124
  go_wp2
  go_returns
  exact⟨yS (by simp[vU, *]),rfl⟩
def IdxAns (xs:List Bool)(w:World)(e:Ending)(w':World):Prop:=∃ i:Int,e=.returned (.int .i64 i)∧w'=w∧(decide (0≤i)=xs.contains false)
set_option maxHeartbeats 400000 in
theorem index_bool (v:Value)(xs:List Bool)(w:World)(h:Rd w 1 (fun x=>[Value.bool x]) v xs):
  Calls Tryz.prog 213 #[v,.bool false] w (IdxAns xs w):=by
 obtain⟨a,n,c,rfl,hn,hN⟩:=h.val
 have HV:=η h
 clear h
 go_enter Tryz.func213,Tryz.ntmps213
 go_wp2
 go_loop [8] (fun i=>∃ k:Nat,k≤n∧i=.int .i64 k∧Hid ((xs.take k).contains false=false)) (fun i=>n - (intOf i).toNat)
 case atStart=>exact⟨0,Nat.zero_le _,rfl,η rfl⟩
 case round =>
  obtain⟨k,hk,rfl,HK⟩:=hrel
  by_cases hlt:k < n
  ·obtain⟨x,hx⟩:=zK (xs:=xs) (k:=k) (by have:=hN.out;omega)
   have ia:=fun W=>HV.out.run_at (P:=Tryz.prog) el_bool.under el_bool.size .i64 (k:Int) (by omega) (by omega) W
   have ca:=HV.out.cell hx (j:=0) rfl
   simp only[Nat.mul_one,Nat.add_zero,Int.toNat_natCast]at ia ca
   have HX:=η hx
   clear hx
   cases x with
   | false =>
    go_wp2
    go_returns
    refine⟨k,rfl,rfl,?_⟩
    have:false∈xs:=List.mem_of_getElem? HX.out
    simp[this]
   | true =>
    go_wp2
    go_round
    case rel=>exact⟨k+1,by omega,by go_num,η (by rw[List.take_add_one,HX.out];have:=HK.out;simp_all)⟩
    case measure=>simp[intOf];omega
  ·go_wp2
   go_returns
   refine⟨-1,rfl,rfl,?_⟩
   have h:=HK.out
   rw[List.take_of_length_le (by have:=hN.out;omega)]at h
   rw[h];rfl
set_option maxHeartbeats 400000 in
theorem contains_bool (v:Value)(xs:List Bool)(w:World)(h:Rd w 1 (fun x=>[Value.bool x]) v xs):
  Calls Tryz.prog 195 #[v,.bool false] w fun e w'=>e=.returned (.bool (xs.contains false))∧w'=w:=by
 have HV:=η h
 clear h
 go_enter Tryz.func195,Tryz.ntmps195
 go_wp2_with fail
 refine(index_bool v xs _ HV.out).mono ?_
 rintro e w' ⟨i,rfl,rfl,hi⟩
 have HI:=η hi
 clear hi
 go_wp2_with fail
 go_returns
 exact⟨yS HI.out,rfl⟩
def CloneAns {α:Type}(e:TypeId)(sz:Nat)(enc:α→List Value)(xs:List α)(w:World)(r:Ending)(w':World):Prop :=
 ∃ v',r=.returned v'∧Own w' w.heap.size e sz enc v' xs∧Ext w w'
set_option maxHeartbeats 400000 in
theorem clone_u8 (v:Value)(xs:List Int)(w:World)(h:Rd w 1 (fun x=>[Value.int .u8 x]) v xs)(hb:xs.length * 1≤140737488355328):
  Calls Tryz.prog 55 #[v] w (CloneAns 5 1 (fun x=>[Value.int .u8 x]) xs w):=by
 obtain⟨a,n,c,rfl,hn,hN⟩:=h.val
 have hnil:=fun W=>h.run_nil (P:=Tryz.prog) Tryz.underlying23 W
 have HS:=η h
 cases a with
 | none =>
  obtain⟨rfl,rfl,rfl⟩:=h.of_isNil
  clear h
  go_enter Tryz.func55,Tryz.ntmps55
  go_wp2
  go_ret
  exact⟨_,rfl,Own.nil _ _ _ _ _,Below.refl _ _⟩
 | some a =>
  clear h
  simp only[isNilV]at hnil
  go_enter Tryz.func55,Tryz.ntmps55
  go_wp2_with (at_builtin;refine xM el_u8 (zG .u8) rfl _ _ rfl rfl (Own.made w w.heap.size _ _ _ rfl (Nat.le_refl _)) rfl (ys:=xs) ?q1 ?q2 ?q3 ?q4)
  case q1=>exact HS.out.ext (by go_grown)
  case q2=>exact⟨by simpa using hb,by simp;omega⟩
  case q3=>simp
  intro v' w1 hown hgrow hbel
  go_wp2
  go_ret
  exact⟨v',rfl,by simpa using hown,hbel _ _ (by go_grown) (Nat.le_refl _)⟩
def ReadAns (M:Areas)(p s:Int)(w:World)(e:Ending)(w':World):Prop :=
 ∃ v,e=.returned (.tuple #[v,.int .i64 (yK M p s).2])∧Own w' w.heap.size 5 1 (fun x=>[Value.int .u8 x]) v (yK M p s).1∧Ext w w'
theorem read_bad {M:Areas}{p s:Int}(h:s < 0∨1024 < s):yK M p s=([],1):=by rw[yK,if_pos h]
theorem gD {M:Areas}{p s:Int}(h:¬ (s < 0∨1024 < s))(hf:kS M p s=none):yK M p s=([],80):=by rw[yK,if_neg h,hf]
theorem vJ {M:Areas}{p s:Int}{A:Ar}{o:Nat}(h:¬ (s < 0∨1024 < s))(hf:kS M p s=some (A,o))(hc:(cutL A.put o s.toNat).contains false=true):yK M p s=([],81):=by
 rw[yK,if_neg h,hf];simp only[hc,if_true]
theorem tZ {M:Areas}{p s:Int}{A:Ar}{o:Nat}(h:¬ (s < 0∨1024 < s))(hf:kS M p s=some (A,o))(hc:(cutL A.put o s.toNat).contains false=false):yK M p s=(cutL A.bytes o s.toNat,0):=by
 rw[yK,if_neg h,hf];simp only[hc,Bool.false_eq_true,if_false]
theorem tY {M:Areas}{p s:Int}{A:Ar}{o:Nat}(hp:0≤p)(hs:0≤s)(hf:kS M p s=some (A,o)):o+s.toNat≤A.bytes.length∧(o:Int)=p%4294967296:=by
 unfold kS at hf
 split at hf
 ·cases hf
 ·rename_i B hB
  split at hf
  ·cases hf
  ·rename_i hlt
   simp only[Option.some.injEq,Prod.mk.injEq]at hf
   obtain⟨rfl,rfl⟩:=hf
   omega
set_option maxHeartbeats 1000000 in
theorem mem_read (b r:Nat)(L:List Rec)(p s:Int)(w:World)(h:MemAt w b r L)(hp:0≤p)(H:Hid (p≤18446744073709551615)):
  Calls Tryz.prog 170 #[.pointer (some ⟨b,0,none⟩),.int .u64 p,.int .i64 s] w (ReadAns (view L) p s w):=by
 have HM:=η h
 clear h
 by_cases hbad:s < 0∨1024 < s
 ·have e1:=read_bad (M:=view L) (p:=p) hbad
  have E1:=η e1
  clear e1
  rcases hbad with hs|hs
  all_goals
   go_enter Tryz.func170,Tryz.ntmps170
   go_wp2_with fail
   go_returns
   exact⟨.slice none 0 0,by rw[E1.out];rfl,by rw[E1.out];exact Own.nil _ _ _ _ _,by (repeat (first|exact xE0 _|assumption|refine xE1 ?_ _|refine xE2 ?_|refine xE3 ?_ _|refine xE4 ?_ (by assumption)))⟩
 ·have HB:=η hbad
  have hs0:0≤s:=by omega
  have hs1:s≤1024:=by omega
  clear hbad
  go_enter Tryz.func170,Tryz.ntmps170
  go_wp2_with fail
  refine(mem_find b r L p s _ HM.out hp hs0 hs1 H).mono ?_
  rintro e w1 ⟨rfl,⟨hf,rfl⟩|⟨x,hx,hxn,hf,rfl⟩⟩
  ·have HF:=η hf
   clear hf
   go_wp2_with fail
   go_returns
   exact⟨.slice none 0 0,by rw[gD HB.out HF.out];rfl,by rw[gD HB.out HF.out];exact Own.nil _ _ _ _ _,by (repeat (first|exact xE0 _|assumption|refine xE1 ?_ _|refine xE2 ?_|refine xE3 ?_ _|refine xE4 ?_ (by assumption)))⟩
  ·have HF:=η hf
   have hR:=HM.out.recs x hx
   have c0:=cO (i:=0) hR.area
   have c1:=cO (i:=1) hR.area
   obtain⟨hle,hoo⟩:=tY hp hs0 hf
   have hsm:=hR.small
   have OB:Hid (Own w1 0 5 1 (fun x=>[Value.int .u8 x]) (.slice (some ⟨x.g,0,none⟩) x.A.bytes.length x.A.bytes.length) x.A.bytes):=η (own_obj (zG .u8) hR.bytes (Nat.zero_le _) rfl (by simp only[maxLen];omega))
   have OP:Hid (Own w1 0 4 1 (fun x=>[Value.bool x]) (.slice (some ⟨x.p,0,none⟩) x.A.bytes.length x.A.bytes.length) x.A.put):=η (own_obj xU hR.put (Nat.zero_le _) hR.len.symm (by have:=hR.len;simp only[maxLen];omega))
   have RB:=η (OB.out.rd (zG _))
   have RP:=η (OP.out.rd xU)
   have HL:=η hR.len
   clear hf hx hxn hR OB OP
   obtain⟨o,ho⟩:∃ o:Nat,(p%4294967296).toNat=o:=⟨_,rfl⟩
   rw[ho]at hle hoo HF
   rw[← hoo]
   clear ho hoo
   have kb:=fun W=>RB.out.run_cut_lh (P:=Tryz.prog) el_u8.under el_u8.size .i64 .i64 (o:Int) ((o:Int)+s) (by omega) (by omega) (by omega) W
   have kp:=fun W=>RP.out.run_cut_lh (P:=Tryz.prog) el_bool.under el_bool.size .i64 .i64 (o:Int) ((o:Int)+s) (by omega) (by omega) (by omega) W
   have CB:=η (RB.out.cut (l:=o) (m:=o+s.toNat) (by omega) hle)
   have CP:=η (RP.out.cut (l:=o) (m:=o+s.toNat) (by omega) (by rw[HL.out];exact hle))
   simp only[Int.toNat_natCast,show ((o:Int)+s).toNat=o+s.toNat from by omega]at kb kp
   simp only[show o+s.toNat - o=s.toNat from by omega]at CB CP
   go_wp2_with fail
   refine(contains_bool _ (cutL x.A.put o s.toNat) _ CP.out).mono ?_
   rintro e w2 ⟨rfl,rfl⟩
   cases hc:(cutL x.A.put o s.toNat).contains false with
   | true =>
    have HC:=η hc
    clear hc
    go_wp2_with fail
    go_returns
    exact⟨.slice none 0 0,by rw[vJ HB.out HF.out HC.out];rfl,by rw[vJ HB.out HF.out HC.out];exact Own.nil _ _ _ _ _,by (repeat (first|exact xE0 _|assumption|refine xE1 ?_ _|refine xE2 ?_|refine xE3 ?_ _|refine xE4 ?_ (by assumption)))⟩
   | false =>
    have HC:=η hc
    clear hc
    go_wp2_with fail
    refine(clone_u8 _ (cutL x.A.bytes o s.toNat) _ CB.out (by simp only[cutL,List.length_take,List.length_drop];omega)).mono ?_
    rintro e w3 ⟨v,rfl,hv,he⟩
    have HV:=η hv
    clear hv
    go_wp2_with fail
    go_returns
    exact⟨v,by rw[tZ HB.out HF.out HC.out];rfl,by rw[tZ HB.out HF.out HC.out];exact HV.out,by (repeat (first|exact xE0 _|assumption|refine xE1 ?_ _|refine xE2 ?_|refine xE3 ?_ _|refine xE4 ?_ (by assumption)))⟩
theorem lookup_mem {α:Type}{L:List (Int×α)}{k:Int}{x:α}(h:L.lookup k=some x):∃ n,(n,x)∈L:=by
 induction L with
 | nil=>simp at h
 | cons y L ih =>
  by_cases e:k == y.1
  ·simp[List.lookup,e]at h
   exact⟨y.1,by rw[← h];exact List.mem_cons_self⟩
  ·simp[List.lookup,e]at h
   obtain⟨n,hn⟩:=ih h
   exact⟨n,List.mem_cons_of_mem _ hn⟩
theorem le_snoc (l:List Int)(x:Int):le (l++[x])=le l+256 ^ l.length * x:=by
 induction l with
 | nil=>simp[le]
 | cons y l ih=>simp only[List.cons_append,le,ih,List.length_cons,Int.pow_succ];rw[Int.mul_add,Int.add_assoc];congr 2;rw[Int.mul_comm (256 ^ l.length) 256,Int.mul_assoc]
theorem le_step {l:List Int}{k:Nat}{x:Int}(hx:l[k]?=some x):le (l.take (k+1))=le (l.take k)+256 ^ k * x:=by
 have hk:k < l.length:=(List.getElem?_eq_some_iff.1 hx).1
 rw[List.take_add_one,hx]
 simp only[Option.toList_some]
 rw[le_snoc,List.length_take,Nat.min_eq_left (by omega)]
theorem le_lt (l:List Int)(h:∀ x∈l,0≤x∧x≤255):0≤le l∧le l < 256 ^ l.length:=by
 induction l with
 | nil=>simp[le]
 | cons y l ih =>
  have h1:=h y List.mem_cons_self
  have h2:=ih (fun x hx=>h x (List.mem_cons_of_mem _ hx))
  simp only[le,List.length_cons,Int.pow_succ]
  omega
theorem or_high (n x:Int)(k:Nat)(hk:k≤7)(hn:0≤n∧n < 256 ^ k)(hx:0≤x∧x≤255):bits .or .u64 n (IntKind.u64.wrap (x * 2 ^ (8 * k)))=n+256 ^ k * x:=by
 obtain⟨a,rfl⟩:=Int.eq_ofNat_of_zero_le hn.1
 obtain⟨c,rfl⟩:=Int.eq_ofNat_of_zero_le hx.1
 have hp:(2:Nat) ^ (8 * k)=256 ^ k:=by rw[Nat.pow_mul]
 have ha:a < 2 ^ (8 * k):=by rw[hp];have h:=hn.2;have e:((256 ^ k:Nat):Int)=(256:Int) ^ k:=Int.natCast_pow 256 k;rw[← e]at h;exact Int.ofNat_lt.1 h
 have hc:c≤255:=by omega
 have hP:2 ^ (8 * k)≤72057594037927936:=by
  calc 2 ^ (8 * k)≤2 ^ 56:=Nat.pow_le_pow_right (by decide) (by omega)
   _=72057594037927936:=by decide
 have hb:2 ^ (8 * k) * c≤72057594037927936 * 255:=Nat.mul_le_mul hP hc
 have e1:IntKind.u64.wrap ((c:Int) * 2 ^ (8 * k))=((2 ^ (8 * k) * c:Nat):Int):=by
  rw[IntKind.wrap_u64]
  have:(c:Int) * 2 ^ (8 * k)=((2 ^ (8 * k) * c:Nat):Int):=by rw[Int.natCast_mul,Int.natCast_pow,Int.mul_comm];rfl
  rw[this];omega
 rw[e1,bits_or_u64_nat a _ (by omega) (by omega),Nat.or_comm,← Nat.two_pow_add_eq_or_of_lt ha c,hp]
 rw[Int.natCast_add,Int.natCast_mul,Int.natCast_pow,Int.add_comm]
 rfl
theorem mread_u8 {M:Areas}(hM:∀ q∈M,∀ x∈q.2.bytes,0≤x∧x≤255)(p s:Int):(∀ x∈(yK M p s).1,0≤x∧x≤255)∧(yK M p s).1.length≤s.toNat:=by
 unfold yK
 split
 ·simp
 ·split
  ·simp
  ·rename_i A o hf
   split
   ·simp
   ·have hA:∃ n,(n,A)∈M:=by
     unfold kS at hf
     split at hf
     ·cases hf
     ·rename_i B hB
      split at hf
      ·cases hf
      ·simp only[Option.some.injEq,Prod.mk.injEq]at hf
       obtain⟨rfl,_⟩:=hf
       exact lookup_mem hB
    obtain⟨n,hn⟩:=hA
    refine⟨fun x hx=>hM _ hn x (List.mem_of_mem_drop (List.mem_of_mem_take hx)),?_⟩
    simp only[cutL,List.length_take];omega
theorem MemAt.u8 {w:World}{b r:Nat}{L:List Rec}(h:MemAt w b r L):∀ q∈view L,∀ x∈q.2.bytes,0≤x∧x≤255:=by
 intro q hq x hx
 obtain⟨y,hy,rfl⟩:=List.mem_map.1 hq
 exact(h.recs y hy).u8 x hx
def LoadAns (M:Areas)(p s:Int)(w:World)(e:Ending)(w':World):Prop :=
 e=.returned (.tuple #[.int .u64 (kE M p s).1,.int .i64 (kE M p s).2])∧Ext w w'
set_option maxHeartbeats 1000000 in
theorem mem_load (b r:Nat)(L:List Rec)(p s:Int)(w:World)(h:MemAt w b r L)(hp:0≤p)(H:Hid (p≤18446744073709551615)):
  Calls Tryz.prog 128 #[.pointer (some ⟨b,0,none⟩),.int .u64 p,.int .i64 s] w (LoadAns (view L) p s w):=by
 have HM:=η h
 clear h
 cases hz:vU s with
 | false =>
  have HZ:=η hz
  clear hz
  go_enter Tryz.func128,Tryz.ntmps128
  go_wp2_with fail
  refine(gH s _).mono ?_
  rintro e w1 ⟨rfl,rfl⟩
  rw[HZ.out]
  go_wp2_with fail
  go_returns
  exact⟨by simp[kE,HZ.out],by (repeat (first|exact xE0 _|assumption|refine xE1 ?_ _|refine xE2 ?_|refine xE3 ?_ _|refine xE4 ?_ (by assumption)))⟩
 | true =>
  have HZ:=η hz
  clear hz
  go_enter Tryz.func128,Tryz.ntmps128
  go_wp2_with fail
  refine(gH s _).mono ?_
  rintro e w1 ⟨rfl,rfl⟩
  rw[HZ.out]
  go_wp2_with fail
  refine(mem_read b r L p s _ HM.out hp H).mono ?_
  rintro e w2 ⟨v,rfl,hv,he⟩
  have RV:=η (hv.rd (zG _))
  have HU:=η (mread_u8 HM.out.u8 p s)
  have HS:Hid (s.toNat≤8):=by
   have:=HZ.out
   simp only[vU,Bool.or_eq_true,beq_iff_eq]at this
   show _≤_;omega
  clear hv
  obtain⟨va,vn,vc,rfl,hvn,hVN⟩:=RV.out.val
  go_wp2_with fail
  go_loop [29,10] (fun i n=>∃ k:Nat,k≤vn∧i=.int .i64 k∧n=.int .u64 (le ((yK (view L) p s).1.take k))) (fun i _=>vn - (intOf i).toNat)
  case atStart=>exact⟨0,Nat.zero_le _,rfl,rfl⟩
  case round =>
   obtain⟨k,hk,rfl,rfl⟩:=hrel
   by_cases hlt:k < vn
   ·obtain⟨x,hx⟩:=zK (xs:=(yK (view L) p s).1) (k:=k) (by have:=hVN.out;omega)
    have ia:=fun W=>RV.out.run_at (P:=Tryz.prog) el_u8.under el_u8.size .i64 (k:Int) (by omega) (by omega) W
    have ca:=RV.out.cell hx (j:=0) rfl
    simp only[Nat.mul_one,Nat.add_zero,Int.toNat_natCast]at ia ca
    have HX:=η hx
    clear hx
    have hx0:0≤x:=(HU.out.1 x (List.mem_of_getElem? HX.out)).1
    have hx1:x≤255:=(HU.out.1 x (List.mem_of_getElem? HX.out)).2
    have hk7:k≤7:=by have h1:=HU.out.2;have h2:=HS.out;have h3:=hVN.out;omega
    have hb:=le_lt ((yK (view L) p s).1.take k) (fun x hx=>HU.out.1 x (List.mem_of_mem_take hx))
    rw[List.length_take,Nat.min_eq_left (by have:=hVN.out;omega)]at hb
    have HO:=η (or_high _ x k hk7 hb ⟨hx0,hx1⟩)
    have hb0:=hb.1
    clear hb
    go_wp2
    go_round
    case rel=>exact⟨k+1,by omega,by go_num,by rw[HO.out,le_step HX.out]⟩
    case measure=>simp[intOf];omega
   ·go_wp2
    go_returns
    refine⟨?_,by (repeat (first|exact xE0 _|assumption|refine xE1 ?_ _|refine xE2 ?_|refine xE3 ?_ _|refine xE4 ?_ (by assumption)))⟩
    have e1:(yK (view L) p s).1.take k=(yK (view L) p s).1:=List.take_of_length_le (by have:=hVN.out;omega)
    simp only[kE,HZ.out,if_true]
    rw[← e1];simp[e1]
theorem jG (n:Int)(k:Nat):(zY n k).length=k:=by
 induction k generalizing n with
 | zero=>rfl
 | succ k ih=>simp[zY,ih]
theorem qR (n:Int)(k:Nat):zY n (k+1)=zY n k++[n / 256 ^ k%256]:=by
 induction k generalizing n with
 | zero=>simp[zY]
 | succ k ih =>
  rw[zY,ih (n / 256),zY,List.cons_append]
  congr 3
  rw[Int.ediv_ediv_of_nonneg (by decide),Int.pow_succ,Int.mul_comm]
theorem tQ (n:Int)(k:Nat):∀ x∈zY n k,0≤x∧x≤255:=by
 induction k generalizing n with
 | zero=>simp[zY]
 | succ k ih =>
  intro x hx
  simp only[zY,List.mem_cons]at hx
  rcases hx with rfl|hx
  ·omega
  ·exact ih _ x hx
theorem jA {α:Type}(l s:List α)(o:Nat)(h:o+s.length≤l.length):(over l o s).length=l.length:=by simp[over];omega
theorem pJ {α:Type}(l:List α)(o:Nat):over l o []=l:=by simp[over]
theorem over_at {α:Type}(l s:List α)(o i:Nat)(h:o+s.length≤l.length):(over l o s)[i]?=if i < o then l[i]? else if i < o+s.length then s[i - o]? else l[i]?:=by
 have h1:(l.take o).length=o:=by rw[List.length_take];omega
 unfold over
 rw[List.append_assoc,List.getElem?_append,h1]
 by_cases a1:i < o
 ·rw[if_pos a1,if_pos a1,List.getElem?_take_of_lt a1]
 ·rw[if_neg a1,if_neg a1,List.getElem?_append]
  by_cases a2:i < o+s.length
  ·rw[if_pos a2,if_pos (by omega)]
  ·rw[if_neg a2,if_neg (by omega),List.getElem?_drop]
   congr 1;omega
theorem uT {α:Type}(l s:List α)(o:Nat)(y:α)(h:o+s.length < l.length):over l o (s++[y])=(over l o s).set (o+s.length) y:=by
 apply List.ext_getElem?
 intro i
 rw[over_at l _ o i (by simp;omega),List.getElem?_set,over_at l s o i (by omega),jA l s o (by omega)]
 simp only[List.length_append,List.length_singleton]
 by_cases a1:i < o
 ·rw[if_pos a1,if_neg (by omega),if_pos a1]
 ·by_cases a2:i < o+s.length
  ·rw[if_neg a1,if_pos (by omega),if_neg (by omega),if_neg a1,if_pos a2,List.getElem?_append_left (by omega)]
  ·by_cases a3:o+s.length=i
   ·rw[if_neg a1,if_pos (by omega),if_pos a3,if_pos (by omega),List.getElem?_append_right (by omega),show i - o - s.length=0 from by omega];rfl
   ·rw[if_neg a1,if_neg (by omega),if_neg a3,if_neg a1,if_neg a2]
theorem flat_set {α:Type}(f:α→Value)(l:List α)(i:Nat)(y:α):((l.set i y).flatMap fun x=>[f x]).toArray=((l.flatMap fun x=>[f x]).toArray).setIfInBounds i (f y):=by
 rw[qJ,qJ,List.map_set];simp
theorem flat_get {α:Type}(f:α→Value)(l:List α)(i:Nat)(y:α)(h:l[i]?=some y):(l.flatMap fun x=>[f x]).toArray[i]?=some (f y):=by
 rw[qJ];simp[h]
theorem store_step {wr:World}{g p o k:Nat}{n:Int}{B:List Int}{P:List Bool}(hgp:g≠p)(hb:o+k < B.length)(hp:P.length=B.length)
  (HG:wr.heap[g]?=some (.cells ((over B o (zY n k)).flatMap fun x=>[Value.int .u8 x]).toArray 5 (0,0)))
  (HP:wr.heap[p]?=some (.cells ((over P o ((zY n k).map fun _=>true)).flatMap fun x=>[Value.bool x]).toArray 4 (0,0))) :
  ((wr.setCell ⟨g,o+k,none⟩ (.int .u8 (n / 2 ^ (8 * k)%256))).setCell ⟨p,o+k,none⟩ (.bool true)).heap[g]?=some (.cells ((over B o (zY n (k+1))).flatMap fun x=>[Value.int .u8 x]).toArray 5 (0,0)) ∧
  ((wr.setCell ⟨g,o+k,none⟩ (.int .u8 (n / 2 ^ (8 * k)%256))).setCell ⟨p,o+k,none⟩ (.bool true)).heap[p]?=some (.cells ((over P o ((zY n (k+1)).map fun _=>true)).flatMap fun x=>[Value.bool x]).toArray 4 (0,0)):=by
 have e256:(2:Int) ^ (8 * k)=256 ^ k:=by rw[Int.pow_mul];rfl
 have hl:=jG n k
 constructor
 ·rw[heap_setCell_other _ _ _ _ (by simpa using hgp),heap_setCell_same wr g (o+k) _ _ _ HG,qR,uT _ _ _ _ (by omega),hl,flat_set,e256]
 ·have h2:(wr.setCell ⟨g,o+k,none⟩ (.int .u8 (n / 2 ^ (8 * k)%256))).heap[p]?=_:=(heap_setCell_other _ _ _ _ (by simpa using fun e=>hgp e.symm)).trans HP
  rw[heap_setCell_same _ p (o+k) _ _ _ h2,qR,List.map_append,List.map_singleton,uT _ _ _ _ (by rw[List.length_map];omega),List.length_map,hl,flat_set]
def StoreAns (b r:Nat)(L:List Rec)(p s n:Int)(w:World)(e:Ending)(w':World):Prop :=
 e=.returned (.int .i64 (yP (view L) p s n).2)∧Keep (foot b r L) w w'∧∃ L',MemAt w' b r L'∧view L'=(yP (view L) p s n).1∧foot b r L'=foot b r L
set_option maxHeartbeats 1000000 in
theorem mem_store (b r:Nat)(L:List Rec)(p s n:Int)(w:World)(h:MemAt w b r L)(hp:0≤p)(H:Hid (p≤18446744073709551615))(hn:0≤n):
  Calls Tryz.prog 89 #[.pointer (some ⟨b,0,none⟩),.int .u64 p,.int .i64 s,.int .u64 n] w (StoreAns b r L p s n w):=by
 have HM:=η h
 clear h
 cases hz:vU s with
 | false =>
  have HZ:=η hz
  clear hz
  go_enter Tryz.func89,Tryz.ntmps89
  go_wp2_with fail
  refine(gH s _).mono ?_
  rintro e w1 ⟨rfl,rfl⟩
  rw[HZ.out]
  go_wp2_with fail
  go_returns
  exact⟨by simp[yP,HZ.out],Keep.rfl' _ _,L,HM.out,by simp[yP,HZ.out],rfl⟩
 | true =>
  have HZ:=η hz
  have hs8:0≤s∧s≤8:=by
   have:=hz
   simp only[vU,Bool.or_eq_true,beq_iff_eq]at this
   omega
  clear hz
  go_enter Tryz.func89,Tryz.ntmps89
  go_wp2_with fail
  refine(gH s _).mono ?_
  rintro e w1 ⟨rfl,rfl⟩
  rw[HZ.out]
  go_wp2_with fail
  refine(mem_find b r L p s _ HM.out hp hs8.1 (by omega) H).mono ?_
  rintro e w1 ⟨rfl,⟨hf,rfl⟩|⟨x,hx,hxn,hf,rfl⟩⟩
  ·have HF:=η hf
   clear hf
   go_wp2_with fail
   go_returns
   exact⟨by simp[yP,HZ.out,HF.out],Keep.rfl' _ _,L,HM.out,by simp[yP,HZ.out,HF.out],rfl⟩
  ·have HF:=η hf
   have hR:=HM.out.recs x hx
   have c0:=cO (i:=0) hR.area
   have c1:=cO (i:=1) hR.area
   have c2:=cO (i:=2) hR.area
   obtain⟨hle,hoo⟩:=tY hp hs8.1 hf
   obtain⟨o,ho⟩:∃ o:Nat,(p%4294967296).toNat=o:=⟨_,rfl⟩
   rw[ho]at hle hoo HF
   rw[← hoo]
   clear ho hoo hf
   have hsm:=hR.small
   have hap:x.a ∉ [x.g,x.p]∧x.g≠x.p:=HM.out.rec_apart hx
   have hgp:=hap.2
   have HXN:=η hxn
   clear hxn
   cases hfx:x.A.fixed with
   | true =>
    have HFX:=η hfx
    go_wp2_with fail
    go_returns
    exact⟨by simp[yP,HZ.out,HF.out,HFX.out],Keep.rfl' _ _,L,HM.out,by simp[yP,HZ.out,HF.out,HFX.out],rfl⟩
   | false =>
    have HFX:=η hfx
    go_wp2_with fail
    clear hfx
    go_loopw [35] (fun i wr=>∃ k:Nat,k≤s.toNat∧i=.int .i64 k∧Keep [x.g,x.p] w1 wr∧Hid (wr.heap[x.g]?=some (.cells ((over x.A.bytes o (zY n k)).flatMap fun x=>[Value.int .u8 x]).toArray 5 (0,0)))∧Hid (wr.heap[x.p]?=some (.cells ((over x.A.put o ((zY n k).map fun _=>true)).flatMap fun x=>[Value.bool x]).toArray 4 (0,0)))) (fun i _=>s.toNat - (intOf i).toNat)
    case atStart=>exact⟨0,Nat.zero_le _,rfl,Keep.rfl' _ _,by simp only[zY,pJ];exact hR.bytes,by simp only[zY,List.map_nil,pJ];exact hR.put⟩
    case round =>
     obtain⟨k,hk,rfl,hK,HG,HP⟩:=hrel
     by_cases hlt:(k:Int) < s
     ·have d1:=hap.1
      have e0:=cO (i:=0) (hK.obj hR.area d1)
      have e1:=cO (i:=1) (hK.obj hR.area d1)
      obtain⟨y0,hy0⟩:=zK (xs:=over x.A.bytes o (zY n k)) (k:=o+k) (by rw[jA _ _ _ (by rw[jG];omega)];omega)
      obtain⟨y1,hy1⟩:=zK (xs:=over x.A.put o ((zY n k).map fun _=>true)) (k:=o+k) (by rw[jA _ _ _ (by rw[List.length_map,jG,hR.len];omega),hR.len];omega)
      have f0:=(cO (i:=o+k) HG.out).trans (flat_get _ _ _ _ hy0)
      have f1:=zA (i:=o+k) HG.out
      have f2:=(cO (i:=o+k) HP.out).trans (flat_get _ _ _ _ hy1)
      have f5:∀ v,(wr.setCell ⟨x.g,o+k,none⟩ v).cell? ⟨x.p,o+k,none⟩=some (.bool y1):=fun v=>by rw[World.cell?_setCell_other _ _ _ _ (fun e=>hgp (congrArg Addr.block e))];exact f2
      have f3:=zA (i:=o+k) HP.out
      have e3:(0:Int)≤(o:Int)+k:=by omega
      have e4:(o:Int)+k < (x.A.bytes.length:Int):=by omega
      have HST:=η (store_step hgp (by omega) hR.len HG.out HP.out)
      have HRl:=η hR.len
      clear c0 c1 c2 hy0 hy1
      simp only[gA,gB,gC]at e0 e1
      go_wp2_with fail
      go_region
      go_wp2
      go_roundw
      case rel=>exact⟨k+1,by omega,by go_num,((hK.setCell (by simp) _).setCell (by simp) _).drew,η HST.out.1,η HST.out.2⟩
      case measure=>simp[intOf];omega
     ·have hks:k=s.toNat:=by omega
      have HKS:=η hks
      clear hks c0 c1 c2
      go_wp2_with fail
      go_returns
      have eN:=HKS.out
      subst eN
      have hlb:=jG n s.toNat
      have hfoot:∀ j∈[x.g,x.p],j∈foot b r L:=by
       intro j hj
       simp only[foot,List.mem_cons]
       refine .inr (.inr (List.mem_flatMap.2 ⟨x,hx,?_⟩))
       simp only[List.mem_cons,List.not_mem_nil,or_false]at hj
       simp only[Rec.blocks,List.mem_cons,List.not_mem_nil,or_false]
       exact .inr hj
      have hu:∀ q∈over x.A.bytes o (zY n s.toNat),0≤q∧q≤255:=by
       intro q hq
       simp only[over,List.mem_append]at hq
       rcases hq with (hq|hq)|hq
       ·exact hR.u8 q (List.mem_of_mem_take hq)
       ·exact tQ _ _ q hq
       ·exact hR.u8 q (List.mem_of_mem_drop hq)
      refine⟨by simp[yP,HZ.out,HF.out,HFX.out],hK.mono (fun j hj=>.inl (hfoot j hj)),uL L x (x.A.write o (zY n s.toNat)),?_,?_,foot_upd _ _ _ _ _⟩
      ·exact HM.out.upd hx _ rfl (jA _ _ _ (by omega)) (by simp only[Ar.write];rw[jA _ _ _ (by rw[List.length_map,hR.len];omega),jA _ _ _ (by omega),hR.len]) hu hK HG.out HP.out
      ·rw[view_upd];simp[yP,HZ.out,HF.out,HFX.out,HXN.out]
section
variable {α:Type} {P:Program} {w:World} {ops:Array Oper} {rest:List Oper} {o:Oper} {a:Act} {Q:Exit→Act→World→Prop} {f:α→Value}
theorem copy_all (hgd:o.guard=none)(d s:Operand)(dT sT:TypeId)(ho:o.op=.call {callee:=.builtin .copy,args:=#[d,s],argTypes:=#[dT,sT]})(elem:TypeId)(hu:P.underlying dT=some (.slice elem))(hsz:(P.info? elem).map (·.size)=some 1)
  {g n c:Nat} (hd:a.eval d=.slice (some ⟨g,0,none⟩) n c) {y:Value} (hs:a.eval s=y) {cur:Array Value} {t:TypeId} (hg:w.heap[g]?=some (.cells cur t (0,0))) (hcur:cur.size=n) {ys:List α}
  (hy:Rd w 1 (fun x=>[f x]) y ys) (hn:ys.length=n) (h1:∀ x,(f x).oneCell'=true)
  (h:∀ w',Hid (w'.heap[g]?=some (.cells (ys.flatMap fun x=>[f x]).toArray t (0,0)))→Keep [g] w w'→wpList P ops Q rest (a.put o.dst (goInt n)) w'):wpList P ops Q (o :: rest) a w:=by
 refine wpList_plain hgd fun K hK=>?_
 obtain⟨ya,yc,rfl,h2,h3,h4,h5⟩:=hy
 by_cases hz:n=0
 ·subst hz
  have hys:ys=[]:=List.eq_nil_of_length_eq_zero hn
  subst hys
  have hrun:=run_copy_none (P:=P) w dT sT o.type elem (some ⟨g,0,none⟩) ya 0 c 0 yc hu hsz rfl
  unfold Oper.wp
  simp[execOp,ho,resolve,invoke,builtin,hd,hs,hrun,Result.andThen]
  have hc:cur=#[]:=Array.eq_empty_of_size_eq_zero hcur
  subst hc
  exact hK _ _ (h w (η hg) (Keep.rfl' _ _))
 ·cases ya with
  | none=>have:=(h4 rfl).1;subst this;simp at hn;omega
  | some ad =>
   have hrun:=run_copy_row (P:=P) w dT sT o.type elem g 0 n c ad ys.length yc cur t (ys.map f) hu hsz hg (by rw[List.length_map,hn];simp) (by
    intro j u hj
    rw[List.getElem?_map]at hj
    obtain⟨x,hx,rfl⟩:=Option.map_eq_some_iff.1 hj
    have:=h5 j x hx 0 (f x) rfl
    simpa[elt]using this) (by simp[hn,hcur]) (by
    intro u hu
    obtain⟨x,_,rfl⟩:=List.mem_map.1 hu
    exact h1 x)
   unfold Oper.wp
   simp[execOp,ho,resolve,invoke,builtin,hd,hs,hrun,Result.andThen]
   have e:(cur.toList.take 0++ys.map f++cur.toList.drop (0+(ys.map f).length)).toArray=(ys.flatMap fun x=>[f x]).toArray:=by
    rw[qJ,List.drop_eq_nil_of_le (by simp[hn,hcur])];simp
   have hw:∀ X:Array Value,X=(ys.flatMap fun x=>[f x]).toArray→K (a.put o.dst (goInt ys.length)) (w.setRow g X):=by
    intro X hX
    subst hX
    rw[hn]
    exact hK _ _ (h _ (η (setRow_heap w g cur _ t _ hg)) ⟨rfl,rfl,rfl,by simp[World.setRow],fun k _ hk=>setRow_other w g k _ (by simpa using hk)⟩)
   first
    | exact hw _ (by simpa using e)
    | (have:=hw _ e;simpa[hn]using this)
end
theorem size1:(Tryz.prog.info? 5).map (·.size)=some 1:=by kernel_rfl
theorem flat_made (n:Nat):((List.replicate n false).flatMap fun x=>[Value.bool x]).toArray=madeCells #[.bool false] n:=by
 apply Array.toList_inj.1
 rw[toList_madeCells_one,qJ,List.map_replicate]
theorem mark_at {vn k:Nat}{q:Bool}(h:k < vn):(over (List.replicate vn false) 0 (List.replicate k q))[0+k]?=some false:=by
 rw[over_at _ _ _ _ (by simp;omega)]
 simp[h]
theorem mark_step {wr:World}{p k vn:Nat}{q:Bool}(h:k < vn)(HP:wr.heap[p]?=some (.cells ((over (List.replicate vn false) 0 (List.replicate k q)).flatMap fun x=>[Value.bool x]).toArray 4 (0,0))):
  (wr.setCell ⟨p,k,none⟩ (.bool q)).heap[p]?=some (.cells ((over (List.replicate vn false) 0 (List.replicate (k+1) q)).flatMap fun x=>[Value.bool x]).toArray 4 (0,0)):=by
 rw[heap_setCell_same wr p k _ _ _ HP,← flat_set,show List.replicate (k+1) q=List.replicate k q++[q] from List.replicate_succ',uT _ _ _ _ (by simp;omega)]
 simp
theorem marks_full (q:Bool)(n:Nat):over (List.replicate n false) 0 (List.replicate n q)=List.replicate n q:=by simp[over]
def LaidNew (w:World)(n:Nat)(fixed:Bool)(v:Value)(wx:World):Prop :=
 ∃ a g p,v=.pointer (some ⟨a,0,none⟩)∧Ext w wx∧(w.heap.size≤a∧w.heap.size≤g∧w.heap.size≤p)∧(a≠g∧a≠p∧g≠p) ∧
  wx.heap[a]?=some (.cells #[.slice (some ⟨g,0,none⟩) n n,.slice (some ⟨p,0,none⟩) n n,.bool fixed] 151 (0,0)) ∧
  wx.heap[g]?=some (.cells (madeCells #[.int .u8 0] n) 5 (0,0))∧wx.heap[p]?=some (.cells (madeCells #[.bool false] n) 4 (0,0))
def MakeAns (b r:Nat)(L:List Rec)(n:Int)(xs:List Int)(blank fixed:Bool)(w:World)(e:Ending)(w':World):Prop :=
 e=.returned (.int .i64 (yG (view L) n xs blank fixed).2)∧Keep (foot b r L) w w'∧∃ L',MemAt w' b r L'∧view L'=(yG (view L) n xs blank fixed).1∧∀ k∈foot b r L',k∈foot b r L∨w.heap.size≤k
set_option maxRecDepth 20000 in
set_option maxHeartbeats 1000000 in
theorem mem_make (b r:Nat)(L:List Rec)(n:Int)(v:Value)(xs:List Int)(blank fixed:Bool)(w:World)(h:MemAt w b r L)(hv:Sl w .u8 v xs)(hu:∀ x∈xs,0≤x∧x≤255):
  Calls Tryz.prog 52 #[.pointer (some ⟨b,0,none⟩),.int .i64 n,v,.bool blank,.bool fixed] w (MakeAns b r L n xs blank fixed w):=by
 obtain⟨va,vn,vc,rfl,hvn,hVN⟩:=hv.val
 have HV:=η hv
 have HU:=η hu
 have HM:=η h
 have hb:=cO (i:=0) h.head
 have hlk:=(vE (P:=Tryz.prog) Tryz.underlying145 Tryz.underlying3 zero_area h.map n).2
 clear hv hu
 rcases pG L n with ⟨h1,h2⟩|⟨x,hx,hxn,h1,h2⟩
 case inr =>
  rw[h1]at hlk
  simp only[Option.getD_some,Option.isSome_some]at hlk
  have H2:=η h2
  clear h h1 h2
  go_enter Tryz.func52,Tryz.ntmps52
  go_wp2_with fail
  go_returns
  exact⟨by simp[yG,H2.out],Keep.rfl' _ _,L,HM.out,by simp[yG,H2.out],fun k hk=>.inl hk⟩
 rw[h1]at hlk
 simp only[Option.getD_none,Option.isSome_none]at hlk
 have H1:=η h1
 have H2:=η h2
 clear h h1 h2
 by_cases hbad:n < 1∨2147483647 < n
 ·have HB:=η hbad
  rcases hbad with hs|hs
  all_goals
   go_enter Tryz.func52,Tryz.ntmps52
   go_wp2_with fail
   go_returns
   have hc:(((view L).lookup n).isSome=true∨n < 1∨2147483647 < n):=.inr HB.out
   exact⟨by simp only[yG,hc,if_true];rfl,Keep.rfl' _ _,L,HM.out,by simp only[yG,hc,if_true],fun k hk=>.inl hk⟩
 have hn1:1≤n:=by omega
 have hn2:n≤2147483647:=by omega
 have hc:¬ (((view L).lookup n).isSome=true∨n < 1∨2147483647 < n):=by rw[H2.out];simp;omega
 have HC:=η hc
 clear hbad hc
 by_cases hlong:(1024:Int) < vn
 ·go_enter Tryz.func52,Tryz.ntmps52
  go_wp2_with fail
  go_returns
  have hl:1024 < xs.length:=by have:=hVN.out;omega
  exact⟨by simp only[yG,HC.out,hl,if_true,if_false];rfl,Keep.rfl' _ _,L,HM.out,by simp only[yG,HC.out,hl,if_true,if_false],fun k hk=>.inl hk⟩
 ·have hl:¬ 1024 < xs.length:=by have:=hVN.out;omega
  have HL:=η hl
  clear hl
  obtain⟨i0,hi0,hz0,hz1,hz2⟩:=info_parts el_u8.info
  obtain⟨i1,hi1,hy0,hy1,hy2⟩:=info_parts el_bool.info
  have hm1:∀ u:World,(Instr.makeSlice 23 (.int .i64 (vn:Int)) (.int .i64 (vn:Int))).run Tryz.prog u=.ok (.slice (some ⟨u.heap.size,0,none⟩) vn vn) (u.alloc (.cells (madeCells #[.int .u8 0] vn) 5)):=fun u=>by
   have h:=run_make (P:=Tryz.prog) u 23 5 i0 (.int .u8 0) el_u8.under hi0 hz0 .i64 .i64 (vn:Int) (vn:Int) (by omega) (Int.le_refl _) (by rw[hz2];omega) (by omega)
   simpa[hz1,Value.cells]using h
  have hm2:∀ u:World,(Instr.makeSlice 54 (.int .i64 (vn:Int)) (.int .i64 (vn:Int))).run Tryz.prog u=.ok (.slice (some ⟨u.heap.size,0,none⟩) vn vn) (u.alloc (.cells (madeCells #[.bool false] vn) 4)):=fun u=>by
   have h:=run_make (P:=Tryz.prog) u 54 4 i1 (.bool false) el_bool.under hi1 hy0 .i64 .i64 (vn:Int) (vn:Int) (by omega) (Int.le_refl _) (by rw[hy2];omega) (by omega)
   simpa[hy1,Value.cells]using h
  clear hi0 hz0 hz1 hz2 hi1 hy0 hy1 hy2
  go_enter Tryz.func52,Tryz.ntmps52
  go_upto_region 8 with fail
  go_cut [13] (fun v13 wx=>LaidNew w vn fixed v13 wx)
  case first =>
   go_region
   all_goals
    go_wp2_with fail
    go_meet
    first
     | exact⟨_,w.heap.size,w.heap.size+1,rfl,by (repeat (first|exact xE0 _|assumption|refine xE1 ?_ _|refine xE2 ?_|refine xE3 ?_ _|refine xE4 ?_ (by assumption))),by omega,by omega,zD _ _ (by simp),zB _ (zB _ (zD _ _ rfl)),zB _ (zD _ _ (by simp))⟩
     | exact⟨_,w.heap.size+1,w.heap.size,rfl,by (repeat (first|exact xE0 _|assumption|refine xE1 ?_ _|refine xE2 ?_|refine xE3 ?_ _|refine xE4 ?_ (by assumption))),by omega,by omega,zD _ _ (by simp),zB _ (zD _ _ (by simp)),zB _ (zB _ (zD _ _ rfl))⟩
  case rest =>
   obtain⟨a,g,p,rfl,hE,hfr,hap,ha,hg,hp⟩:=hcut
   have HG:=η hg
   have HP:=η hp
   have HA:=η ha
   obtain⟨c0,c1⟩:=κ2 ha
   clear hm1 hm2 hlk hb ha hg hp
   go_wp2_with (refine copy_all (o:=⟨some 54,_,_,_,_,_⟩) rfl (.tmp 52) (.tmp 53) 23 23 rfl 5 el_u8.under size1 rfl rfl HG.out (size_madeCells _ _) (ys:=xs) (f:=fun x=>Value.int .u8 x) ?q1 ?q2 ?q3 ?q4)
   case q1=>exact HV.out.ext hE
   case q2=>exact hVN.out.symm
   case q3=>exact fun x=>rfl
   intro w2 HG2 hk2
   have HA2:=η (hk2.obj HA.out (by simp;omega))
   have HP2:=η (hk2.obj HP.out (by simp;omega))
   have hE2:Ext w w2:=hk2.below hE hE.size (by simp;omega)
   obtain⟨d0,d1⟩:=κ2 HA2.out
   clear c0 c1 HG HP HA
   go_wp2_with fail
   go_loopw [60] (fun i wr=>∃ k:Nat,k≤vn∧i=.int .i64 k∧Keep [p] w2 wr∧Hid (wr.heap[p]?=some (.cells ((over (List.replicate vn false) 0 (List.replicate k (!blank))).flatMap fun x=>[Value.bool x]).toArray 4 (0,0)))) (fun i _=>vn - (intOf i).toNat)
   case atStart=>exact⟨0,Nat.zero_le _,rfl,Keep.rfl' _ _,by simp only[List.replicate_zero,pJ,flat_made];exact HP2.out⟩
   case round =>
    obtain⟨k,hk,rfl,hK,HP3⟩:=hrel
    have HA3:=η (hK.obj HA2.out (by simp;exact hap.2.1))
    have e1:=cO (i:=1) HA3.out
    simp only[gA,gB,gC]at e1
    by_cases hlt:(k:Int) < (vn:Int)
    ·have f2:=(cO (i:=0+k) HP3.out).trans (flat_get _ _ _ _ (mark_at (q:=!blank) (Int.ofNat_lt.1 hlt)))
     have f3:=zA (i:=0+k) HP3.out
     have e3:(0:Int)≤(k:Int):=by omega
     have HST:=η (mark_step (q:=!blank) (Int.ofNat_lt.1 hlt) HP3.out)
     clear d0 d1
     rw[Nat.zero_add]at f2 f3
     go_wp2_with fail
     go_roundw
     case rel=>exact⟨k+1,by omega,by go_num,hK.setCell (by simp) _,η HST.out⟩
     case measure=>simp[intOf];omega
    ·have hks:k=vn:=by omega
     have HKS:=η hks
     have hE3:Ext w wr:=hK.below hE2 hE2.size (by simp;omega)
     have HG3:=η (hK.obj HG2.out (by simp;exact hap.2.2))
     have HM3:MemAt wr b r L:=HM.out.ext hE3
     have hb3:=cO (i:=0) HM3.head
     obtain⟨w',hrun,hmo,hkr⟩:=run_update_new (P:=Tryz.prog) Tryz.underlying145 Tryz.underlying3 HM3.map n (.pointer (some ⟨a,0,none⟩)) H1.out
     have HM4:=η HM3
     have HMO:=η hmo
     clear hks d0 d1 HM3 hmo
     go_wp2_with fail
     go_returns
     have eN:=HKS.out
     subst eN
     rw[marks_full]at HP3
     have hkf:∀ j∈foot b r L,j < w.heap.size:=HM.out.lt
     have hkey:=hkr
     have hlen:k=xs.length:=hVN.out
     have hRX:RecAt w' ⟨n,a,g,p,⟨xs,xs.map fun _=>!blank,fixed⟩⟩:=by
      have hr:r < w.heap.size:=hkf r (by simp[foot])
      refine⟨?_,?_,?_,by simp,by have:=HL.out;simp;omega,HU.out⟩
      ·simp only[← hlen]
       exact hkr.obj HA3.out (by simp;omega)
      ·exact hkr.obj HG3.out (by simp;omega)
      ·have e:(xs.map fun _=>!blank)=List.replicate k (!blank):=by rw[hlen];exact List.map_const' ..
       simp only[e]
       exact hkr.obj HP3.out (by simp;omega)
     refine⟨by simp only[yG,HC.out,HL.out,if_false];rfl,(Keep.of_ext hE3).trans (hkr.mono fun j hj=>.inl ?_),L++[⟨n,a,g,p,⟨xs,xs.map fun _=>!blank,fixed⟩⟩],?_,?_,?_⟩
     ·simp only[List.mem_singleton]at hj
      subst hj
      simp[foot]
     ·exact HM4.out.push (B:=w.heap.size) H2.out ⟨hn1,hn2⟩ hkr HMO.out hRX hkf hfr hap
     ·simp only[yG,HC.out,HL.out,if_false]
      simp[view]
     ·intro j hj
      rcases foot_push b r L _ j hj with hj|hj
      ·exact .inl hj
      ·simp only[Rec.blocks,List.mem_cons,List.not_mem_nil,or_false]at hj
       right
       rcases hj with rfl|rfl|rfl<;>omega
def vC (M:Areas)(n:Int):List Int×Bool:=match M.lookup n with|none=>([],false)|some A=>(A.bytes,true)
def AreaAns (L:List Rec)(n:Int)(w:World)(e:Ending)(w':World):Prop :=
 ∃ v,e=.returned (.tuple #[v,.bool (vC (view L) n).2])∧Own w' w.heap.size 5 1 (fun x=>[Value.int .u8 x]) v (vC (view L) n).1∧Ext w w'
theorem mem_area (b r:Nat)(L:List Rec)(n:Int)(w:World)(h:MemAt w b r L):
  Calls Tryz.prog 92 #[.pointer (some ⟨b,0,none⟩),.int .i64 n] w (AreaAns L n w):=by
 have HM:=η h
 have hb:=cO (i:=0) h.head
 have hlk:=(vE (P:=Tryz.prog) Tryz.underlying145 Tryz.underlying3 zero_area h.map n).1
 rcases pG L n with ⟨h1,h2⟩|⟨x,hx,hxn,h1,h2⟩
 ·rw[h1]at hlk
  simp only[Option.getD_none]at hlk
  have H2:=η h2
  clear h h1 h2
  go_enter Tryz.func92,Tryz.ntmps92
  go_wp2_with fail
  go_returns
  exact⟨.slice none 0 0,by simp[vC,H2.out],by simp only[vC,H2.out];exact Own.nil _ _ _ _ _,Ext.rfl' _⟩
 ·rw[h1]at hlk
  simp only[Option.getD_some]at hlk
  have H2:=η h2
  have hR:=h.recs x hx
  have c0:=cO (i:=0) hR.area
  have hsm:=hR.small
  have OB:Hid (Own w 0 5 1 (fun x=>[Value.int .u8 x]) (.slice (some ⟨x.g,0,none⟩) x.A.bytes.length x.A.bytes.length) x.A.bytes):=η (own_obj (zG .u8) hR.bytes (Nat.zero_le _) rfl (by simp only[maxLen];omega))
  have RB:=η (OB.out.rd (zG _))
  clear h h1 h2 hR OB
  go_enter Tryz.func92,Tryz.ntmps92
  go_wp2_with fail
  refine(clone_u8 _ x.A.bytes _ RB.out (by omega)).mono ?_
  rintro e w3 ⟨v,rfl,hv,he⟩
  have HV:=η hv
  clear hv
  go_wp2_with fail
  go_returns
  exact⟨v,by simp[vC,H2.out],by simp only[vC,H2.out];exact HV.out,he⟩
theorem mat_le (a o:Int):0≤mat a o∧mat a o≤18446744073709551615:=by simp only[mat];omega
theorem run_make_u8 (n:Nat)(hn:n≤1000000)(u:World):(Instr.makeSlice 23 (.int .i64 (n:Int)) (.int .i64 (n:Int))).run Tryz.prog u=.ok (.slice (some ⟨u.heap.size,0,none⟩) n n) (u.alloc (.cells (madeCells #[.int .u8 0] n) 5)):=by
 obtain⟨i0,hi0,hz0,hz1,hz2⟩:=info_parts el_u8.info
 have h:=run_make (P:=Tryz.prog) u 23 5 i0 (.int .u8 0) el_u8.under hi0 hz0 .i64 .i64 (n:Int) (n:Int) (by omega) (Int.le_refl _) (by rw[hz2];omega) (by omega)
 simpa[hz1,Value.cells]using h
theorem pN (u:World)(n:Nat)(hn:n≤1000000):Sl (u.alloc (.cells (madeCells #[.int .u8 0] n) 5)) .u8 (.slice (some ⟨u.heap.size,0,none⟩) n n) (List.replicate n 0):=by
 have e:(madeCells #[.int .u8 0] n:Array Value)=((List.replicate n (0:Int)).flatMap fun x=>[Value.int .u8 x]).toArray:=by
  apply Array.toList_inj.1
  rw[toList_madeCells_one,qJ,List.map_replicate]
 rw[e]
 exact(own_obj (base:=0) (zG .u8) (zD _ _ rfl) (Nat.zero_le _) (by simp) (by simp[maxLen];omega)).rd (zG _)
theorem rep_u8 (n:Nat):∀ x∈List.replicate n (0:Int),0≤x∧x≤255:=by
 intro x hx
 rw[List.eq_of_mem_replicate hx];omega
theorem cutL_len {α:Type}(l:List α)(o k:Nat)(h:o+k≤l.length):(cutL l o k).length=k:=by simp[cutL];omega
theorem cutL_at {α:Type}(l:List α)(o k i:Nat):(cutL l o k)[i]?=if i < k then l[o+i]? else none:=by
 unfold cutL
 rw[List.getElem?_take]
 by_cases h:i < k
 ·rw[if_pos h,if_pos h,List.getElem?_drop]
 ·rw[if_neg h,if_neg h]
section
variable {P:Program} (w:World)
theorem run_append_where (base:Nat)(t ty e:TypeId)(i:TypeInfo)(z:Value)(size bytes:Nat)(ht:P.underlying t=some (.slice e))(hi:P.info? e=some i)(hz:i.zero=some z)
  (hsize:i.size=size) (hby:i.bytes=bytes) (v:Value) (n:Nat) (xs:List Value) (hown:w.ownsRow base e size v n xs)
  (a:Addr) (m c:Nat) (news:List Value) (hl:news.length=m * size) (hnews:∀ j u,news[j]?=some u→w.cell? (a.add j)=some u) (h1:∀ u∈news,u.oneCell'=true)
  (h63:n+m≤maxLen) (hbytes:(n+m) * bytes≤140737488355328) (v':Value) (w':World) (hr:(Builtin.append_ #[t,t] ty #[v,.slice (some a) m c]).run P w=.ok v' w') :
  ∀ k,v'.ownBlock=some k→v.ownBlock=some k∨w.heap.size≤k:=by
 subst hsize
 subst hby
 have hsmall:n+m≤9223372036854775807:=by simp only[maxLen]at h63;omega
 rcases hown.2 with ⟨rfl,rfl⟩|⟨g,cap,cur,rfl,hbg,hg,hnc,hcm,hcs,htake⟩
 ·by_cases hm:m=0
  ·subst hm
   obtain rfl:news=[]:=List.eq_nil_of_length_eq_zero (by simpa using hl)
   have h0:(Builtin.append_ #[t,t] ty #[.slice none 0 0,.slice (some a) 0 c]).run P w=.ok (.slice none 0 0) w:=by
    simp[Builtin.append_,run_underlying ht,sizeOf,typeInfo,hi,Builtin.lenOf,Builtin.firstCells,loadCells,loadCellsFrom]
   rw[h0]at hr
   injection hr with e1 e2
   subst e1
   intro k hk
   cases hk
  ·have h0:=run_append_nil (P:=P) w t ty e i z ht hi hz a m c news hl hnews (by omega) (by omega) (by have hb:=hbytes;simp only[Nat.zero_add]at hb;omega)
   rw[h0]at hr
   injection hr with e1 e2
   subst e1
   intro k hk
   injection hk with hk
   exact .inr (Nat.le_of_eq hk)
 ·by_cases hroom:n+m≤cap
  ·have hfit:n * i.size+news.length≤cur.size:=by rw[hl,hcs,← Nat.add_mul];exact Nat.mul_le_mul_right _ hroom
   have h0:=run_append_room (P:=P) w t ty e i ht hi g n cap cur hg a m c news hl hnews h1 hroom hfit
   rw[h0]at hr
   injection hr with e1 e2
   subst e1
   intro k hk
   exact .inl hk
  ·have holds:∀ j u,xs[j]?=some u→w.cell? ((⟨g,0,none⟩:Addr).add j)=some u:=hown.cells (g:=g) rfl
   have h0:=run_append_grow (P:=P) w t ty e i z ht hi hz ⟨g,0,none⟩ n cap xs hown.1 holds a m c news hl hnews (by omega) (by omega) (growslice_fits (by omega) hbytes)
   rw[h0]at hr
   injection hr with e1 e2
   subst e1
   intro k hk
   injection hk with hk
   exact .inr (Nat.le_of_eq hk)
end
section
variable {α:Type} {w:World} {sz:Nat} {enc:α→List Value} {v:Value} {xs:List α} {base:Nat} {e:TypeId}
variable {P:Program} {ops:Array Oper} {o:Oper} {a:Act} {Q:Exit→Act→World→Prop} {K:Act→World→Prop}
abbrev Moved (w:World)(v v':Value):Prop:=∀ k,v'.ownBlock=some k→v.ownBlock=some k∨w.heap.size≤k
theorem app_wp2 {t:TypeId}{bytes:Nat}{z:Value}(T:El P t e sz bytes z)(E:Enc sz enc)(s x:Operand)
  (ho:o.op=.call {callee:=.builtin .append,args:=#[s,x],argTypes:=#[t,t]})
  (hs:a.eval s=v) (hown:Own w base e sz enc v xs) {y:Value} {ys:List α} (hx:a.eval x=y) (hy:Rd w sz enc y ys)
  (hbytes:(xs.length+ys.length) * bytes≤140737488355328∧xs.length+ys.length≤9223372036854775807) (hbase:base≤w.heap.size)
  (h:∀ v' w',Own w' base e sz enc v' (xs++ys)→w.grownBy w' v.ownBlock→Moved w v v'→K (a.put o.dst v') w'):o.wp P a w K Q:=by
 obtain⟨i0,hi,hz0,hz1,hz2⟩:=info_parts T.info
 obtain⟨ya,yc,rfl,h2,h3,h4,h5⟩:=hy
 cases ya with
 | none =>
  obtain⟨rfl,rfl⟩:=h4 rfl
  have hrun:=run_append_owned_none (P:=P) (w:=w) base t o.type e i0 sz T.under hi v xs.length (xs.flatMap enc) hown
  unfold Oper.wp
  simp[execOp,ho,resolve,invoke,builtin,hs,hx,hrun,Result.andThen]
  exact h v w (by simpa using hown) (World.grownBy.refl _ _) (fun _ hk=>.inl hk)
 | some ad =>
  have flat:∀ (l:List α) (k:Nat),(∀ i q,l[i]?=some q→∀ j u,(enc q)[j]?=some u→w.cell? (ad.add ((k+i) * sz+j))=some u)→∀ j u,(l.flatMap enc)[j]?=some u→w.cell? (ad.add (k * sz+j))=some u:=by
   intro l
   induction l with
   | nil=>intro k _ j u hj;simp at hj
   | cons q l ih =>
    intro k hk j u hj
    rw[List.flatMap_cons]at hj
    by_cases hlt:j < sz
    ·rw[List.getElem?_append_left (by rw[E.len];exact hlt)]at hj
     simpa using hk 0 q rfl j u hj
    ·rw[List.getElem?_append_right (by rw[E.len];omega),E.len]at hj
     have:=ih (k+1) (fun i x hx' j' u' hu'=>by
      have:=hk (i+1) x (by simpa using hx') j' u' hu'
      rwa[show k+1+i=k+(i+1) from by omega]) (j - sz) u hj
     rwa[show (k+1) * sz+(j - sz)=k * sz+j from by rw[Nat.add_mul];omega]at this
  have hnews:∀ j u,(ys.flatMap enc)[j]?=some u→w.cell? (ad.add j)=some u:=fun j u hj=>by
   have:=flat ys 0 (fun i x hx' j' u' hu'=>by simpa[elt]using h5 i x hx' j' u' hu') j u hj
   simpa using this
  have hone:∀ u∈ys.flatMap enc,u.oneCell'=true:=fun u hu=>by
   obtain⟨x,_,hx⟩:=List.mem_flatMap.1 hu
   exact E.one x u hx
  have h63:xs.length+ys.length≤maxLen:=by simp only[maxLen];omega
  have hl:=qC E.len ys
  obtain⟨v',w',hr,k1,k2,k3⟩:=run_append_own (P:=P) w base t o.type e i0 z sz bytes T.under hi hz0 hz1 hz2 T.zs T.pos v xs.length (xs.flatMap enc) hown ad ys.length yc (ys.flatMap enc) hl hnews hone h63 hbytes.1 hbase
  have k4:=run_append_where (P:=P) w base t o.type e i0 z sz bytes T.under hi hz0 hz1 hz2 v xs.length (xs.flatMap enc) hown ad ys.length yc (ys.flatMap enc) hl hnews hone h63 hbytes.1 v' w' hr
  unfold Oper.wp execOp
  simp only[ho,resolve,invoke,builtin,Sem.run_bind,Sem.run_pure,Result.andThen_ok,List.map_toArray,List.map_cons,List.map_nil,hs,hx,hr]
  exact h v' w' (by show World.ownsRow _ _ _ _ _ _ _;rw[List.flatMap_append,List.length_append];exact k1) k2 k4
theorem qT {E':Prop}{t:TypeId}{bytes:Nat}{z:Value}(T:El P t e sz bytes z)(E:Enc sz enc)(hw:Region.wanted o (yielded ops a.tmps)=true)(s x:Operand)
  (ho:o.op=.call {callee:=.builtin .append,args:=#[s,x],argTypes:=#[t,t]})
  (hs:a.eval s=v) (hown:Own w base e sz enc v xs) {y:Value} {ys:List α} (hx:a.eval x=y) (hy:Rd w sz enc y ys)
  (hbytes:(xs.length+ys.length) * bytes≤140737488355328∧xs.length+ys.length≤9223372036854775807) (hbase:base≤w.heap.size)
  (h:∀ v' w',Own w' base e sz enc v' (xs++ys)→w.grownBy w' v.ownBlock→Moved w v v'→K (a.put o.dst v') w') :
  if Region.wanted o (yielded ops a.tmps)=true then Oper.wp P o a w K Q else E':=by
 rw[if_pos hw]
 exact app_wp2 T E s x ho hs hown hx hy hbytes hbase h
theorem app_own2 {rest:List Oper}{t:TypeId}{bytes:Nat}{z:Value}(T:El P t e sz bytes z)(E:Enc sz enc)(hgd:o.guard=none)(s x:Operand)
  (ho:o.op=.call {callee:=.builtin .append,args:=#[s,x],argTypes:=#[t,t]})
  (hs:a.eval s=v) (hown:Own w base e sz enc v xs) {y:Value} {ys:List α} (hx:a.eval x=y) (hy:Rd w sz enc y ys)
  (hbytes:(xs.length+ys.length) * bytes≤140737488355328∧xs.length+ys.length≤9223372036854775807) (hbase:base≤w.heap.size)
  (h:∀ v' w',Own w' base e sz enc v' (xs++ys)→w.grownBy w' v.ownBlock→Moved w v v'→wpList P ops Q rest (a.put o.dst v') w'):wpList P ops Q (o :: rest) a w :=
 wpList_plain hgd fun _ hK=>app_wp2 T E s x ho hs hown hx hy hbytes hbase fun v' w' h1 h2 h3=>hK _ _ (h v' w' h1 h2 h3)
end
theorem yB {w w':World}{row:Option Nat}(h:w.grownBy w' row):Keep row.toList w w' :=
 ⟨h.os,h.tape,h.output,h.size,fun k hk hF=>h.block k hk (fun e=>hF (by simp[e]))⟩
theorem Own.type_ne {α β:Type}{w:World}{b1 b2:Nat}{e1 e2:TypeId}{s1 s2:Nat}{enc1:α→List Value}{enc2:β→List Value}{v1 v2:Value}{xs:List α}{ys:List β}(h:Own w b1 e1 s1 enc1 v1 xs)(k:Own w b2 e2 s2 enc2 v2 ys)(hne:e1≠e2){j:Nat}(h1:v1.ownBlock=some j)(h2:v2.ownBlock=some j):False:=by
 rcases h.2 with ⟨rfl,_⟩|⟨g,cap,cur,rfl,_,hg,_⟩
 ·cases h1
 ·rcases k.2 with ⟨rfl,_⟩|⟨g',cap',cur',rfl,_,hg',_⟩
  ·cases h2
  ·injection h1 with h1
   injection h2 with h2
   subst h1
   subst h2
   rw[hg]at hg'
   injection hg' with e
   injection e with _ e _
   exact hne e
theorem Own.type_ne' {α:Type}{w:World}{b1:Nat}{e1 e2:TypeId}{s1:Nat}{enc1:α→List Value}{v1:Value}{xs:List α}{cs:Array Value}{fr:Nat×Nat}{j:Nat}(h:Own w b1 e1 s1 enc1 v1 xs)(k:w.heap[j]?=some (.cells cs e2 fr))(hne:e1≠e2)(h1:v1.ownBlock=some j):False:=by
 rcases h.2 with ⟨rfl,_⟩|⟨g,cap,cur,rfl,_,hg,_⟩
 ·cases h1
 ·injection h1 with h1
  subst h1
  rw[hg]at k
  injection k with e
  injection e with _ e _
  exact hne e
theorem Own.len {α:Type}{w:World}{base:Nat}{e:TypeId}{sz:Nat}{enc:α→List Value}{a:Option Addr}{n c:Nat}{xs:List α}(h:Own w base e sz enc (.slice a n c) xs):n=xs.length:=by
 rcases h.2 with ⟨hv,hn⟩|⟨g,cap,cur,hv,_⟩
 ·injection hv with h1 h2;rw[h2,hn]
 ·injection hv
theorem Own.keep {α:Type}{F:List Nat}{w w':World}{base:Nat}{e:TypeId}{sz:Nat}{enc:α→List Value}{v:Value}{xs:List α}(h:Own w base e sz enc v xs)(k:Keep F w w')(hF:∀ j,v.ownBlock=some j→j ∉ F):Own w' base e sz enc v xs:=by
 obtain⟨h1,h2⟩:=h
 refine⟨h1,?_⟩
 rcases h2 with h2|⟨g,cap,cur,rfl,hb,hg,r⟩
 ·exact .inl h2
 ·exact .inr ⟨g,cap,cur,rfl,hb,k.obj hg (hF g rfl),r⟩
theorem Rd.elt_add {α:Type}{w:World}{sz:Nat}{enc:α→List Value}{v:Value}{xs:List α}(h:Rd w sz enc v xs){i:Nat}{x:α}(hx:xs[i]?=some x)(k j:Nat):(elt v k).add j=elt v (k+j):=by
 obtain⟨a,c,rfl,h2,h3,h4,h5⟩:=h
 cases a with
 | none=>rw[(h4 rfl).1]at hx;simp at hx
 | some a=>simp only[elt,Addr.add_add]
theorem Keep.through {F0 F:List Nat}{wf w w':World}(h:Keep F0 wf w)(k:Keep F w w')(hF:∀ j∈F,j∈F0∨wf.heap.size≤j):Keep F0 wf w' :=
 ⟨k.os.trans h.os,k.tape.trans h.tape,k.output.trans h.output,Nat.le_trans h.size k.size,fun i hi hF0=>(k.block i (Nat.lt_of_lt_of_le hi h.size) (fun hj=>(hF i hj).elim hF0 (fun h'=>by omega))).trans (h.block i hi hF0)⟩
end Go.Proofs.YtppefchjoodgnaaGreat
