/- Texts cut at a byte,and words that are numbers. -/
import Derived.Test.YtoppcdecolponaaGreatWa3
import Derived.Test.YtoppcdecolponaaGreatAlS4
import Derived.KernelRfl
namespace Go.Proofs.YtoppcdecolponaaGreat.AL
open Go
set_option linter.unusedVariables false
def cutL (c:UInt8):List UInt8→List (List UInt8)
 | []=>[[]]
 | b::l=>if b=c then[]::cutL c l else match cutL c l with
   | w::ws=>(b::w)::ws
   | []=>[[b]]
theorem cut_ne (c:UInt8):∀ (l:List UInt8),cutL c l≠[]
 | []=>by simp [cutL]
 | b::l=>by
   unfold cutL
   split
   ·simp
   ·split <;> simp
theorem cut_last {c:UInt8}:∀ {p:List UInt8},(∀ b,b∈p→b≠c)→cutL c p=[p]
 | [],_=>rfl
 | a::p,h=>by
   have:=cut_last (p:=p) fun b hb=>h b (by simp [hb])
   rw[cutL,if_neg (h a (by simp)),this]
theorem cut_at {c:UInt8}:∀ {p r:List UInt8},(∀ b,b∈p→b≠c)→cutL c (p++c::r)=p::cutL c r
 | [],r,_=>by rw[List.nil_append,cutL,if_pos rfl]
 | a::p,r,h=>by
   have:=cut_at (p:=p) (r:=r) fun b hb=>h b (by simp [hb])
   rw[List.cons_append,cutL,if_neg (h a (by simp)),this]
theorem cut_len (c:UInt8):∀ (l:List UInt8),(cutL c l).length=l.count c+1
 | []=>rfl
 | b::l=>by
   have ih:=cut_len c l
   unfold cutL
   by_cases h:b=c
   ·rw[if_pos h,h,List.count_cons_self,List.length_cons,ih]
   ·rw[if_neg h,List.count_cons_of_ne (by simpa using h)]
    split
    ·rename_i w ws e;rw[e] at ih;simpa using ih
    ·rename_i e;exact absurd e (cut_ne c l)
theorem cut_cnt (c:UInt8) (l:List UInt8):(cutL c l).length≤l.length+1:=by
 rw[cut_len];have:=List.count_le_length (a:=c) (l:=l);omega
theorem ix_cases (c:UInt8):∀ (l:List UInt8),(Lib.indexByte l c=-1∧∀ b,b∈l→b≠c)∨∃ p r,l=p++c::r∧(∀ b,b∈p→b≠c)∧Lib.indexByte l c=p.length
 | []=>.inl ⟨rfl,by simp⟩
 | b::l=>by
   by_cases h:b=c
   ·subst h
    exact .inr ⟨[],l,rfl,by simp,by simp [Lib.indexByte]⟩
   ·have hb:(b == c)=false:=beq_eq_false_iff_ne.2 h
    rcases ix_cases c l with⟨h1,h2⟩|⟨p,r,h1,h2,h3⟩
    ·refine .inl ⟨by simp [Lib.indexByte,hb,h1],fun x hx=>?_⟩
     simp only[List.mem_cons] at hx
     rcases hx with rfl|hx
     ·exact h
     ·exact h2 x hx
    ·refine .inr ⟨b::p,r,by rw[h1];rfl,fun x hx=>?_,?_⟩
     ·simp only[List.mem_cons] at hx
      rcases hx with rfl|hx
      ·exact h
      ·exact h2 x hx
     ·have h4:¬ Lib.indexByte l c=-1:=by omega
      simp [Lib.indexByte,hb,h3]
theorem cutS_no {c:UInt8} {s:List UInt8} {a i:Nat} (h:∀ b,b∈(s.drop a).take (i-a)→b≠c) (ha:a≤i) (hi:i≤s.length) {y:UInt8} (hy:s[i]?=some y) (hne:¬ y=c):∀ b,b∈(s.drop a).take (i+1-a)→b≠c:=by
 intro b hb
 have e:i+1-a=(i-a)+1:=by omega
 have hy2:(s.drop a)[i-a]?=some y:=by rw[List.getElem?_drop,show a+(i-a)=i by omega];exact hy
 rw[e,take_get hy2] at hb
 simp only[List.mem_append,List.mem_cons,List.not_mem_nil,or_false] at hb
 rcases hb with hb|rfl
 ·exact h b hb
 ·exact hne
theorem cutS_at {c:UInt8} {s:List UInt8} {a i:Nat} (h:∀ b,b∈(s.drop a).take (i-a)→b≠c) (ha:a≤i) (hy:s[i]?=some c):cutL c (s.drop a)=(s.drop a).take (i-a)::cutL c (s.drop (i+1)):=by
 have hi:=(List.getElem?_eq_some_iff.1 hy).1
 have e:s.drop a=(s.drop a).take (i-a)++c::s.drop (i+1):=by
  have h1:(s.drop a).drop (i-a)=s.drop i:=by rw[List.drop_drop];congr 1;omega
  have h2:s.drop i=c::s.drop (i+1):=by
   rw[List.drop_eq_getElem_cons hi];congr 1
   rw[List.getElem?_eq_getElem hi] at hy;exact Option.some.inj hy
  rw[←h2,←h1,List.take_append_drop]
 conv=>lhs;rw[e]
 exact cut_at h
theorem valN_lt:∀ (l:List UInt8),(∀ b,b∈l→dig b=true)→valN 0 l<10 ^ l.length:=by
 intro l
 suffices h:∀ (l:List UInt8) (a k:Nat),a<10 ^ k→(∀ b,b∈l→dig b=true)→valN a l<10 ^ (k+l.length) by
  intro hl;have:=h l 0 0 (by decide) hl;simpa using this
 intro l
 induction l with
 | nil=>intro a k h _;exact h
 | cons b l ih =>
   intro a k h hd
   have h1:=dig_iff.1 (hd b (by simp))
   rw[valN_cons,List.length_cons,show k+(l.length+1)=(k+1)+l.length by omega]
   refine ih _ _ ?_ fun x hx=>hd x (by simp [hx])
   rw[Nat.pow_succ];omega
theorem u8_32 {y:UInt8} (h:(y.toNat:Int)=32):y=32:=UInt8.toNat_inj.1 (by rw[show(32:UInt8).toNat=32 from rfl];omega)
theorem u8_n32 {y:UInt8} (h:¬ (y.toNat:Int)=32):¬ y=32:=fun e=>h (by rw[e];rfl)
def CutI (s:List UInt8) (out:List (List UInt8)) (a i:Nat):Prop:=a≤i∧i≤s.length∧(∀ b,b∈(s.drop a).take (i-a)→b≠32)∧out++cutL 32 (s.drop a)=cutL 32 s
theorem CutI.start (s:List UInt8):CutI s [] 0 0:=⟨Nat.le_refl _,Nat.zero_le _,by simp,by simp⟩
theorem CutI.len {s out a i} (h:CutI s out a i):out.length≤s.length:=by
 have h1:=congrArg List.length h.2.2.2
 rw[List.length_append] at h1
 have h2:=cut_cnt 32 s
 have h3:0<(cutL 32 (s.drop a)).length:=List.length_pos_iff.2 (cut_ne _ _)
 omega
theorem CutI.no {s out a i} {y:UInt8} (h:CutI s out a i) (hy:s[i]?=some y) (hn:¬ (y.toNat:Int)=32):CutI s out a (i+1):=
 ⟨by have:=h.1;omega,by have:=(List.getElem?_eq_some_iff.1 hy).1;omega,cutS_no h.2.2.1 h.1 h.2.1 hy (u8_n32 hn),h.2.2.2⟩
theorem cut_form (s:List UInt8) (a i:Nat):(s.take ((i:Int)).toNat).drop ((a:Int)).toNat=(s.drop a).take (i-a):=by
 rw[Int.toNat_natCast,Int.toNat_natCast,List.drop_take]
theorem CutI.yes {s out a i} {y:UInt8} (h:CutI s out a i) (hy:s[i]?=some y) (hn:(y.toNat:Int)=32):CutI s (out++[(s.take ((i:Int)).toNat).drop ((a:Int)).toNat]) (i+1) (i+1):=by
 have:=u8_32 hn
 subst this
 refine⟨Nat.le_refl _,by have:=(List.getElem?_eq_some_iff.1 hy).1;omega,by simp,?_⟩
 rw[cut_form,List.append_assoc,List.singleton_append,←cutS_at h.2.2.1 h.1 hy];exact h.2.2.2
def NumI (t:List UInt8) (i:Nat):Prop:=i≤t.length∧(∀ b,b∈t.take i→dig b=true)∧(i=0∨t.length≤18)
theorem NumI.bd {t i} (h:NumI t i):valN 0 (t.take i)<1000000000000000000:=by
 have h1:=valN_lt (t.take i) h.2.1
 have h2:(t.take i).length≤18:=by
  rw[List.length_take]
  rcases h.2.2 with h3|h3 <;> omega
 have h3:10 ^ (t.take i).length≤10 ^ 18:=Nat.pow_le_pow_right (by decide) h2
 have h4:(10:Nat) ^ 18=1000000000000000000:=by decide
 omega
theorem NumI.next {t i} {y:UInt8} (h:NumI t i) (hy:t[i]?=some y) (h1:¬ (y.toNat:Int)<48) (h2:¬ (57:Int)<y.toNat) (hl:¬ (18:Int)<t.length):NumI t (i+1)∧((valN 0 (t.take (i+1)):Nat):Int)=((valN 0 (t.take i):Nat):Int) * 10+(y.toNat:Int)-48:=by
 have hlt:=(List.getElem?_eq_some_iff.1 hy).1
 have hd:dig y=true:=dig_iff.2 ⟨by omega,by omega⟩
 refine⟨⟨by omega,fun b hb=>?_,.inr (by omega)⟩,?_⟩
 ·rw[take_get hy] at hb
  simp only[List.mem_append,List.mem_cons,List.not_mem_nil,or_false] at hb
  rcases hb with hb|rfl
  ·exact h.2.1 b hb
  ·exact hd
 ·rw[take_get hy,valN_app,valN_cons,valN_nil];omega
def SplI (c:UInt8) (s:List UInt8) (i:Nat) (cur:List UInt8):Prop:=(cutL c s).drop i=cutL c cur∧cur.length≤s.length
theorem SplI.start (c:UInt8) (s:List UInt8):SplI c s 0 s:=⟨rfl,Nat.le_refl _⟩
theorem SplI.lt {c s i cur} (h:SplI c s i cur):i<(cutL c s).length:=by
 rcases Nat.lt_or_ge i (cutL c s).length with h1|h1
 ·exact h1
 ·have h2:=h.1
  rw[List.drop_eq_nil_of_le h1] at h2
  exact absurd h2.symm (cut_ne c cur)
theorem SplI.cnt {c s i cur} (h:SplI c s i cur):(cutL c s).length=i+(cutL c cur).length:=by
 have h1:=congrArg List.length h.1
 rw[List.length_drop] at h1
 have:=h.lt
 omega
theorem SplI.next {c s i cur} (h:SplI c s i cur) (hi:(i:Int)<((cutL c s).length:Int)-1):∃ p r,cur=p++c::r∧Lib.indexByte cur c=(p.length:Int)∧cur.length=p.length+1+r.length∧(cutL c s)[i]?=some p∧SplI c s (i+1) r:=by
 have hc:=h.cnt
 rcases ix_cases c cur with⟨_,h2⟩|⟨p,r,h1,h2,h3⟩
 ·rw[cut_last h2] at hc;simp only[List.length_cons,List.length_nil] at hc;omega
 ·have e:cutL c cur=p::cutL c r:=by rw[h1,cut_at h2]
  have hl:cur.length=p.length+1+r.length:=by rw[h1];simp;omega
  have h4:=h.1
  rw[e] at h4
  refine⟨p,r,h1,h3,hl,?_,?_,by have:=h.2;omega⟩
  ·have:=congrArg (fun l=>l[0]?) h4
   simpa using this
  ·have:=congrArg (fun l=>l.drop 1) h4
   simpa[List.drop_drop] using this
theorem SplI.last {c s i cur} (h:SplI c s i cur) (hi:¬ (i:Int)<((cutL c s).length:Int)-1):(cutL c s)[i]?=some cur∧(cutL c s).length=i+1:=by
 have hc:=h.cnt
 have hl:=h.lt
 have h1:(cutL c cur).length=1:=by
  have:0<(cutL c cur).length:=List.length_pos_iff.2 (cut_ne c cur)
  omega
 have e:cutL c cur=[cur]:=by
  rcases ix_cases c cur with⟨_,h2⟩|⟨p,r,h2,h3,_⟩
  ·exact cut_last h2
  ·rw[h2,cut_at h3] at h1
   have:0<(cutL c r).length:=List.length_pos_iff.2 (cut_ne c r)
   simp only[List.length_cons] at h1;omega
 have h4:=h.1
 rw[e] at h4
 refine⟨?_,by omega⟩
 have:=congrArg (fun l=>l[0]?) h4
 simpa using this
end Go.Proofs.YtoppcdecolponaaGreat.AL
namespace Go.Proofs.YtoppcdecolponaaGreat.AL
open Go
instance instE (n : Nat) : OfNat E n:=⟨.t n⟩
abbrev ki (x:Int):E:=.k (.int .i64 x)
abbrev kf:E:=.k (.bool false)
abbrev kt:E:=.k (.bool true)
abbrev jm (a b:Nat):IOp:=⟨some a,.mv (.t b),none,false⟩
abbrev jy (d:Nat) (o:O) (s:Nat):IOp:=⟨some d,o,some (s,true),false⟩
abbrev jz (d:Nat) (o:O) (s:Nat):IOp:=⟨some d,o,some (s,false),false⟩
abbrev jw (d:Nat) (o:O) (s:Nat) (b:Bool):IOp:=⟨some d,o,some (s,b),true⟩
abbrev ju (d:Nat) (o:O):IOp:=⟨some d,o,none,true⟩
abbrev js (l:List IOp) (c:C):C:=.seq (.rg l) c
def F1:Fnc:=⟨js [p 4 (.box 1),p 5 (.box 2),p 6 (.mv (ki 0)),p 7 (.mv (ki 0))] (js [ju 15 (.mv 0),ju 16 (.nilc 15),ju 17 (.fa 7 16),ju 18 (.ld 17),ju 19 (.fa 1 5),ju 20 (.ld 19),ju 21 (.ia 6 18 20),ju 22 (.ldn 6 21),ju 8 (.new [.slice none 0 0,
 .int .i64 0,.int .i64 0,.int .i64 0,.bool false,.bool false]),⟨none,.stn 6 8 22,none,false⟩] (js [p 23 (.ldn 6 8),p 24 (.fa 2 5),p 25 (.ld 24),p 26 (.call 54 [23,25]),p 27 (.call 73 [26]),jm 9 27] (.seq (js [p 28 (.fa 5 8),p 29 (.ld 28),
 jm 30 29,jz 31 (.mv 9) 30,jz 32 (.bin .eql 31 (ki 0)) 30,p 33 (.pick 30 kt 32)] (.cond 33 (js [p 6 (.mv (ki 1)),p 7 (.mv (ki 0))] .ret) .skip)) (js [jm 35 0,p 36 (.ldn 8 5),p 37 (.call 5 [35,36]),jm 34 37,p 38 (.ext 0 34),p 39 (.ext 1 34),
 p 40 (.ext 2 34),p 10 (.new [.slice none 0 0,.slice none 0 0,.int .i64 0,.slice none 0 0]),⟨none,.stn 4 10 38,none,false⟩,jm 11 39,jm 12 40] (js [ju 41 (.mv 0),ju 42 (.nilc 41),ju 43 (.fa 0 42),ju 44 (.ldn 6 43),ju 45 (.ldn 3 4),
 ju 46 (.mv 0),ju 47 (.nilc 46),ju 48 (.fa 35 47),ju 49 (.ld 48),p 50 (.call 80 [44,45,49]),jm 13 50] (.seq (js [jm 51 9,p 52 (.bin .eql 51 (ki 3))] (.cond 52 (.rg [jm 53 13,p 54 (.bin .add 53 (ki 2)),
 jm 13 54]) .skip)) (.seq (js [ju 55 (.ldn 3 4),ju 56 (.mv 0),ju 57 (.nilc 56),ju 58 (.fa 35 57),ju 59 (.ld 58),p 60 (.call 68 [55,59]),jm 14 60] (.block 0 (js [jm 62 14,p 63 (.bin .eql 62 (ki 2)),jm 64 63,jy 65 (.mv 9) 64,
 jy 66 (.bin .neq 65 (ki 3)) 64,p 67 (.pick 64 66 kf),jm 68 67,jw 69 (.fa 3 8) 68 true,jw 70 (.ld 69) 68 true,jw 71 (.mv 0) 68 true,jw 72 (.nilc 71) 68 true,jw 73 (.fa 0 72) 68 true,jw 74 (.fa 3 73) 68 true,jw 75 (.ld 74) 68 true,
 jy 76 (.bin .lss 70 75) 68,p 77 (.pick 68 76 kf),jm 61 77] (.cond 61 (.rg [p 12 (.mv (ki 2))]) (js [jm 79 14,p 80 (.bin .eql 79 (ki 3)),jm 81 80,jy 82 (.mv 9) 81,jy 83 (.bin .eql 82 (ki 2)) 81,p 84 (.pick 81 83 kf),jm 85 84,
 jy 86 (.fa 4 8) 85,jy 87 (.ld 86) 85,jy 88 (.not 87) 85,p 89 (.pick 85 88 kf),jm 90 89,jw 91 (.fa 1 5) 90 true,jw 92 (.ld 91) 90 true,jw 93 (.mv 0) 90 true,jw 94 (.nilc 93) 90 true,jw 95 (.fa 12 94) 90 true,jw 96 (.ld 95) 90 true,
 jy 97 (.bin .neq 92 96) 90,p 98 (.pick 90 97 kf),jm 78 98] (.cond 78 (.rg [p 12 (.mv (ki 3))]) .skip)))))) (js [jm 99 12,jm 100 13,jm 6 99,jm 7 100] .ret)))))))),[.tmp 6,.tmp 7]⟩
def F2:Fnc:=⟨js [p 2 (.mv kf)] (js [jm 11 0,p 12 (.nilc 11),p 13 (.fa 7 12),p 14 (.ld 13),p 15 (.len 14),p 16 (.mk 1 8 [.int .i64 0] 15 15),jm 3 16] (.seq (js [jm 17 0,p 18 (.call 13 [17]),p 19 (.len 18),
 p 20 (.mv (ki 0))] (.block 0 (.loop (js [p 21 (.bin .lss 20 19)] (.seq (.cond 21 .skip (.exit 0)) (.seq (.block 1 (js [p 22 (.ia 8 18 20),p 23 (.ldn 8 22),p 5 (.new [.bool false,.int .i64 0,.int .i64 0,.bool false,.int .i64 0,.int .i64 0,
 .int .i64 0,.bool false]),⟨none,.stn 8 5 23,none,false⟩] (.seq (js [ju 24 (.mv 0),ju 25 (.nilc 24),ju 26 (.fa 0 25),ju 27 (.ldn 6 26),ju 28 (.fa 1 5),ju 29 (.ld 28),p 30 (.call 91 [27,29]),p 31 (.not 30),jm 32 31,jz 33 (.fa 4 5) 32,
 jz 34 (.ld 33) 32,jz 35 (.call 103 [34,ki 1,ki 3]) 32,jz 36 (.not 35) 32,p 37 (.pick 32 kt 36),jm 38 37,jw 39 (.mv 0) 38 false,jw 40 (.nilc 39) 38 false,jw 41 (.fa 11 40) 38 false,jw 42 (.ld 41) 38 false,jw 43 (.fa 1 5) 38 false,
 jw 44 (.ld 43) 38 false,jz 45 (.ia 1 42 44) 38,jz 46 (.ld 45) 38,jz 47 (.bin .neq 46 (ki 0)) 38,p 48 (.pick 38 kt 47)] (.cond 48 (js [p 2 (.mv kf)] .ret) .skip)) (.rg [jm 49 3,p 50 (.fa 1 5),p 51 (.ld 50),p 52 (.ia 1 49 51),p 53 (.ld 52),
 p 54 (.bin .add 53 (ki 1)),p 55 (.ia 1 49 51),⟨none,.st 55 54,none,false⟩])))) (.rg [p 56 (.bin .add 20 (ki 1)),jm 20 56]))))))) (.seq (js [jm 57 0,p 58 (.nilc 57),p 59 (.fa 7 58),p 60 (.ld 59),p 61 (.len 60),
 p 62 (.mv (ki 0))] (.block 2 (.loop (js [p 63 (.bin .lss 62 61)] (.seq (.cond 63 .skip (.exit 2)) (.seq (.block 3 (js [jm 64 62,p 65 (.ia 6 60 62),p 66 (.ldn 6 65),p 7 (.new [.slice none 0 0,.int .i64 0,.int .i64 0,.int .i64 0,.bool false,
 .bool false]),jm 6 64,⟨none,.stn 6 7 66,none,false⟩] (js [ju 67 (.fa 1 7),ju 68 (.ld 67),ju 69 (.fa 2 7),ju 70 (.ld 69),ju 71 (.bin .sub 68 70),ju 72 (.mv 3),ju 73 (.mv 6),ju 74 (.ia 1 72 73),ju 75 (.ld 74),
 p 76 (.bin .neq 71 75)] (.cond 76 (js [p 2 (.mv kf)] .ret) .skip)))) (.rg [p 77 (.bin .add 62 (ki 1)),jm 62 77]))))))) (.seq (js [jm 78 0,p 79 (.nilc 78),p 80 (.fa 15 79),p 81 (.ldn 8 80),p 8 (.new [.bool false,.int .i64 0,.int .i64 0,
 .bool false,.int .i64 0,.int .i64 0,.int .i64 0,.bool false]),⟨none,.stn 8 8 81,none,false⟩] (js [p 82 (.fa 0 8),p 83 (.ld 82),jm 84 83,jw 85 (.fa 2 8) 84 true,jw 86 (.ld 85) 84 true,jw 87 (.mv 0) 84 true,jw 88 (.nilc 87) 84 true,
 jw 89 (.fa 7 88) 84 true,jw 90 (.ld 89) 84 true,jw 91 (.fa 1 8) 84 true,jw 92 (.ld 91) 84 true,jw 93 (.ia 6 90 92) 84 true,jw 94 (.fa 1 93) 84 true,jw 95 (.ld 94) 84 true,jw 96 (.bin .sub 95 (ki 1)) 84 true,jy 97 (.bin .neq 86 96) 84,
 jy 98 (.mv 97) 84,jz 99 (.fa 5 8) 98,jz 100 (.ld 99) 98,jz 101 (.bin .neq 100 (ki 0)) 98,jy 102 (.pick 98 kt 101) 84,jy 103 (.mv 102) 84,jz 104 (.fa 6 8) 103,jz 105 (.ld 104) 103,jz 106 (.bin .neq 105 (ki 0)) 103,
 jy 107 (.pick 103 kt 106) 84,jy 108 (.mv 107) 84,jz 109 (.fa 7 8) 108,jz 110 (.ld 109) 108,jy 111 (.pick 108 kt 110) 84,p 112 (.pick 84 111 kf),jm 113 112,jz 114 (.fa 0 8) 113,jz 115 (.ld 114) 113,jz 116 (.not 115) 113,jz 117 (.mv 116) 113,
 jw 118 (.ldn 8 8) 117 true,jw 119 (.bd [.bool false,.int .i64 0,.int .i64 0,.bool false,.int .i64 0,.int .i64 0,.int .i64 0,.bool false] []) 117 true,jy 120 (.eqs true [.b,.i,.i,.b,.i,.i,.i,.b] 118 119) 117,jz 121 (.pick 117 120 kf) 113,
 p 122 (.pick 113 kt 121)] (.cond 122 (js [p 2 (.mv kf)] .ret) .skip))) (js [jm 123 0,p 124 (.nilc 123),p 125 (.fa 23 124),p 126 (.ldn 8 125),p 9 (.new [.bool false,.int .i64 0,.int .i64 0,.bool false,.int .i64 0,.int .i64 0,.int .i64 0,
 .bool false]),⟨none,.stn 8 9 126,none,false⟩] (.seq (js [p 127 (.fa 0 9),p 128 (.ld 127),p 129 (.not 128)] (.cond 129 (js [p 130 (.ldn 8 9),p 131 (.bd [.bool false,.int .i64 0,.int .i64 0,.bool false,.int .i64 0,.int .i64 0,.int .i64 0,
 .bool false] []),p 132 (.eqs false [.b,.i,.i,.b,.i,.i,.i,.b] 130 131),jm 2 132] .ret) .skip)) (js [ju 133 (.mv 0),ju 134 (.nilc 133),ju 135 (.fa 7 134),ju 136 (.ld 135),ju 137 (.fa 1 9),ju 138 (.ld 137),ju 139 (.ia 6 136 138),
 ju 140 (.ldn 6 139),ju 10 (.new [.slice none 0 0,.int .i64 0,.int .i64 0,.int .i64 0,.bool false,.bool false]),⟨none,.stn 6 10 140,none,false⟩] (.seq (.block 4 (js [ju 142 (.fa 2 9),ju 143 (.ld 142),ju 144 (.fa 2 10),ju 145 (.ld 144),
 p 146 (.bin .neq 143 145),jm 147 146,jw 148 (.fa 5 9) 147 false,jw 149 (.ld 148) 147 false,jw 150 (.mv 0) 147 false,jw 151 (.nilc 150) 147 false,jw 152 (.fa 0 151) 147 false,jw 153 (.fa 2 152) 147 false,jw 154 (.ld 153) 147 false,
 jw 155 (.bin .add 154 (ki 2)) 147 false,jz 156 (.call 103 [149,ki 0,155]) 147,jz 157 (.not 156) 147,p 158 (.pick 147 kt 157),jm 159 158,jz 160 (.fa 6 9) 159,jz 161 (.ld 160) 159,jz 162 (.call 103 [161,ki 0,ki 3]) 159,jz 163 (.not 162) 159,
 p 164 (.pick 159 kt 163),jm 141 164] (.cond 141 (js [p 2 (.mv kf)] .ret) (js [p 166 (.fa 6 9),p 167 (.ld 166),p 168 (.bin .eql 167 (ki 2)),jm 169 168,jw 170 (.fa 3 10) 169 true,jw 171 (.ld 170) 169 true,jw 172 (.mv 0) 169 true,
 jw 173 (.nilc 172) 169 true,jw 174 (.fa 0 173) 169 true,jw 175 (.fa 3 174) 169 true,jw 176 (.ld 175) 169 true,jy 177 (.bin .geq 171 176) 169,p 178 (.pick 169 177 kf),jm 165 178] (.cond 165 (js [p 2 (.mv kf)] .ret) (js [p 180 (.fa 6 9),
 p 181 (.ld 180),p 182 (.bin .eql 181 (ki 3)),jm 183 182,jy 184 (.fa 4 10) 183,jy 185 (.ld 184) 183,jy 186 (.mv 185) 183,jw 187 (.fa 1 9) 186 false,jw 188 (.ld 187) 186 false,jw 189 (.mv 0) 186 false,jw 190 (.nilc 189) 186 false,
 jw 191 (.fa 12 190) 186 false,jw 192 (.ld 191) 186 false,jz 193 (.bin .eql 188 192) 186,jy 194 (.pick 186 kt 193) 183,p 195 (.pick 183 194 kf),jm 179 195] (.cond 179 (js [p 2 (.mv kf)] .ret) .skip))))))) (js [p 196 (.fa 7 9),
 p 197 (.ld 196),p 198 (.not 197),jm 199 198,jz 200 (.fa 5 9) 199,jz 201 (.ld 200) 199,jz 202 (.bin .eql 201 (ki 0)) 199,jz 203 (.mv 202) 199,jy 204 (.fa 6 9) 203,jy 205 (.ld 204) 203,jy 206 (.bin .neq 205 (ki 0)) 203,
 jz 207 (.pick 203 206 kf) 199,jz 208 (.mv 207) 199,jy 209 (.mv 0) 208,jy 210 (.nilc 209) 208,jy 211 (.fa 15 210) 208,jy 212 (.fa 0 211) 208,jy 213 (.ld 212) 208,jy 214 (.not 213) 208,jz 215 (.pick 208 214 kf) 199,p 216 (.pick 199 kt 215),
 jm 2 216] .ret))))))))),[.tmp 2]⟩
def F3:Fnc:=⟨js [p 2 (.mv kf)] (js [jm 6 0,p 7 (.nilc 6),p 8 (.fa 0 7),p 9 (.fa 0 8),p 10 (.ld 9),p 11 (.len 10),jm 3 11] (.seq (js [jm 12 0,p 13 (.nilc 12),p 14 (.fa 7 13),p 15 (.ld 14),p 16 (.len 15),jm 17 3,p 18 (.bin .neq 16 17),jm 19 18,
 jz 20 (.mv 0) 19,jz 21 (.nilc 20) 19,jz 22 (.fa 10 21) 19,jz 23 (.ld 22) 19,jz 24 (.len 23) 19,jz 25 (.mv 3) 19,jz 26 (.bin .neq 24 25) 19,p 27 (.pick 19 kt 26),jm 28 27,jz 29 (.mv 0) 28,jz 30 (.nilc 29) 28,jz 31 (.fa 11 30) 28,
 jz 32 (.ld 31) 28,jz 33 (.len 32) 28,jz 34 (.mv 3) 28,jz 35 (.bin .neq 33 34) 28,p 36 (.pick 28 kt 35)] (.cond 36 (js [p 2 (.mv kf)] .ret) .skip)) (.seq (js [jm 37 0,p 38 (.nilc 37),p 39 (.fa 7 38),p 40 (.ld 39),p 41 (.len 40),
 p 42 (.mv (ki 0))] (.block 0 (.loop (js [p 43 (.bin .lss 42 41)] (.seq (.cond 43 .skip (.exit 0)) (.seq (.block 1 (js [jm 44 42,p 45 (.ia 6 40 42),p 46 (.ldn 6 45),p 5 (.new [.slice none 0 0,.int .i64 0,.int .i64 0,.int .i64 0,.bool false,
 .bool false]),jm 4 44,⟨none,.stn 6 5 46,none,false⟩] (js [p 47 (.ldn 6 5),p 48 (.call 88 [47]),p 49 (.not 48),jm 50 49,jw 51 (.fa 3 5) 50 false,jw 52 (.ld 51) 50 false,jw 53 (.mv 0) 50 false,jw 54 (.nilc 53) 50 false,
 jw 55 (.fa 0 54) 50 false,jw 56 (.fa 3 55) 50 false,jw 57 (.ld 56) 50 false,jz 58 (.bin .gtr 52 57) 50,p 59 (.pick 50 kt 58),jm 60 59,jw 61 (.mv 0) 60 false,jw 62 (.nilc 61) 60 false,jw 63 (.fa 10 62) 60 false,jw 64 (.ld 63) 60 false,
 jw 65 (.mv 4) 60 false,jw 66 (.ia 2 64 65) 60 false,jw 67 (.ldn 2 66) 60 false,jw 68 (.mv 0) 60 false,jw 69 (.nilc 68) 60 false,jw 70 (.fa 0 69) 60 false,jw 71 (.fa 0 70) 60 false,jw 72 (.ld 71) 60 false,jw 73 (.mv 4) 60 false,
 jw 74 (.ia 4 72 73) 60 false,jw 75 (.ldn 4 74) 60 false,jz 76 (.call 26 [67,75]) 60,jz 77 (.not 76) 60,p 78 (.pick 60 kt 77),jm 79 78,jw 80 (.mv 0) 79 false,jw 81 (.nilc 80) 79 false,jw 82 (.fa 11 81) 79 false,jw 83 (.ld 82) 79 false,
 jw 84 (.mv 4) 79 false,jw 85 (.ia 1 83 84) 79 false,jw 86 (.ld 85) 79 false,jw 87 (.mv 0) 79 false,jw 88 (.nilc 87) 79 false,jw 89 (.fa 0 88) 79 false,jw 90 (.fa 4 89) 79 false,jw 91 (.ld 90) 79 false,jz 92 (.call 103 [86,ki 0,91]) 79,
 jz 93 (.not 92) 79,p 94 (.pick 79 kt 93)] (.cond 94 (js [p 2 (.mv kf)] .ret) .skip)))) (.rg [p 95 (.bin .add 42 (ki 1)),jm 42 95]))))))) (js [p 2 (.mv kt)] .ret)))),[.tmp 2]⟩
def F4:Fnc:=⟨js [p 3 (.box 1)] (js [ju 12 (.mv 0),ju 13 (.nilc 12),ju 14 (.fa 7 13),ju 15 (.ld 14),ju 16 (.fa 1 3),ju 17 (.ld 16),ju 18 (.ia 6 15 17),ju 19 (.ldn 6 18),ju 4 (.new [.slice none 0 0,.int .i64 0,.int .i64 0,.int .i64 0,.bool false,
 .bool false]),⟨none,.stn 6 4 19,none,false⟩] (js [p 20 (.fa 0 4),p 21 (.ld 20),p 22 (.ia 6 21 (ki 0)),p 23 (.ldn 6 22),p 5 (.new [.bool false,.int .i64 0,.int .i64 0,.int .i64 0,.bool false,.slice none 0 0]),⟨none,.stn 6 5 23,none,
 false⟩] (js [ju 24 (.mv 0),ju 25 (.nilc 24),ju 26 (.fa 6 25),ju 27 (.ld 26),ju 28 (.fa 1 3),ju 29 (.ld 28),ju 30 (.fa 0 5),ju 31 (.ld 30),ju 32 (.ldn 6 4),ju 33 (.fa 2 3),ju 34 (.ld 33),ju 35 (.call 54 [32,34]),ju 36 (.fa 2 5),
 ju 37 (.ld 36),ju 38 (.fa 6 3),ju 39 (.ld 38),ju 40 (.bd [.int .i64 0,.int .i64 0,.bool false,.int .i64 0,.int .i64 0,.int .i64 0,.int .i64 0] [(0,1,27),(1,1,29),(2,1,31),(3,1,35),(4,1,37),(6,1,39)]),ju 6 (.new [.int .i64 0,.int .i64 0,
 .bool false,.int .i64 0,.int .i64 0,.int .i64 0,.int .i64 0]),⟨none,.stn 7 6 40,none,false⟩] (.seq (js [p 41 (.fa 6 3),p 42 (.ld 41),p 43 (.bin .eql 42 (ki 0))] (.cond 43 (js [jm 45 0,p 46 (.ldn 8 3),p 47 (.call 5 [45,46]),jm 44 47,
 p 48 (.ext 0 44),p 49 (.ext 1 44),p 50 (.ext 2 44),p 7 (.new [.slice none 0 0,.slice none 0 0,.int .i64 0,.slice none 0 0]),⟨none,.stn 4 7 48,none,false⟩,jm 8 49,jm 9 50] (js [jm 51 0,p 52 (.ldn 4 7),p 53 (.nilc 51),p 54 (.fa 31 53),⟨none,
 .stn 4 54 52,none,false⟩] (.rg [jm 55 8,p 56 (.fa 5 6),⟨none,.st 56 55,none,false⟩]))) .skip)) (js [ju 57 (.mv 0),ju 58 (.mv 0),ju 59 (.nilc 58),ju 60 (.fa 36 59),ju 61 (.ld 60),ju 62 (.ldn 7 6),ju 63 (.bs 7 1 [.int .i64 0,.int .i64 0,
 .bool false,.int .i64 0,.int .i64 0,.int .i64 0,.int .i64 0] [(0,62)]),p 64 (.app 7 56 61 63),p 65 (.nilc 57),p 66 (.fa 36 65),⟨none,.st 66 64,none,false⟩] (js [p 68 (.ldn 6 4),p 69 (.call 56 [68]),jm 67 69,p 70 (.ext 0 67),
 p 71 (.ext 1 67),p 10 (.new [.slice none 0 0,.int .i64 0,.int .i64 0,.int .i64 0,.bool false,.bool false]),⟨none,.stn 6 10 70,none,false⟩,jm 11 71] (.seq (js [ju 72 (.mv 0),ju 73 (.nilc 72),ju 74 (.fa 12 73),ju 75 (.ld 74),ju 76 (.fa 1 3),
 ju 77 (.ld 76),p 78 (.bin .eql 75 77),jm 79 78,jw 80 (.fa 0 10) 79 true,jw 81 (.ld 80) 79 true,jw 82 (.len 81) 79 true,jw 83 (.fa 0 4) 79 true,jw 84 (.ld 83) 79 true,jw 85 (.len 84) 79 true,jy 86 (.bin .lss 82 85) 79,
 p 87 (.pick 79 86 kf)] (.cond 87 (.rg [jm 88 0,p 89 (.call 7 [88])]) .skip)) (.rg [ju 90 (.mv 0),ju 91 (.nilc 90),ju 92 (.fa 7 91),ju 93 (.ld 92),ju 94 (.fa 1 3),ju 95 (.ld 94),ju 96 (.ldn 6 10),p 97 (.ia 6 93 95),⟨none,.stn 6 97 96,none,
 false⟩])))))))),[]⟩
def F5:Fnc:=⟨js [p 3 (.box 1),p 4 (.new [.slice none 0 0,.slice none 0 0,.int .i64 0,.slice none 0 0]),p 5 (.mv (ki 0)),p 6 (.mv (ki 0))] (js [ju 9 (.mv 0),ju 10 (.nilc 9),ju 11 (.fa 7 10),ju 12 (.ld 11),ju 13 (.fa 1 3),ju 14 (.ld 13),
 ju 15 (.ia 6 12 14),ju 16 (.ldn 6 15),ju 7 (.new [.slice none 0 0,.int .i64 0,.int .i64 0,.int .i64 0,.bool false,.bool false]),⟨none,.stn 6 7 16,none,false⟩] (js [p 17 (.fa 0 7),p 18 (.ld 17),p 19 (.ia 6 18 (ki 0)),p 20 (.ldn 6 19),
 p 8 (.new [.bool false,.int .i64 0,.int .i64 0,.int .i64 0,.bool false,.slice none 0 0]),⟨none,.stn 6 8 20,none,false⟩] (js [ju 21 (.mv 0),ju 22 (.nilc 21),ju 23 (.fa 31 22),ju 24 (.ldn 4 23),ju 25 (.fa 0 8),ju 26 (.ld 25),ju 27 (.ldn 6 7),
 ju 28 (.fa 2 3),ju 29 (.ld 28),ju 30 (.call 54 [27,29]),ju 31 (.fa 2 8),ju 32 (.ld 31),ju 33 (.fa 2 3),ju 34 (.ld 33),ju 35 (.call 19 [7,34]),p 36 (.call 52 [24,26,30,32,35]),ju 37 (.ext 0 36),ju 38 (.ext 1 36),ju 39 (.ext 2 36),⟨none,
 .stn 4 4 37,none,false⟩,jm 5 38,jm 6 39] .ret))),[.celln 4 4,.tmp 5,.tmp 6]⟩
def F6:Fnc:=⟨js [p 4 (.box 1),p 6 (.mv kf)] (js [jm 8 0,p 9 (.nilc 8),p 10 (.fa 23 9),p 11 (.ldn 8 10),p 7 (.new [.bool false,.int .i64 0,.int .i64 0,.bool false,.int .i64 0,.int .i64 0,.int .i64 0,.bool false]),⟨none,.stn 8 7 11,none,
 false⟩] (.seq (.block 0 (js [p 13 (.fa 0 7),p 14 (.ld 13),p 15 (.not 14),jm 12 15] (.cond 12 (js [p 6 (.mv kt)] .ret) (js [p 17 (.fa 5 7),p 18 (.ld 17),p 19 (.bin .gtr 18 (ki 0)),jm 16 19] (.cond 16 (js [jm 20 0,p 21 (.nilc 20),
 p 22 (.fa 23 21),p 23 (.fa 5 22),p 24 (.ld 23),p 25 (.bin .sub 24 (ki 1)),p 26 (.nilc 20),p 27 (.fa 23 26),p 28 (.fa 5 27),⟨none,.st 28 25,none,false⟩] (js [p 6 (.mv kf)] .ret)) .skip))))) (js [jm 29 2,p 30 (.fa 6 7),p 31 (.ld 30),
 p 32 (.nilc 29),p 33 (.fa 7 32),⟨none,.st 33 31,none,false⟩] (.seq (js [p 34 (.fa 6 7),p 35 (.ld 34),p 36 (.bin .neq 35 (ki 0)),jm 37 36,jy 38 (.fa 7 7) 37,jy 39 (.ld 38) 37,jy 40 (.not 39) 37,p 41 (.pick 37 40 kf)] (.cond 41 (js [jm 42 0,
 p 43 (.nilc 42),p 44 (.fa 23 43),p 45 (.fa 7 44),⟨none,.st 45 kt,none,false⟩] (.seq (js [jm 46 0,p 47 (.nilc 46),p 48 (.fa 15 47),p 49 (.fa 0 48),p 50 (.ld 49)] (.cond 50 (js [jm 51 0,jm 52 0,p 53 (.nilc 52),p 54 (.fa 15 53),
 p 55 (.ldn 8 54),p 56 (.call 16 [51,55])] (.rg [jm 57 0,p 58 (.bd [.bool false,.int .i64 0,.int .i64 0,.bool false,.int .i64 0,.int .i64 0,.int .i64 0,.bool false] []),p 59 (.nilc 57),p 60 (.fa 15 59),⟨none,.stn 8 60 58,none,
 false⟩])) .skip)) (js [p 6 (.mv kf)] .ret))) .skip)) (js [jm 61 0,p 62 (.bd [.bool false,.int .i64 0,.int .i64 0,.bool false,.int .i64 0,.int .i64 0,.int .i64 0,.bool false] []),p 63 (.nilc 61),p 64 (.fa 23 63),⟨none,.stn 8 64 62,none,
 false⟩] (.seq (js [p 65 (.fa 6 7),p 66 (.ld 65)] (.block 1 (js [p 71 (.bin .eql 66 (ki 2)),jm 70 71] (.cond 70 (js [ju 72 (.mv 0),ju 73 (.nilc 72),ju 74 (.fa 7 73),ju 75 (.ld 74),ju 76 (.fa 1 7),ju 77 (.ld 76),p 78 (.ia 6 75 77),
 p 79 (.fa 3 78),p 80 (.ld 79),p 81 (.bin .add 80 (ki 1)),p 82 (.ia 6 75 77),p 83 (.fa 3 82),⟨none,.st 83 81,none,false⟩] (.rg [jm 84 0,p 85 (.ldn 8 7),p 86 (.call 16 [84,85])])) (js [p 88 (.bin .eql 66 (ki 3)),
 jm 87 88] (.cond 87 (js [ju 89 (.mv 0),ju 90 (.nilc 89),ju 91 (.fa 7 90),ju 92 (.ld 91),ju 93 (.fa 1 7),ju 94 (.ld 93),p 95 (.ia 6 92 94),p 96 (.fa 4 95),⟨none,.st 96 kt,none,false⟩] (js [ju 97 (.mv 0),ju 98 (.nilc 97),ju 99 (.fa 11 98),
 ju 100 (.ld 99),ju 101 (.fa 1 7),ju 102 (.ld 101),ju 103 (.mv 0),ju 104 (.nilc 103),ju 105 (.fa 0 104),ju 106 (.ldn 6 105),ju 107 (.ldn 3 4),ju 108 (.mv 0),ju 109 (.nilc 108),ju 110 (.fa 35 109),ju 111 (.ld 110),ju 112 (.call 75 [106,107,
 111]),p 113 (.ia 1 100 102),⟨none,.st 113 112,none,false⟩] (.rg [jm 114 0,p 115 (.ldn 8 7),p 116 (.call 16 [114,115])]))) (.rg [jm 67 0,p 68 (.ldn 8 7),p 69 (.call 4 [67,68])]))))))) (js [p 6 (.mv kt)] .ret))))))),[.tmp 6]⟩
def F7:Fnc:=⟨js [jm 2 0,p 3 (.nilc 2),p 4 (.fa 12 3),⟨none,.st 4 (ki (-1)),none,false⟩] (.rg [jm 5 0,p 6 (.nilc 5),p 7 (.fa 13 6),⟨none,.st 7 (ki 0),none,false⟩]),[]⟩
def F8:Fnc:=⟨js [p 2 (.mv (ki 0))] (js [jm 7 0,p 8 (.call 15 [7]),jm 6 8,p 9 (.ext 0 6),p 10 (.ext 1 6),jm 3 9,jm 4 10] (.seq (js [jm 11 3,p 12 (.bin .lss 11 (ki 0))] (.cond 12 (js [p 2 (.mv (ki (-1)))] .ret) .skip)) (js [jm 13 0,p 14 (.nilc 13),
 p 15 (.fa 7 14),p 16 (.ld 15),jm 17 3,p 18 (.ia 6 16 17),p 19 (.ldn 6 18),p 5 (.new [.slice none 0 0,.int .i64 0,.int .i64 0,.int .i64 0,.bool false,.bool false]),⟨none,.stn 6 5 19,none,false⟩] (js [ju 20 (.mv 0),ju 21 (.mv 3),
 ju 22 (.fa 1 5),ju 23 (.ld 22),ju 24 (.fa 1 5),ju 25 (.ld 24),ju 26 (.bin .eql 25 (ki 0)),ju 27 (.mv 26),jw 28 (.mv 0) 27 false,jw 29 (.nilc 28) 27 false,jw 30 (.fa 14 29) 27 false,jw 31 (.ld 30) 27 false,jw 32 (.mv 3) 27 false,
 jw 33 (.bin .neq 31 32) 27 false,ju 34 (.pick 27 kt 33),ju 35 (.mv 4),p 36 (.bd [.bool false,.int .i64 0,.int .i64 0,.bool false,.int .i64 0,.int .i64 0,.int .i64 0,.bool false] [(0,1,kt),(1,1,21),(2,1,23),(3,1,34),(4,1,35)]),
 p 37 (.nilc 20),p 38 (.fa 15 37),⟨none,.stn 8 38 36,none,false⟩] (.seq (js [p 39 (.ldn 6 5),p 40 (.call 93 [39]),jm 41 40,jy 42 (.mv 0) 41,jy 43 (.nilc 42) 41,jy 44 (.fa 12 43) 41,jy 45 (.ld 44) 41,jy 46 (.bin .eql 45 (ki (-1))) 41,
 p 47 (.pick 41 46 kf)] (.cond 47 (js [jm 48 0,jm 49 3,p 50 (.nilc 48),p 51 (.fa 12 50),⟨none,.st 51 49,none,false⟩] (.rg [jm 52 0,p 53 (.nilc 52),p 54 (.fa 13 53),⟨none,.st 54 (ki 0),none,false⟩])) .skip)) (js [ju 56 (.mv 0),
 ju 57 (.nilc 56),ju 58 (.fa 7 57),ju 59 (.ld 58),ju 60 (.mv 3),ju 61 (.ldn 6 5),ju 62 (.call 57 [61]),ju 55 (.mv 62),ju 63 (.ext 0 55),ju 64 (.ext 1 55),p 65 (.ia 6 59 60),⟨none,.stn 6 65 63,none,false⟩] (js [jm 66 0,jm 67 3,
 p 68 (.nilc 66),p 69 (.fa 14 68),⟨none,.st 69 67,none,false⟩] (js [jm 70 3,jm 2 70] .ret)))))))),[.tmp 2]⟩
def F9:Fnc:=⟨js [p 2 (.mv kf)] (.seq (js [jm 5 0,p 6 (.nilc 5),p 7 (.fa 7 6),p 8 (.ld 7),p 9 (.len 8),p 10 (.mv (ki 0))] (.block 0 (.loop (js [p 11 (.bin .lss 10 9)] (.seq (.cond 11 .skip (.exit 0)) (.seq (.block 1 (js [jm 12 10,p 13 (.ia 6 8 10),
 p 14 (.ldn 6 13),p 4 (.new [.slice none 0 0,.int .i64 0,.int .i64 0,.int .i64 0,.bool false,.bool false]),jm 3 12,⟨none,.stn 6 4 14,none,false⟩] (js [p 15 (.fa 1 4),p 16 (.ld 15),p 17 (.bin .gtr 16 (ki 0)),jm 18 17,jy 19 (.ldn 6 4) 18,
 jy 20 (.call 93 [19]) 18,p 21 (.pick 18 20 kf),jm 22 21,jy 23 (.mv 0) 22,jy 24 (.nilc 23) 22,jy 25 (.fa 12 24) 22,jy 26 (.ld 25) 22,jy 27 (.mv 3) 22,jy 28 (.bin .neq 26 27) 22,
 p 29 (.pick 22 28 kf)] (.cond 29 (js [p 2 (.mv kf)] .ret) .skip)))) (.rg [p 30 (.bin .add 10 (ki 1)),jm 10 30]))))))) (.seq (js [jm 31 0,p 32 (.nilc 31),p 33 (.fa 12 32),p 34 (.ld 33),p 35 (.bin .eql 34 (ki (-1)))] (.cond 35 (js [jm 36 0,
 p 37 (.nilc 36),p 38 (.fa 13 37),p 39 (.ld 38),p 40 (.bin .eql 39 (ki 0)),jm 2 40] .ret) .skip)) (js [ju 41 (.mv 0),ju 42 (.nilc 41),ju 43 (.fa 0 42),ju 44 (.ldn 6 43),ju 45 (.mv 0),ju 46 (.nilc 45),ju 47 (.fa 12 46),ju 48 (.ld 47),
 p 49 (.call 91 [44,48]),jm 50 49,jw 51 (.mv 0) 50 true,jw 52 (.nilc 51) 50 true,jw 53 (.fa 7 52) 50 true,jw 54 (.ld 53) 50 true,jw 55 (.mv 0) 50 true,jw 56 (.nilc 55) 50 true,jw 57 (.fa 12 56) 50 true,jw 58 (.ld 57) 50 true,
 jy 59 (.ia 6 54 58) 50,jy 60 (.ldn 6 59) 50,jy 61 (.call 93 [60]) 50,p 62 (.pick 50 61 kf),jm 63 62,jw 64 (.mv 0) 63 true,jw 65 (.nilc 64) 63 true,jw 66 (.fa 11 65) 63 true,jw 67 (.ld 66) 63 true,jw 68 (.mv 0) 63 true,
 jw 69 (.nilc 68) 63 true,jw 70 (.fa 12 69) 63 true,jw 71 (.ld 70) 63 true,jy 72 (.ia 1 67 71) 63,jy 73 (.ld 72) 63,jy 74 (.bin .eql 73 (ki 0)) 63,p 75 (.pick 63 74 kf),jm 76 75,jw 77 (.mv 0) 76 true,jw 78 (.nilc 77) 76 true,
 jw 79 (.fa 13 78) 76 true,jw 80 (.ld 79) 76 true,jw 81 (.mv 0) 76 true,jw 82 (.nilc 81) 76 true,jw 83 (.fa 0 82) 76 true,jw 84 (.fa 5 83) 76 true,jw 85 (.ld 84) 76 true,jy 86 (.call 103 [80,ki 0,85]) 76,p 87 (.pick 76 86 kf),
 jm 2 87] .ret))),[.tmp 2]⟩
def F12:Fnc:=⟨js [p 2 (.mv kf)] (js [p 3 (.mv (ki (-1)))] (.seq (js [jm 6 0,p 7 (.nilc 6),p 8 (.fa 36 7),p 9 (.ld 8),p 10 (.len 9),
 p 11 (.mv (ki 0))] (.block 0 (.loop (js [p 12 (.bin .lss 11 10)] (.seq (.cond 12 .skip (.exit 0)) (.seq (.block 1 (js [p 13 (.ia 7 9 11),p 14 (.ldn 7 13),p 5 (.new [.int .i64 0,.int .i64 0,.bool false,.int .i64 0,.int .i64 0,.int .i64 0,
 .int .i64 0]),⟨none,.stn 7 5 14,none,false⟩] (.seq (js [p 15 (.fa 0 5),p 16 (.ld 15),ju 17 (.mv 3),p 18 (.bin .leq 16 17),jm 19 18,jw 20 (.fa 0 5) 19 false,jw 21 (.ld 20) 19 false,jw 22 (.mv 0) 19 false,jw 23 (.nilc 22) 19 false,
 jw 24 (.fa 6 23) 19 false,jw 25 (.ld 24) 19 false,jz 26 (.bin .geq 21 25) 19,p 27 (.pick 19 kt 26),jm 28 27,jw 29 (.mv 0) 28 false,jw 30 (.nilc 29) 28 false,jw 31 (.fa 0 30) 28 false,jw 32 (.ldn 6 31) 28 false,jw 33 (.fa 1 5) 28 false,
 jw 34 (.ld 33) 28 false,jz 35 (.call 91 [32,34]) 28,jz 36 (.not 35) 28,p 37 (.pick 28 kt 36),jm 38 37,jw 39 (.fa 3 5) 38 false,jw 40 (.ld 39) 38 false,jw 41 (.fa 4 5) 38 false,jw 42 (.ld 41) 38 false,jz 43 (.call 21 [40,42]) 38,
 jz 44 (.not 43) 38,p 45 (.pick 38 kt 44),jm 46 45,jz 47 (.fa 3 5) 46,jz 48 (.ld 47) 46,jz 49 (.bin .geq 48 (ki 512)) 46,p 50 (.pick 46 kt 49),jm 51 50,jw 52 (.fa 5 5) 51 false,jw 53 (.ld 52) 51 false,jw 54 (.fa 4 5) 51 false,
 jw 55 (.ld 54) 51 false,jz 56 (.call 92 [53,55]) 51,jz 57 (.not 56) 51,p 58 (.pick 51 kt 57),jm 59 58,jz 60 (.fa 6 5) 59,jz 61 (.ld 60) 59,jz 62 (.bin .neq 61 (ki 0)) 59,jz 63 (.mv 62) 59,jy 64 (.fa 6 5) 63,jy 65 (.ld 64) 63,
 jy 66 (.bin .neq 65 (ki 1)) 63,jz 67 (.pick 63 66 kf) 59,p 68 (.pick 59 kt 67)] (.cond 68 (js [p 2 (.mv kf)] .ret) .skip)) (.rg [p 69 (.fa 0 5),p 70 (.ld 69),jm 3 70])))) (.rg [p 71 (.bin .add 11 (ki 1)),
 jm 11 71]))))))) (js [p 2 (.mv kt)] .ret))),[.tmp 2]⟩
def F13:Fnc:=⟨js [p 2 (.mv (.k (.slice none 0 0)))] (js [ju 3 (.mv 0),ju 4 (.nilc 3),ju 5 (.fa 15 4),ju 6 (.ldn 8 5),ju 7 (.mv 0),ju 8 (.nilc 7),ju 9 (.fa 23 8),ju 10 (.ldn 8 9),p 11 (.bs 8 2 [.bool false,.int .i64 0,.int .i64 0,.bool false,.int .i64 0,
 .int .i64 0,.int .i64 0,.bool false] [(0,6),(1,10)]),p 12 (.call 261 [11,.k (.func (.func 14) #[] #[])]),jm 2 12] .ret),[.tmp 2]⟩
def F14:Fnc:=⟨js [p 1 (.box 0),p 2 (.mv kf)] (js [p 3 (.fa 0 1),p 4 (.ld 3),p 5 (.not 4),jm 2 5] .ret),[.tmp 2]⟩
def F15:Fnc:=⟨js [p 2 (.mv (ki 0)),p 3 (.mv (ki 0))] (js [p 13 (.bs 1 0 [.bool false] []),jm 4 13] (.seq (js [jm 14 0,p 15 (.nilc 14),p 16 (.fa 7 15),p 17 (.ld 16),p 18 (.len 17),
 p 19 (.mv (ki 0))] (.block 0 (.loop (js [p 20 (.bin .lss 19 18)] (.seq (.cond 20 .skip (.exit 0)) (.seq (.block 1 (js [jm 21 19,p 22 (.ia 6 17 19),p 23 (.ldn 6 22),p 6 (.new [.slice none 0 0,.int .i64 0,.int .i64 0,.int .i64 0,.bool false,
 .bool false]),jm 5 21,⟨none,.stn 6 6 23,none,false⟩] (.rg [jm 24 4,p 25 (.ldn 6 6),p 26 (.call 59 [25]),jm 27 26,jy 28 (.mv 0) 27,jy 29 (.nilc 28) 27,jy 30 (.fa 11 29) 27,jy 31 (.ld 30) 27,jy 32 (.mv 5) 27,jy 33 (.ia 1 31 32) 27,
 jy 34 (.ld 33) 27,jy 35 (.bin .eql 34 (ki 0)) 27,p 36 (.pick 27 35 kf),jm 37 36,jy 38 (.mv 0) 37,jy 39 (.nilc 38) 37,jy 40 (.fa 12 39) 37,jy 41 (.ld 40) 37,jy 42 (.bin .eql 41 (ki (-1))) 37,jy 43 (.mv 42) 37,jz 44 (.mv 0) 43,
 jz 45 (.nilc 44) 43,jz 46 (.fa 12 45) 43,jz 47 (.ld 46) 43,jz 48 (.mv 5) 43,jz 49 (.bin .eql 47 48) 43,jy 50 (.pick 43 kt 49) 37,p 51 (.pick 37 50 kf),p 52 (.bs 1 1 [.bool false] [(0,51)]),p 53 (.app 1 1 24 52),
 jm 4 53]))) (.rg [p 54 (.bin .add 19 (ki 1)),jm 19 54]))))))) (.seq (js [jm 55 0,p 56 (.nilc 55),p 57 (.fa 12 56),p 58 (.ld 57),p 59 (.bin .neq 58 (ki (-1))),jm 60 59,jy 61 (.mv 4) 60,jy 62 (.mv 0) 60,jy 63 (.nilc 62) 60,
 jy 64 (.fa 12 63) 60,jy 65 (.ld 64) 60,jy 66 (.ia 1 61 65) 60,jy 67 (.ld 66) 60,p 68 (.pick 60 67 kf)] (.cond 68 (js [jm 69 0,p 70 (.nilc 69),p 71 (.fa 12 70),p 72 (.ld 71),jm 2 72,p 3 (.mv (ki 3))] .ret) .skip)) (.seq (js [jm 73 4,
 p 74 (.len 73),p 75 (.mv (ki 0))] (.block 2 (.loop (js [p 76 (.bin .lss 75 74)] (.seq (.cond 76 .skip (.exit 2)) (.seq (.block 3 (js [jm 77 75,p 78 (.ia 1 73 75),p 79 (.ld 78),jm 7 77,jm 8 79] (.seq (js [jm 80 8,
 p 81 (.not 80)] (.cond 81 (.exit 3) .skip)) (js [ju 83 (.mv 0),ju 84 (.nilc 83),ju 85 (.fa 10 84),ju 86 (.ld 85),ju 87 (.mv 7),ju 88 (.ia 2 86 87),ju 89 (.ldn 2 88),ju 90 (.mv 0),ju 91 (.nilc 90),ju 92 (.fa 0 91),ju 93 (.fa 0 92),
 ju 94 (.ld 93),ju 95 (.mv 7),ju 96 (.ia 4 94 95),ju 97 (.ldn 4 96),ju 98 (.call 27 [89,97]),ju 82 (.mv 98),ju 99 (.ext 0 82),ju 100 (.ext 1 82),ju 9 (.new [.int .i64 0,.int .i64 0]),⟨none,.stn 2 9 99,none,false⟩,
 jm 10 100] (js [jm 101 10] (.cond 101 (js [ju 102 (.mv 0),ju 103 (.nilc 102),ju 104 (.fa 10 103),ju 105 (.ld 104),ju 106 (.mv 7),ju 107 (.ldn 2 9),p 108 (.ia 2 105 106),⟨none,.stn 2 108 107,none,false⟩] (js [jm 109 7,jm 2 109,
 p 3 (.mv (ki 1))] .ret)) .skip)))))) (.rg [p 110 (.bin .add 75 (ki 1)),jm 75 110]))))))) (.seq (js [jm 111 0,p 112 (.nilc 111),p 113 (.fa 12 112),p 114 (.ld 113),p 115 (.bin .neq 114 (ki (-1)))] (.cond 115 (js [p 2 (.mv (ki (-1))),
 p 3 (.mv (ki 0))] .ret) .skip)) (js [ju 117 (.mv 0),ju 118 (.nilc 117),ju 119 (.fa 8 118),ju 120 (.ldn 2 119),ju 121 (.mv 0),ju 122 (.nilc 121),ju 123 (.fa 0 122),ju 124 (.ldn 6 123),ju 125 (.mv 4),ju 126 (.call 83 [120,124,125]),
 ju 116 (.mv 126),ju 127 (.ext 0 116),ju 128 (.ext 1 116),ju 11 (.new [.int .i64 0,.int .i64 0]),⟨none,.stn 2 11 127,none,false⟩,jm 12 128] (js [jm 129 0,p 130 (.ldn 2 11),p 131 (.nilc 129),p 132 (.fa 8 131),⟨none,.stn 2 132 130,none,
 false⟩] (js [jm 133 12,jm 2 133,p 3 (.mv (ki 2))] .ret)))))))),[.tmp 2,.tmp 3]⟩
def F16:Fnc:=⟨js [p 3 (.box 1)] (js [ju 5 (.mv 0),ju 6 (.nilc 5),ju 7 (.fa 7 6),ju 8 (.ld 7),ju 9 (.fa 1 3),ju 10 (.ld 9),ju 11 (.mv 0),ju 12 (.nilc 11),ju 13 (.fa 7 12),ju 14 (.ld 13),ju 15 (.fa 1 3),ju 16 (.ld 15),ju 17 (.ia 6 14 16),
 ju 18 (.ldn 6 17),ju 19 (.call 55 [18]),ju 4 (.mv 19),ju 20 (.ext 0 4),ju 21 (.ext 1 4),p 22 (.ia 6 8 10),⟨none,.stn 6 22 20,none,false⟩] (js [p 23 (.fa 4 3),p 24 (.ld 23)] (.block 0 (js [p 26 (.bin .eql 24 (ki 1)),
 jm 25 26] (.cond 25 (.rg [ju 27 (.mv 0),ju 28 (.nilc 27),ju 29 (.fa 10 28),ju 30 (.ld 29),ju 31 (.fa 1 3),ju 32 (.ld 31),ju 33 (.mv 0),ju 34 (.nilc 33),ju 35 (.fa 10 34),ju 36 (.ld 35),ju 37 (.fa 1 3),ju 38 (.ld 37),ju 39 (.ia 2 36 38),
 ju 40 (.ldn 2 39),ju 41 (.mv 0),ju 42 (.nilc 41),ju 43 (.fa 0 42),ju 44 (.fa 0 43),ju 45 (.ld 44),ju 46 (.fa 1 3),ju 47 (.ld 46),ju 48 (.ia 4 45 47),ju 49 (.ldn 4 48),ju 50 (.call 24 [40,49]),p 51 (.ia 2 30 32),⟨none,.stn 2 51 50,none,
 false⟩]) (js [p 53 (.bin .eql 24 (ki 2)),jm 52 53] (.cond 52 (.rg [ju 54 (.mv 0),ju 55 (.mv 0),ju 56 (.nilc 55),ju 57 (.fa 8 56),ju 58 (.ldn 2 57),ju 59 (.mv 0),ju 60 (.nilc 59),ju 61 (.fa 0 60),ju 62 (.ldn 6 61),ju 63 (.fa 1 3),
 ju 64 (.ld 63),p 65 (.call 81 [58,62,64]),p 66 (.nilc 54),p 67 (.fa 8 66),⟨none,.stn 2 67 65,none,false⟩]) .skip))))))),[]⟩
def F17:Fnc:=⟨js [p 3 (.box 1),p 4 (.new [.int .i64 0,.int .i64 0,.int .i64 0,.int .i64 0,.int .i64 0,.int .i64 0,.bool false,.int .i64 0,.int .i64 0])] (js [jm 13 0,p 14 (.nilc 13),p 15 (.fa 6 14),p 16 (.ld 15),p 17 (.bd [.int .i64 0,.int .i64 0,
 .int .i64 0,.int .i64 0,.int .i64 0,.int .i64 0,.bool false,.int .i64 0,.int .i64 0] [(0,1,16),(1,1,ki (-1)),(3,1,ki (-1)),(4,1,ki (-1)),(5,1,ki (-1)),(8,1,ki (-1)),(6,1,kt)]),p 5 (.new [.int .i64 0,.int .i64 0,.int .i64 0,.int .i64 0,
 .int .i64 0,.int .i64 0,.bool false,.int .i64 0,.int .i64 0]),⟨none,.stn 9 5 17,none,false⟩] (.seq (js [jm 18 0,p 19 (.nilc 18),p 20 (.fa 15 19),p 21 (.ldn 8 20),p 6 (.new [.bool false,.int .i64 0,.int .i64 0,.bool false,.int .i64 0,
 .int .i64 0,.int .i64 0,.bool false]),⟨none,.stn 8 6 21,none,false⟩] (js [p 22 (.fa 0 6),p 23 (.ld 22)] (.cond 23 (js [ju 24 (.mv 0),ju 25 (.nilc 24),ju 26 (.fa 7 25),ju 27 (.ld 26),ju 28 (.fa 1 6),ju 29 (.ld 28),ju 30 (.ia 6 27 29),
 ju 31 (.ldn 6 30),ju 32 (.fa 2 6),ju 33 (.ld 32),ju 34 (.call 54 [31,33]),ju 35 (.fa 1 6),ju 36 (.ld 35),ju 37 (.fa 1 5),⟨none,.st 37 34,none,true⟩,p 38 (.fa 3 5),⟨none,.st 38 36,none,false⟩,p 39 (.fa 2 5),⟨none,.st 39 (ki 3),none,
 false⟩] (js [p 40 (.fa 3 6),p 41 (.ld 40)] (.cond 41 (.rg [p 42 (.fa 2 5),⟨none,.st 42 (ki 2),none,false⟩]) .skip))) .skip))) (.seq (js [jm 43 0,p 44 (.nilc 43),p 45 (.fa 23 44),p 46 (.ldn 8 45),p 7 (.new [.bool false,.int .i64 0,
 .int .i64 0,.bool false,.int .i64 0,.int .i64 0,.int .i64 0,.bool false]),⟨none,.stn 8 7 46,none,false⟩] (js [p 47 (.fa 0 7),p 48 (.ld 47)] (.cond 48 (.rg [ju 49 (.mv 0),ju 50 (.nilc 49),ju 51 (.fa 7 50),ju 52 (.ld 51),ju 53 (.fa 1 7),
 ju 54 (.ld 53),ju 55 (.ia 6 52 54),ju 56 (.ldn 6 55),ju 57 (.fa 2 7),ju 58 (.ld 57),ju 59 (.call 54 [56,58]),ju 60 (.fa 1 7),ju 61 (.ld 60),ju 62 (.fa 4 5),⟨none,.st 62 59,none,true⟩,p 63 (.fa 5 5),⟨none,.st 63 61,none,
 false⟩]) .skip))) (.seq (js [ju 64 (.ldn 3 3),ju 65 (.mv 0),ju 66 (.nilc 65),ju 67 (.fa 6 66),ju 68 (.ld 67),p 69 (.call 61 [64,68]),p 70 (.len 69),
 ju 71 (.mv (ki 0))] (.block 0 (.loop (js [p 72 (.bin .lss 71 70)] (.seq (.cond 72 .skip (.exit 0)) (.seq (.block 1 (js [p 73 (.ia 8 69 71),p 74 (.ldn 8 73),p 9 (.new [.int .i64 0,.int .i64 0,.bool false,.int .i64 0,.int .i64 0,.int .i64 0,
 .bool false,.slice none 0 0]),⟨none,.stn 8 9 74,none,false⟩] (js [ju 75 (.mv 0),ju 76 (.nilc 75),ju 77 (.fa 0 76),ju 78 (.ldn 6 77),ju 79 (.fa 1 9),ju 80 (.ld 79),p 81 (.call 91 [78,80])] (.cond 81 (.rg [ju 83 (.mv 0),ju 84 (.nilc 83),
 ju 85 (.fa 7 84),ju 86 (.ld 85),ju 87 (.fa 1 9),ju 88 (.ld 87),ju 89 (.mv 0),ju 90 (.nilc 89),ju 91 (.fa 7 90),ju 92 (.ld 91),ju 93 (.fa 1 9),ju 94 (.ld 93),ju 95 (.ia 6 92 94),ju 96 (.ldn 6 95),ju 97 (.fa 2 9),ju 98 (.ldn 6 97),
 ju 99 (.call 58 [96,98]),ju 82 (.mv 99),ju 100 (.ext 0 82),ju 101 (.ext 1 82),p 102 (.ia 6 86 88),⟨none,.stn 6 102 100,none,false⟩]) .skip)))) (.rg [p 103 (.bin .add 71 (ki 1)),jm 71 103]))))))) (.seq (js [jm 104 0,p 105 (.nilc 104),
 p 106 (.fa 11 105),p 107 (.ld 106),p 108 (.len 107),p 109 (.mv (ki 0))] (.block 2 (.loop (js [p 110 (.bin .lss 109 108)] (.seq (.cond 110 .skip (.exit 2)) (.seq (.block 3 (js [jm 111 109,p 112 (.ia 1 107 109),p 113 (.ld 112),jm 10 111,
 jm 11 113] (js [jm 114 0,p 115 (.nilc 114),p 116 (.fa 11 115),p 117 (.ld 116),jm 118 10,jm 119 11,p 120 (.bin .sub 119 (ki 1)),p 121 (.mx [120,ki 0]),p 122 (.ia 1 117 118),⟨none,.st 122 121,none,false⟩] (.rg [ju 123 (.mv 0),
 ju 124 (.nilc 123),ju 125 (.fa 10 124),ju 126 (.ld 125),ju 127 (.mv 10),ju 128 (.mv 0),ju 129 (.nilc 128),ju 130 (.fa 10 129),ju 131 (.ld 130),ju 132 (.mv 10),ju 133 (.ia 2 131 132),ju 134 (.ldn 2 133),ju 135 (.mv 0),ju 136 (.nilc 135),
 ju 137 (.fa 0 136),ju 138 (.fa 0 137),ju 139 (.ld 138),ju 140 (.mv 10),ju 141 (.ia 4 139 140),ju 142 (.ldn 4 141),ju 143 (.call 28 [134,142]),p 144 (.ia 2 126 127),⟨none,.stn 2 144 143,none,false⟩])))) (.rg [p 145 (.bin .add 109 (ki 1)),
 jm 109 145]))))))) (.seq (js [jm 146 0,p 147 (.nilc 146),p 148 (.fa 12 147),p 149 (.ld 148),p 150 (.bin .neq 149 (ki (-1)))] (.cond 150 (.rg [ju 151 (.mv 0),ju 152 (.mv 0),ju 153 (.nilc 152),ju 154 (.fa 13 153),ju 155 (.ld 154),
 ju 156 (.bin .add 155 (ki 1)),ju 157 (.mv 0),ju 158 (.nilc 157),ju 159 (.fa 0 158),ju 160 (.fa 5 159),ju 161 (.ld 160),p 162 (.mn [156,161]),p 163 (.nilc 151),p 164 (.fa 13 163),⟨none,.st 164 162,none,false⟩]) .skip)) (js [jm 165 0,
 p 166 (.ldn 3 3),p 167 (.call 6 [165,166,5]),p 168 (.fa 6 5),⟨none,.st 168 167,none,false⟩] (.seq (js [p 169 (.fa 6 5),p 170 (.ld 169)] (.cond 170 (.seq (js [jm 171 0,p 172 (.nilc 171),p 173 (.fa 12 172),p 174 (.ld 173),
 p 175 (.bin .neq 174 (ki (-1))),jm 176 175,jw 177 (.mv 0) 176 true,jw 178 (.nilc 177) 176 true,jw 179 (.fa 13 178) 176 true,jw 180 (.ld 179) 176 true,jw 181 (.mv 0) 176 true,jw 182 (.nilc 181) 176 true,jw 183 (.fa 0 182) 176 true,
 jw 184 (.fa 5 183) 176 true,jw 185 (.ld 184) 176 true,jy 186 (.bin .eql 180 185) 176,p 187 (.pick 176 186 kf)] (.cond 187 (js [ju 188 (.mv 0),ju 189 (.nilc 188),ju 190 (.fa 7 189),ju 191 (.ld 190),ju 192 (.mv 0),ju 193 (.nilc 192),
 ju 194 (.fa 12 193),ju 195 (.ld 194),p 196 (.ia 6 191 195),p 197 (.fa 5 196),⟨none,.st 197 kt,none,false⟩] (.rg [jm 198 0,p 199 (.call 7 [198])])) .skip)) (.seq (js [jm 200 0,p 201 (.nilc 200),p 202 (.fa 15 201),p 203 (.ldn 8 202),
 p 12 (.new [.bool false,.int .i64 0,.int .i64 0,.bool false,.int .i64 0,.int .i64 0,.int .i64 0,.bool false]),⟨none,.stn 8 12 203,none,false⟩] (js [p 204 (.fa 0 12),p 205 (.ld 204)] (.cond 205 (js [jm 207 0,p 208 (.ldn 3 3),
 p 209 (.ldn 8 12),p 210 (.call 1 [207,208,209]),jm 206 210,p 211 (.ext 0 206),p 212 (.ext 1 206),p 213 (.fa 6 12),⟨none,.st 213 211,none,false⟩,p 214 (.fa 5 12),⟨none,.st 214 212,none,false⟩] (js [jm 215 0,jm 216 0,p 217 (.ldn 8 12),
 p 218 (.bd [.bool false,.int .i64 0,.int .i64 0,.bool false,.int .i64 0,.int .i64 0,.int .i64 0,.bool false] []),p 219 (.nilc 215),p 220 (.fa 23 219),⟨none,.stn 8 220 217,none,false⟩,p 221 (.nilc 216),p 222 (.fa 15 221),⟨none,
 .stn 8 222 218,none,false⟩] (.rg [jm 223 0,p 224 (.nilc 223),p 225 (.fa 35 224),p 226 (.ld 225),p 227 (.bin .add 226 (ki 1)),p 228 (.nilc 223),p 229 (.fa 35 228),⟨none,.st 229 227,none,false⟩]))) .skip))) (.rg [jm 230 0,
 p 231 (.call 8 [230]),p 232 (.fa 8 5),⟨none,.st 232 231,none,false⟩]))) .skip)) (js [jm 233 0,p 234 (.nilc 233),p 235 (.fa 6 234),p 236 (.ld 235),p 237 (.bin .add 236 (ki 1)),p 238 (.nilc 233),p 239 (.fa 6 238),⟨none,.st 239 237,none,
 false⟩] (js [p 240 (.ldn 9 5),⟨none,.stn 9 4 240,none,false⟩] .ret)))))))))),[.celln 4 9]⟩
def F18:Fnc:=⟨js [p 2 (.mv (ki 0))] (.seq (js [jm 3 0,p 4 (.nilc 3),p 5 (.fa 0 4),p 6 (.ld 5),p 7 (.len 6),p 8 (.bin .eql 7 (ki 0))] (.cond 8 (js [p 2 (.mv (ki 0))] .ret) .skip)) (js [jm 9 0,p 10 (.nilc 9),p 11 (.fa 0 10),p 12 (.ld 11),
 p 13 (.ia 6 12 (ki 0)),p 14 (.fa 3 13),p 15 (.ld 14),p 16 (.call 22 [15]),jm 2 16] .ret)),[.tmp 2]⟩
def F19:Fnc:=⟨js [p 4 (.mv (ki 0))] (.seq (js [jm 6 0,p 7 (.nilc 6),p 8 (.fa 0 7),p 9 (.ld 8),p 10 (.ia 6 9 (ki 0)),p 11 (.ldn 6 10),p 5 (.new [.bool false,.int .i64 0,.int .i64 0,.int .i64 0,.bool false,.slice none 0 0]),⟨none,.stn 6 5 11,none,
 false⟩] (js [p 12 (.fa 0 5),p 13 (.ld 12)] (.cond 13 (js [p 14 (.fa 5 5),p 15 (.ld 14),jm 16 1,p 17 (.ia 1 15 16),p 18 (.ld 17),jm 4 18] .ret) .skip))) (js [p 4 (.mv (ki 0))] .ret)),[.tmp 4]⟩
def F21:Fnc:=⟨js [p 4 (.mv kf)] (js [jm 5 1,p 6 (.call 103 [5,ki 0,ki 2]),jm 7 6,jy 8 (.mv 0) 7,jy 9 (.bin .geq 8 (ki 0)) 7,p 10 (.pick 7 9 kf),jm 11 10,jy 12 (.mv 0) 11,jy 13 (.mv 1) 11,jy 14 (.call 33 [13]) 11,jy 15 (.bin .rem 12 14) 11,
 jy 16 (.bin .eql 15 (ki 0)) 11,p 17 (.pick 11 16 kf),jm 4 17] .ret),[.tmp 4]⟩
def F22:Fnc:=⟨js [p 2 (.mv (ki 0))] (.seq (js [jm 3 0,p 4 (.call 103 [3,ki 0,ki 3]),p 5 (.not 4)] (.cond 5 (js [p 2 (.mv (ki 0))] .ret) .skip)) (js [p 6 (.bs 1 4 [.int .i64 0] [(0,ki 1),(1,ki 4),(2,ki 4),(3,ki 8)]),jm 7 0,p 8 (.ia 1 6 7),p 9 (.ld 8),
 jm 2 9] .ret)),[.tmp 2]⟩
def F24:Fnc:=⟨js [p 2 (.box 0),p 3 (.box 1),p 4 (.new [.int .i64 0,.int .i64 0])] (.seq (js [p 5 (.ldn 2 2),p 6 (.ldn 4 3),p 7 (.call 90 [5,6]),jm 8 7,jy 9 (.fa 0 2) 8,jy 10 (.ld 9) 8,jy 11 (.fa 3 3) 8,jy 12 (.ld 11) 8,jy 13 (.bin .lss 10 12) 8,
 p 14 (.pick 8 13 kf)] (.cond 14 (.rg [p 15 (.fa 0 2),p 16 (.ld 15),p 17 (.bin .add 16 (ki 1)),p 18 (.fa 0 2),⟨none,.st 18 17,none,false⟩]) .skip)) (js [p 19 (.ldn 2 2),⟨none,.stn 2 4 19,none,false⟩] .ret)),[.celln 4 2]⟩
def F26:Fnc:=⟨js [p 2 (.box 0),p 3 (.box 1),p 4 (.mv kf)] (.seq (js [p 5 (.fa 1 3),p 6 (.ld 5),p 7 (.not 6)] (.cond 7 (js [p 8 (.ldn 2 2),p 9 (.bd [.int .i64 0,.int .i64 0] []),p 10 (.eqs false [.i,.i] 8 9),jm 4 10] .ret) .skip)) (js [p 11 (.fa 0 2),
 p 12 (.ld 11),p 13 (.fa 3 3),p 14 (.ld 13),p 15 (.call 103 [12,ki 0,14]),jm 16 15,jy 17 (.fa 1 2) 16,jy 18 (.ld 17) 16,jy 19 (.bin .geq 18 (ki 0)) 16,p 20 (.pick 16 19 kf),jm 21 20,jy 22 (.fa 1 2) 21,jy 23 (.ld 22) 21,jy 24 (.fa 2 3) 21,
 jy 25 (.ld 24) 21,jy 26 (.bin .lss 23 25) 21,p 27 (.pick 21 26 kf),jm 4 27] .ret)),[.tmp 4]⟩
def F27:Fnc:=⟨js [p 2 (.box 0),p 3 (.box 1),p 4 (.new [.int .i64 0,.int .i64 0]),p 5 (.mv kf)] (.seq (js [p 6 (.ldn 2 2),p 7 (.ldn 4 3),p 8 (.call 90 [6,7]),p 9 (.not 8),jm 10 9,jz 11 (.fa 0 2) 10,jz 12 (.ld 11) 10,jz 13 (.bin .eql 12 (ki 0)) 10,
 p 14 (.pick 10 kt 13)] (.cond 14 (js [p 15 (.ldn 2 2),⟨none,.stn 2 4 15,none,false⟩,p 5 (.mv kf)] .ret) .skip)) (js [p 16 (.fa 0 2),p 17 (.ld 16),p 18 (.bin .sub 17 (ki 1)),p 19 (.fa 0 2),⟨none,.st 19 18,none,false⟩] (js [p 20 (.ldn 2 2),
 ⟨none,.stn 2 4 20,none,false⟩,p 5 (.mv kt)] .ret))),[.celln 4 2,.tmp 5]⟩
def F28:Fnc:=⟨js [p 2 (.box 0),p 3 (.box 1),p 4 (.new [.int .i64 0,.int .i64 0])] (.seq (js [p 5 (.ldn 2 2),p 6 (.ldn 4 3),p 7 (.call 90 [5,6]),p 8 (.not 7)] (.cond 8 (js [p 9 (.ldn 2 2),⟨none,.stn 2 4 9,none,false⟩] .ret) .skip)) (js [p 10 (.fa 1 2),
 p 11 (.ld 10),p 12 (.bin .add 11 (ki 1)),p 13 (.fa 1 2),⟨none,.st 13 12,none,false⟩] (.seq (js [p 14 (.fa 1 2),p 15 (.ld 14),p 16 (.fa 2 3),p 17 (.ld 16),p 18 (.bin .eql 15 17)] (.cond 18 (js [p 19 (.fa 1 2),⟨none,.st 19 (ki 0),none,
 false⟩] (.rg [p 20 (.fa 0 2),p 21 (.ld 20),p 22 (.bin .add 21 (ki 1)),p 23 (.fa 3 3),p 24 (.ld 23),p 25 (.mn [22,24]),p 26 (.fa 0 2),⟨none,.st 26 25,none,false⟩])) .skip)) (js [p 27 (.ldn 2 2),⟨none,.stn 2 4 27,none,false⟩] .ret)))),
 [.celln 4 2]⟩
def F29:Fnc:=⟨js [p 6 (.mv (.k (.slice none 0 0)))] (js [p 9 (.bs 1 0 [.int .i64 0] []),jm 7 9] (.seq (js [jm 10 2,p 11 (.call 22 [10]),
 p 12 (.mv (ki 0))] (.block 0 (.loop (js [p 13 (.bin .lss 12 11)] (.seq (.cond 13 .skip (.exit 0)) (.seq (.block 1 (js [jm 14 0,jm 15 1,jm 16 2,p 17 (.call 60 [14,15,16]),jm 8 17] (.seq (js [jm 18 8,
 p 19 (.bin .lss 18 (ki 0))] (.cond 19 (js [p 6 (.mv (.k (.slice none 0 0)))] .ret) .skip)) (js [jm 20 7,jm 21 0,p 22 (.bs 1 1 [.int .i64 0] [(0,21)]),p 23 (.app 1 8 20 22),jm 7 23] (.rg [jm 24 8,
 jm 0 24]))))) (.rg [p 25 (.bin .add 12 (ki 1)),jm 12 25]))))))) (js [jm 26 7,jm 6 26] .ret))),[.tmp 6]⟩
def F30:Fnc:=⟨js [p 6 (.mv kf)] (js [jm 10 0,jm 11 1,jm 12 2,p 13 (.call 29 [10,11,12]),jm 7 13] (.seq (js [jm 14 7,p 15 (.len 14),
 p 16 (.mv (ki 0))] (.block 0 (.loop (js [p 17 (.bin .lss 16 15)] (.seq (.cond 17 .skip (.exit 0)) (.seq (.block 1 (js [p 18 (.ia 1 14 16),p 19 (.ld 18),jm 9 19] (js [jm 20 9,p 21 (.bin .quo 20 (ki 64)),jm 22 7,p 23 (.ia 1 22 (ki 0)),
 p 24 (.ld 23),p 25 (.bin .quo 24 (ki 64)),p 26 (.bin .neq 21 25)] (.cond 26 (js [p 6 (.mv kf)] .ret) .skip)))) (.rg [p 27 (.bin .add 16 (ki 1)),jm 16 27]))))))) (js [jm 28 7,p 29 (.len 28),p 30 (.bin .gtr 29 (ki 0)),jm 6 30] .ret))),
 [.tmp 6]⟩
def F31:Fnc:=⟨js [p 1 (.box 0),p 2 (.mv kf)] (js [p 3 (.fa 0 1),p 4 (.ldn 6 3),p 5 (.call 34 [4]),jm 6 5,jy 7 (.fa 6 1) 6,jy 8 (.ld 7) 6,jy 9 (.call 103 [8,ki 0,ki 4000]) 6,p 10 (.pick 6 9 kf),jm 11 10,jy 12 (.call 3 [1]) 11,p 13 (.pick 11 12 kf),
 jm 14 13,jy 15 (.fa 8 1) 14,jy 16 (.ldn 2 15) 14,jy 17 (.fa 0 1) 14,jy 18 (.ldn 6 17) 14,jy 19 (.call 82 [16,18]) 14,p 20 (.pick 14 19 kf),jm 21 20,jy 22 (.fa 14 1) 21,jy 23 (.ld 22) 21,jy 24 (.bin .eql 23 (ki (-1))) 21,jy 25 (.mv 24) 21,
 jz 26 (.fa 0 1) 25,jz 27 (.ldn 6 26) 25,jz 28 (.fa 14 1) 25,jz 29 (.ld 28) 25,jz 30 (.call 91 [27,29]) 25,jy 31 (.pick 25 kt 30) 21,p 32 (.pick 21 31 kf),jm 33 32,jy 34 (.fa 31 1) 33,jy 35 (.ldn 4 34) 33,jy 36 (.call 53 [35]) 33,
 p 37 (.pick 33 36 kf),jm 38 37,jy 39 (.fa 35 1) 38,jy 40 (.ld 39) 38,jy 41 (.fa 6 1) 38,jy 42 (.ld 41) 38,jy 43 (.call 103 [40,ki 0,42]) 38,p 44 (.pick 38 43 kf),jm 45 44,jy 46 (.call 2 [1]) 45,p 47 (.pick 45 46 kf),jm 48 47,
 jy 49 (.call 9 [1]) 48,p 50 (.pick 48 49 kf),jm 51 50,jy 52 (.call 12 [1]) 51,p 53 (.pick 51 52 kf),jm 2 53] .ret),[.tmp 2]⟩
def F32:Fnc:=⟨js [p 3 (.box 0),p 4 (.box 1),p 6 (.new [.slice none 0 0,.int .i64 0,.int .i64 0,.int .i64 0,.int .i64 0,.int .i64 0,.int .i64 0,.slice none 0 0,.int .i64 0,.int .i64 0,.slice none 0 0,.slice none 0 0,.int .i64 0,.int .i64 0,.int .i64 0,
 .bool false,.int .i64 0,.int .i64 0,.bool false,.int .i64 0,.int .i64 0,.int .i64 0,.bool false,.bool false,.int .i64 0,.int .i64 0,.bool false,.int .i64 0,.int .i64 0,.int .i64 0,.bool false,.slice none 0 0,.slice none 0 0,.int .i64 0,
 .slice none 0 0,.int .i64 0,.slice none 0 0]),p 7 (.mv (.k (.slice none 0 0)))] (js [p 10 (.ldn 37 3),p 11 (.call 95 [10]),p 12 (.bs 9 0 [.int .i64 0,.int .i64 0,.int .i64 0,.int .i64 0,.int .i64 0,.int .i64 0,.bool false,.int .i64 0,
 .int .i64 0] []),p 8 (.new [.slice none 0 0,.int .i64 0,.int .i64 0,.int .i64 0,.int .i64 0,.int .i64 0,.int .i64 0,.slice none 0 0,.int .i64 0,.int .i64 0,.slice none 0 0,.slice none 0 0,.int .i64 0,.int .i64 0,.int .i64 0,.bool false,
 .int .i64 0,.int .i64 0,.bool false,.int .i64 0,.int .i64 0,.int .i64 0,.bool false,.bool false,.int .i64 0,.int .i64 0,.bool false,.int .i64 0,.int .i64 0,.int .i64 0,.bool false,.slice none 0 0,.slice none 0 0,.int .i64 0,.slice none 0 0,
 .int .i64 0,.slice none 0 0]),⟨none,.stn 37 8 11,none,false⟩,jm 9 12] (.seq (js [p 13 (.ldn 37 3),p 14 (.call 31 [13]),p 15 (.not 14),jm 16 15,jz 17 (.mv 2) 16,jz 18 (.fa 6 3) 16,jz 19 (.ld 18) 16,jz 20 (.bin .sub (ki 4000) 19) 16,
 jz 21 (.call 103 [17,ki 0,20]) 16,jz 22 (.not 21) 16,p 23 (.pick 16 kt 22)] (.cond 23 (js [p 24 (.ldn 37 8),⟨none,.stn 37 6 24,none,false⟩,p 7 (.mv (.k (.slice none 0 0)))] .ret) .skip)) (.seq (js [jm 25 2,
 p 26 (.mv (ki 0))] (.block 0 (.loop (js [p 27 (.bin .lss 26 25)] (.seq (.cond 27 .skip (.exit 0)) (.seq (.block 1 (.rg [jm 28 9,p 29 (.ldn 3 4),p 30 (.call 17 [8,29]),p 31 (.bs 9 1 [.int .i64 0,.int .i64 0,.int .i64 0,.int .i64 0,
 .int .i64 0,.int .i64 0,.bool false,.int .i64 0,.int .i64 0] [(0,30)]),p 32 (.app 9 72 28 31),jm 9 32])) (.rg [p 33 (.bin .add 26 (ki 1)),jm 26 33]))))))) (js [p 34 (.ldn 37 8),p 35 (.call 95 [34]),jm 36 9,⟨none,.stn 37 6 35,none,false⟩,
 jm 7 36] .ret)))),[.celln 6 37,.tmp 7]⟩
def F33:Fnc:=⟨js [p 2 (.mv (ki 0))] (.seq (js [jm 3 0,p 4 (.call 103 [3,ki 0,ki 2]),p 5 (.not 4)] (.cond 5 (js [p 2 (.mv (ki 0))] .ret) .skip)) (js [jm 6 0,p 7 (.bin .shl (ki 1) 6),jm 2 7] .ret)),[.tmp 2]⟩
def F34:Fnc:=⟨js [p 1 (.box 0),p 2 (.mv kf)] (.seq (js [p 3 (.fa 0 1),p 4 (.ld 3),p 5 (.len 4),p 6 (.call 103 [5,ki 1,ki 4]),p 7 (.not 6),jm 8 7,jz 9 (.fa 1 1) 8,jz 10 (.ld 9) 8,jz 11 (.call 103 [10,ki 1,ki 4]) 8,jz 12 (.not 11) 8,p 13 (.pick 8 kt 12),
 jm 14 13,jz 15 (.fa 4 1) 14,jz 16 (.ld 15) 14,jz 17 (.call 103 [16,ki 1,ki 12]) 14,jz 18 (.not 17) 14,p 19 (.pick 14 kt 18),jm 20 19,jz 21 (.ldn 6 1) 20,jz 22 (.call 74 [21]) 20,jz 23 (.bin .eql 22 (ki 0)) 20,
 p 24 (.pick 20 kt 23)] (.cond 24 (js [p 2 (.mv kf)] .ret) .skip)) (js [p 25 (.fa 0 1),p 26 (.ld 25),p 27 (.fn 35 [1]),p 28 (.call 258 [26,27]),p 29 (.not 28),jm 2 29] .ret)),[.tmp 2]⟩
def F35:Fnc:=⟨js [p 2 (.box 0),p 3 (.mv kf)] (.seq (.block 0 (js [p 5 (.fa 0 2),p 6 (.ld 5),p 7 (.call 103 [6,ki 1,ki 4]),p 8 (.not 7),jm 4 8] (.cond 4 (js [p 3 (.mv kt)] .ret) (js [p 10 (.fa 1 2),p 11 (.ld 10),jm 9 11] (.cond 9 (js [ju 12 (.fa 2 2),
 ju 13 (.ld 12),ju 14 (.ldn 6 1),ju 15 (.call 50 [14]),p 16 (.call 103 [13,15,ki 1000]),p 17 (.not 16),jm 18 17,jz 19 (.fa 3 2) 18,jz 20 (.ld 19) 18,jz 21 (.call 103 [20,ki 1,ki 8]) 18,jz 22 (.not 21) 18,p 23 (.pick 18 kt 22),
 jm 3 23] .ret) .skip))))) (js [p 24 (.fa 2 2),p 25 (.ld 24),p 26 (.bin .neq 25 (ki 0)),jm 27 26,jz 28 (.fa 3 2) 27,jz 29 (.ld 28) 27,jz 30 (.bin .neq 29 (ki 0)) 27,p 31 (.pick 27 kt 30),jm 3 31] .ret)),[.tmp 3]⟩
def F37:Fnc:=⟨js [p 1 (.box 0),p 2 (.mv (ki 0))] (.seq (js [p 3 (.fa 3 1),p 4 (.ld 3),p 5 (.call 103 [4,ki 0,ki 3]),p 6 (.not 5),jm 7 6,jz 8 (.fa 2 1) 7,jz 9 (.ld 8) 7,jz 10 (.call 103 [9,ki 0,ki 3]) 7,jz 11 (.not 10) 7,
 p 12 (.pick 7 kt 11)] (.cond 12 (js [p 2 (.mv (ki 0))] .ret) .skip)) (js [p 13 (.fa 3 1),p 14 (.ld 13),p 15 (.bin .add 14 (ki 2)),p 16 (.fa 2 1),p 17 (.ld 16),p 18 (.bin .add 17 (ki 6)),p 19 (.bin .mul 15 18),jm 2 19] .ret)),[.tmp 2]⟩
def F39:Fnc:=⟨js [p 4 (.box 0),p 8 (.new [.slice none 0 0,.int .i64 0,.slice none 0 0]),p 9 (.mv (ki 0)),p 10 (.mv kf)] (js [p 12 (.ldn 3 4),p 13 (.call 97 [12]),p 11 (.new [.slice none 0 0,.int .i64 0,.slice none 0 0]),⟨none,.stn 3 11 13,none,
 false⟩] (.seq (js [p 14 (.ldn 3 4),p 15 (.call 40 [14]),p 16 (.not 15),jm 17 16,jz 18 (.mv 1) 17,jz 19 (.mv 18) 17,jy 20 (.mv 3) 19,jy 21 (.call 92 [20,ki 2]) 19,jy 22 (.not 21) 19,jz 23 (.pick 19 22 kf) 17,
 p 24 (.pick 17 kt 23)] (.cond 24 (js [p 25 (.ldn 3 11),⟨none,.stn 3 8 25,none,false⟩,p 9 (.mv (ki 0)),p 10 (.mv kf)] .ret) .skip)) (.seq (.block 0 (js [jm 33 2,p 34 (.bin .eql 33 (ki 16)),jm 35 34,jy 36 (.mv 1) 35,p 37 (.pick 35 36 kf),
 jm 32 37] (.cond 32 (.rg [jm 38 3,p 39 (.fa 1 11),⟨none,.st 39 38,none,false⟩]) (js [jm 41 2,p 42 (.bin .eql 41 (ki 16)),jm 40 42] (.cond 40 (js [p 43 (.fa 1 4),p 44 (.ld 43),jm 3 44] (.rg [ju 45 (.fa 1 4),ju 46 (.ld 45),
 ju 47 (.bin .add 46 (ki 1)),ju 48 (.call 51 [ki 2]),p 49 (.bin .rem 47 48),p 50 (.fa 1 11),⟨none,.st 50 49,none,false⟩])) (js [jm 52 2,p 53 (.bin .eql 52 (ki 20)),jm 54 53,jy 55 (.mv 1) 54,p 56 (.pick 54 55 kf),jm 57 56,jy 58 (.fa 2 4) 57,
 jy 59 (.ld 58) 57,jy 60 (.len 59) 57,jy 61 (.bin .lss 60 (ki 4)) 57,p 62 (.pick 57 61 kf),jm 51 62] (.cond 51 (.rg [p 63 (.fa 2 11),p 64 (.ld 63),jm 65 3,p 66 (.bs 1 1 [.int .i64 0] [(0,65)]),p 67 (.app 1 8 64 66),p 68 (.fa 2 11),⟨none,
 .st 68 67,none,false⟩]) (js [jm 70 2,p 71 (.bin .eql 70 (ki 20)),jm 72 71,jy 73 (.mv 1) 72,jy 74 (.not 73) 72,p 75 (.pick 72 74 kf),jm 76 75,jy 77 (.fa 2 4) 76,jy 78 (.ld 77) 76,jy 79 (.len 78) 76,jy 80 (.bin .gtr 79 (ki 0)) 76,
 p 81 (.pick 76 80 kf),jm 69 81] (.cond 69 (js [p 82 (.fa 2 4),p 83 (.ld 82),p 84 (.ia 1 83 (ki 0)),p 85 (.ld 84),jm 3 85] (.rg [p 86 (.fa 2 4),p 87 (.ld 86),p 88 (.sl 1 87 (some (ki 1)) none none),p 89 (.call 253 [88]),p 90 (.fa 2 11),
 ⟨none,.st 90 89,none,false⟩])) (js [jm 92 2,p 93 (.bin .geq 92 (ki 16)),jm 94 93,jz 95 (.mv 2) 94,jz 96 (.bin .lss 95 (ki 0)) 94,p 97 (.pick 94 kt 96),jm 98 97,jz 99 (.mv 2) 98,jz 100 (.bin .rem 99 (ki 4)) 98,
 jz 101 (.bin .neq 100 (ki 0)) 98,p 102 (.pick 98 kt 101),jm 91 102] (.cond 91 (js [p 103 (.ldn 3 11),⟨none,.stn 3 8 103,none,false⟩,p 9 (.mv (ki 0)),p 10 (.mv kf)] .ret) (js [jm 105 1,jm 104 105] (.cond 104 (.rg [p 106 (.fa 0 11),
 p 107 (.ld 106),jm 108 2,p 109 (.bin .quo 108 (ki 4)),jm 110 3,p 111 (.ia 1 107 109),⟨none,.st 111 110,none,false⟩]) (.rg [p 26 (.fa 0 4),p 27 (.ld 26),jm 28 2,p 29 (.bin .quo 28 (ki 4)),p 30 (.ia 1 27 29),p 31 (.ld 30),
 jm 3 31])))))))))))))) (js [p 112 (.ldn 3 11),jm 113 3,⟨none,.stn 3 8 112,none,false⟩,jm 9 113,p 10 (.mv kt)] .ret)))),[.celln 8 3,.tmp 9,.tmp 10]⟩
def F40:Fnc:=⟨js [p 1 (.box 0),p 2 (.mv kf)] (js [p 3 (.mv (.k (.func (.func 41) #[] #[])))] (js [p 4 (.fa 0 1),p 5 (.ld 4),p 6 (.len 5),p 7 (.bin .eql 6 (ki 4)),jm 8 7,jy 9 (.fa 2 1) 8,jy 10 (.ld 9) 8,jy 11 (.len 10) 8,jy 12 (.bin .leq 11 (ki 4)) 8,
 p 13 (.pick 8 12 kf),jm 14 13,jy 15 (.fa 0 1) 14,jy 16 (.ld 15) 14,jy 17 (.mv 3) 14,jy 18 (.call 257 [16,17]) 14,jy 19 (.not 18) 14,p 20 (.pick 14 19 kf),jm 21 20,jy 22 (.fa 2 1) 21,jy 23 (.ld 22) 21,jy 24 (.mv 3) 21,jy 25 (.call 257 [23,
 24]) 21,jy 26 (.not 25) 21,p 27 (.pick 21 26 kf),jm 28 27,jy 29 (.fa 1 1) 28,jy 30 (.ld 29) 28,jy 31 (.call 92 [30,ki 2]) 28,p 32 (.pick 28 31 kf),jm 2 32] .ret)),[.tmp 2]⟩
def F41:Fnc:=⟨js [p 2 (.mv kf)] (js [jm 3 0,p 4 (.call 92 [3,ki 2]),p 5 (.not 4),jm 2 5] .ret),[.tmp 2]⟩
def F44:Fnc:=⟨js [p 1 (.box 0),p 2 (.mv (ki 0))] (.seq (js [p 3 (.ldn 6 1),p 4 (.call 34 [3]),p 5 (.not 4)] (.cond 5 (js [p 2 (.mv (ki 0))] .ret) .skip)) (js [ju 6 (.ldn 6 1),ju 7 (.call 102 [6]),ju 8 (.ldn 6 1),p 9 (.call 74 [8]),p 10 (.bin .add 7 9),
 p 11 (.bin .mul (ki 2) 10),p 12 (.bin .add 11 (ki 10)),jm 2 12] .ret)),[.tmp 2]⟩
def F47:Fnc:=⟨js [p 6 (.mv (ki 0)),p 7 (.mv kf)] (.seq (js [jm 10 0,jm 11 1,jm 12 2,p 13 (.call 86 [10,11,12]),p 14 (.not 13)] (.cond 14 (js [p 6 (.mv (ki 0)),p 7 (.mv kf)] .ret) .skip)) (js [p 8 (.mv (ki 0))] (.seq (js [jm 15 2,p 16 (.call 33 [15]),
 p 17 (.mv (ki 0))] (.block 0 (.loop (js [p 18 (.bin .lss 17 16)] (.seq (.cond 18 .skip (.exit 0)) (.seq (.block 1 (js [jm 19 17,jm 9 19] (.rg [jm 20 8,jm 21 0,jm 22 1,jm 23 9,p 24 (.bin .add 22 23),p 25 (.ia 1 21 24),p 26 (.ld 25),jm 27 9,
 p 28 (.bin .mul (ki 8) 27),p 29 (.bin .shl 26 28),p 30 (.bin .or 20 29),jm 8 30]))) (.rg [p 31 (.bin .add 17 (ki 1)),jm 17 31]))))))) (js [jm 32 8,jm 6 32,p 7 (.mv kt)] .ret)))),[.tmp 6,.tmp 7]⟩
def F50:Fnc:=⟨js [p 1 (.box 0),p 2 (.mv (ki 0))] (js [ju 3 (.ldn 6 1),ju 4 (.call 74 [3]),ju 5 (.bin .mul (ki 2) 4),ju 6 (.ldn 6 1),ju 7 (.call 101 [6]),p 8 (.bin .mul 5 7),jm 2 8] .ret),[.tmp 2]⟩
def F51:Fnc:=⟨js [p 2 (.mv (ki 0))] (.seq (js [jm 3 0,p 4 (.call 33 [3]),p 5 (.bin .eql 4 (ki 0))] (.cond 5 (js [p 2 (.mv (ki 0))] .ret) .skip)) (js [jm 6 0,p 7 (.call 33 [6]),p 8 (.bin .mul (ki 8) 7),p 9 (.bin .shl (ki 1) 8),jm 2 9] .ret)),[.tmp 2]⟩
def F52:Fnc:=⟨js [p 5 (.box 0),p 10 (.new [.slice none 0 0,.slice none 0 0,.int .i64 0,.slice none 0 0]),p 11 (.mv (ki 0)),p 12 (.mv (ki 0))] (js [p 16 (.ldn 4 5),p 17 (.call 98 [16]),p 13 (.new [.slice none 0 0,.slice none 0 0,.int .i64 0,
 .slice none 0 0]),⟨none,.stn 4 13 17,none,false⟩] (.seq (js [p 18 (.ldn 4 5),p 19 (.call 53 [18]),p 20 (.not 19),jm 21 20,jz 22 (.mv 2) 21,jz 23 (.mv 3) 21,jz 24 (.call 21 [22,23]) 21,jz 25 (.not 24) 21,p 26 (.pick 21 kt 25),jm 27 26,
 jz 28 (.mv 1) 27,jz 29 (.mv 28) 27,jy 30 (.mv 4) 29,jy 31 (.mv 3) 29,jy 32 (.call 92 [30,31]) 29,jy 33 (.not 32) 29,jz 34 (.pick 29 33 kf) 27,p 35 (.pick 27 kt 34)] (.cond 35 (js [p 36 (.ldn 4 13),⟨none,.stn 4 10 36,none,false⟩,
 p 11 (.mv (ki 0)),p 12 (.mv (ki 1))] .ret) .skip)) (js [p 14 (.mv kf)] (.seq (js [jm 37 2,p 38 (.call 73 [37]),jm 15 38] (.block 0 (js [jm 40 15,p 41 (.bin .eql 40 (ki 3)),jm 42 41,jy 43 (.mv 3) 42,jy 44 (.bin .eql 43 (ki 2)) 42,
 p 45 (.pick 42 44 kf),jm 39 45] (.cond 39 (.rg [p 47 (.fa 1 5),p 48 (.ldn 3 47),jm 49 1,jm 50 2,p 51 (.bin .sub 50 (ki 192)),jm 52 4,p 53 (.call 39 [48,49,51,52]),jm 46 53,p 54 (.ext 0 46),p 55 (.ext 1 46),p 56 (.ext 2 46),p 57 (.fa 1 13),
 ⟨none,.stn 3 57 54,none,false⟩,jm 4 55,jm 14 56]) (js [jm 59 15,p 60 (.bin .eql 59 (ki 1)),jm 61 60,jz 62 (.mv 15) 61,jz 63 (.bin .eql 62 (ki 2)) 61,p 64 (.pick 61 kt 63),jm 58 64] (.cond 58 (js [jm 65 1] (.cond 65 (.rg [p 67 (.fa 0 5),
 p 68 (.ld 67),jm 69 2,jm 70 3,jm 71 4,p 72 (.call 62 [68,69,70,71]),jm 66 72,p 73 (.ext 0 66),p 74 (.ext 1 66),p 75 (.fa 0 13),⟨none,.st 75 73,none,false⟩,jm 14 74]) (.rg [p 77 (.fa 0 5),p 78 (.ld 77),jm 79 2,jm 80 3,p 81 (.call 47 [78,79,
 80]),jm 76 81,p 82 (.ext 0 76),p 83 (.ext 1 76),jm 4 82,jm 14 83]))) .skip)))))) (.seq (js [jm 84 14,p 85 (.not 84)] (.cond 85 (js [p 86 (.ldn 4 5),p 87 (.call 98 [86]),⟨none,.stn 4 10 87,none,false⟩,p 11 (.mv (ki 0)),
 p 12 (.mv (ki 1))] .ret) .skip)) (js [p 88 (.ldn 4 13),jm 89 4,⟨none,.stn 4 10 88,none,false⟩,jm 11 89,p 12 (.mv (ki 0))] .ret)))))),[.celln 10 4,.tmp 11,.tmp 12]⟩
def F53:Fnc:=⟨js [p 1 (.box 0),p 2 (.mv kf)] (js [p 3 (.fa 0 1),p 4 (.ld 3),p 5 (.len 4),p 6 (.bin .eql 5 (ki 192)),jm 7 6,jy 8 (.fa 0 1) 7,jy 9 (.ld 8) 7,jy 10 (.call 86 [9,ki 0,ki 0]) 7,p 11 (.pick 7 10 kf),jm 12 11,jy 13 (.fa 1 1) 12,
 jy 14 (.ldn 3 13) 12,jy 15 (.call 40 [14]) 12,p 16 (.pick 12 15 kf),jm 2 16] .ret),[.tmp 2]⟩
def F54:Fnc:=⟨js [p 2 (.box 0),p 4 (.mv (ki 0))] (.seq (js [p 6 (.ldn 6 2),p 7 (.call 88 [6]),p 8 (.not 7),jm 9 8,jz 10 (.mv 1) 9,jz 11 (.call 18 [2]) 9,jz 12 (.bin .sub 11 (ki 1)) 9,jz 13 (.call 103 [10,ki 0,12]) 9,jz 14 (.not 13) 9,
 p 15 (.pick 9 kt 14)] (.cond 15 (js [p 4 (.mv (ki (-1)))] .ret) .skip)) (js [p 16 (.fa 0 2),p 17 (.ld 16),p 18 (.ia 6 17 (ki 0)),p 19 (.ldn 6 18),p 5 (.new [.bool false,.int .i64 0,.int .i64 0,.int .i64 0,.bool false,.slice none 0 0]),
 ⟨none,.stn 6 5 19,none,false⟩] (js [p 20 (.fa 1 5),p 21 (.ld 20),p 22 (.fa 2 5),p 23 (.ld 22),p 24 (.fa 3 5),p 25 (.ld 24),p 26 (.call 29 [21,23,25]),jm 27 1,p 28 (.ia 1 26 27),p 29 (.ld 28),jm 4 29] .ret))),[.tmp 4]⟩
def F55:Fnc:=⟨js [p 1 (.box 0),p 2 (.new [.slice none 0 0,.int .i64 0,.int .i64 0,.int .i64 0,.bool false,.bool false]),p 3 (.mv kf)] (js [p 5 (.ldn 6 1),p 6 (.call 99 [5]),p 4 (.new [.slice none 0 0,.int .i64 0,.int .i64 0,.int .i64 0,.bool false,
 .bool false]),⟨none,.stn 6 4 6,none,false⟩] (.seq (js [p 7 (.ldn 6 1),p 8 (.call 88 [7]),p 9 (.not 8),jm 10 9,jz 11 (.fa 1 1) 10,jz 12 (.ld 11) 10,jz 13 (.fa 2 1) 10,jz 14 (.ld 13) 10,jz 15 (.bin .eql 12 14) 10,
 p 16 (.pick 10 kt 15)] (.cond 16 (js [p 17 (.ldn 6 4),⟨none,.stn 6 2 17,none,false⟩,p 3 (.mv kf)] .ret) .skip)) (js [p 18 (.fa 1 4),p 19 (.ld 18),p 20 (.bin .sub 19 (ki 1)),p 21 (.fa 1 4),⟨none,.st 21 20,none,false⟩] (js [p 22 (.ldn 6 4),
 ⟨none,.stn 6 2 22,none,false⟩,p 3 (.mv kt)] .ret)))),[.celln 2 6,.tmp 3]⟩
def F56:Fnc:=⟨js [p 1 (.box 0),p 2 (.new [.slice none 0 0,.int .i64 0,.int .i64 0,.int .i64 0,.bool false,.bool false]),p 3 (.mv kf)] (js [p 5 (.ldn 6 1),p 6 (.call 99 [5]),p 4 (.new [.slice none 0 0,.int .i64 0,.int .i64 0,.int .i64 0,.bool false,
 .bool false]),⟨none,.stn 6 4 6,none,false⟩] (.seq (js [p 7 (.ldn 6 1),p 8 (.call 88 [7]),p 9 (.not 8),jm 10 9,jz 11 (.fa 1 1) 10,jz 12 (.ld 11) 10,jz 13 (.fa 2 1) 10,jz 14 (.ld 13) 10,jz 15 (.bin .eql 12 14) 10,
 p 16 (.pick 10 kt 15)] (.cond 16 (js [p 17 (.ldn 6 4),⟨none,.stn 6 2 17,none,false⟩,p 3 (.mv kf)] .ret) .skip)) (js [p 18 (.fa 2 4),p 19 (.ld 18),p 20 (.bin .add 19 (ki 1)),p 21 (.fa 2 4),⟨none,.st 21 20,none,
 false⟩] (.seq (js [ju 22 (.fa 2 4),ju 23 (.ld 22),ju 24 (.call 18 [4]),p 25 (.bin .eql 23 24)] (.cond 25 (js [p 26 (.fa 0 4),p 27 (.ld 26),p 28 (.sl 6 27 (some (ki 1)) none none),p 29 (.bd [.slice none 0 0,.int .i64 0,.int .i64 0,
 .int .i64 0,.bool false,.bool false] [(0,1,28)]),⟨none,.stn 6 2 29,none,false⟩,p 3 (.mv kt)] .ret) .skip)) (js [p 30 (.fa 3 4),⟨none,.st 30 (ki 0),none,false⟩] (js [p 31 (.fa 4 4),⟨none,.st 31 kf,none,false⟩] (js [p 32 (.ldn 6 4),⟨none,
 .stn 6 2 32,none,false⟩,p 3 (.mv kt)] .ret))))))),[.celln 2 6,.tmp 3]⟩
def F57:Fnc:=⟨js [p 1 (.box 0),p 2 (.new [.slice none 0 0,.int .i64 0,.int .i64 0,.int .i64 0,.bool false,.bool false]),p 3 (.mv kf)] (js [p 5 (.ldn 6 1),p 6 (.call 99 [5]),p 4 (.new [.slice none 0 0,.int .i64 0,.int .i64 0,.int .i64 0,.bool false,
 .bool false]),⟨none,.stn 6 4 6,none,false⟩] (.seq (js [p 7 (.ldn 6 1),p 8 (.call 59 [7]),p 9 (.not 8),jm 10 9,jz 11 (.fa 1 1) 10,jz 12 (.ld 11) 10,jz 13 (.fa 2 1) 10,jz 14 (.ld 13) 10,jz 15 (.bin .add 14 (ki 2)) 10,
 jz 16 (.bin .eql 12 15) 10,p 17 (.pick 10 kt 16)] (.cond 17 (js [p 18 (.ldn 6 4),⟨none,.stn 6 2 18,none,false⟩,p 3 (.mv kf)] .ret) .skip)) (js [p 19 (.fa 1 4),p 20 (.ld 19),p 21 (.bin .add 20 (ki 1)),p 22 (.fa 1 4),⟨none,.st 22 21,none,
 false⟩] (js [p 23 (.ldn 6 4),⟨none,.stn 6 2 23,none,false⟩,p 3 (.mv kt)] .ret)))),[.celln 2 6,.tmp 3]⟩
def F58:Fnc:=⟨js [p 2 (.box 0),p 3 (.box 1),p 4 (.new [.slice none 0 0,.int .i64 0,.int .i64 0,.int .i64 0,.bool false,.bool false]),p 5 (.mv kf)] (js [p 7 (.ldn 6 2),p 8 (.call 99 [7]),p 6 (.new [.slice none 0 0,.int .i64 0,.int .i64 0,.int .i64 0,
 .bool false,.bool false]),⟨none,.stn 6 6 8,none,false⟩] (.seq (js [p 9 (.ldn 6 2),p 10 (.call 88 [9]),p 11 (.not 10),jm 12 11,jz 13 (.ldn 6 3) 12,jz 14 (.call 66 [13]) 12,jz 15 (.not 14) 12,p 16 (.pick 12 kt 15),jm 17 16,jz 18 (.fa 0 2) 17,
 jz 19 (.ld 18) 17,jz 20 (.len 19) 17,jz 21 (.bin .eql 20 (ki 4)) 17,p 22 (.pick 17 kt 21)] (.cond 22 (js [p 23 (.ldn 6 6),⟨none,.stn 6 4 23,none,false⟩,p 5 (.mv kf)] .ret) .skip)) (js [ju 24 (.fa 0 6),ju 25 (.ld 24),ju 26 (.ldn 6 3),
 ju 27 (.call 100 [26]),ju 28 (.bs 6 1 [.bool false,.int .i64 0,.int .i64 0,.int .i64 0,.bool false,.slice none 0 0] [(0,27)]),p 29 (.app 6 64 25 28),p 30 (.fa 0 6),⟨none,.st 30 29,none,false⟩] (js [p 31 (.ldn 6 6),⟨none,.stn 6 4 31,none,
 false⟩,p 5 (.mv kt)] .ret)))),[.celln 4 6,.tmp 5]⟩
def F59:Fnc:=⟨js [p 1 (.box 0),p 2 (.mv kf)] (js [p 3 (.ldn 6 1),p 4 (.call 88 [3]),jm 5 4,jw 6 (.fa 1 1) 5 true,jw 7 (.ld 6) 5 true,jw 8 (.call 18 [1]) 5 true,jy 9 (.bin .lss 7 8) 5,p 10 (.pick 5 9 kf),jm 2 10] .ret),[.tmp 2]⟩
def F60:Fnc:=⟨js [p 6 (.mv (ki 0))] (.seq (js [jm 9 0,jm 10 1,p 11 (.call 21 [9,10]),p 12 (.not 11),jm 13 12,jz 14 (.mv 0) 13,jz 15 (.bin .geq 14 (ki 512)) 13,p 16 (.pick 13 kt 15),jm 17 16,jz 18 (.mv 2) 17,jz 19 (.call 22 [18]) 17,
 jz 20 (.bin .eql 19 (ki 0)) 17,p 21 (.pick 17 kt 20)] (.cond 21 (js [p 6 (.mv (ki (-1)))] .ret) .skip)) (js [jm 22 0,jm 23 1,p 24 (.call 33 [23]),p 25 (.bin .add 22 24),jm 26 1,p 27 (.call 33 [26]),p 28 (.bin .mul (ki 4) 27),jm 7 25,
 jm 8 28] (.seq (js [jm 29 2,p 30 (.bin .eql 29 (ki 2)),jm 31 30,jy 32 (.mv 7) 31,jy 33 (.mv 8) 31,jy 34 (.bin .rem 32 33) 31,jy 35 (.bin .eql 34 (ki 0)) 31,p 36 (.pick 31 35 kf)] (.cond 36 (.rg [jm 37 7,jm 38 8,p 39 (.bin .sub 37 38),
 jm 7 39]) .skip)) (js [jm 40 7,jm 6 40] .ret)))),[.tmp 6]⟩
def F61:Fnc:=⟨js [p 2 (.box 0),p 4 (.mv (.k (.slice none 0 0)))] (js [p 8 (.bs 8 0 [.int .i64 0,.int .i64 0,.bool false,.int .i64 0,.int .i64 0,.int .i64 0,.bool false,.slice none 0 0] []),jm 5 8] (.seq (js [p 9 (.fa 0 2),p 10 (.ld 9),p 11 (.len 10),
 p 12 (.mv (ki 0))] (.block 0 (.loop (js [p 13 (.bin .lss 12 11)] (.seq (.cond 13 .skip (.exit 0)) (.seq (.block 1 (js [p 14 (.ia 8 10 12),p 15 (.ldn 8 14),p 7 (.new [.int .i64 0,.int .i64 0,.bool false,.int .i64 0,.int .i64 0,.int .i64 0,
 .bool false,.slice none 0 0]),⟨none,.stn 8 7 15,none,false⟩] (js [p 16 (.fa 0 7),p 17 (.ld 16),jm 18 1,p 19 (.bin .eql 17 18)] (.cond 19 (js [p 20 (.fa 2 7),p 21 (.ldn 6 20),p 22 (.call 100 [21]),p 23 (.fa 2 7),⟨none,.stn 6 23 22,none,
 false⟩] (.rg [jm 24 5,p 25 (.ldn 8 7),p 26 (.bs 8 1 [.int .i64 0,.int .i64 0,.bool false,.int .i64 0,.int .i64 0,.int .i64 0,.bool false,.slice none 0 0] [(0,25)]),p 27 (.app 8 80 24 26),
 jm 5 27])) .skip)))) (.rg [p 28 (.bin .add 12 (ki 1)),jm 12 28]))))))) (js [jm 29 5,jm 4 29] .ret))),[.tmp 4]⟩
def F62:Fnc:=⟨js [p 8 (.mv (.k (.slice none 0 0))),p 9 (.mv kf)] (js [jm 12 0,p 13 (.call 253 [12]),jm 10 13] (.seq (js [jm 14 0,jm 15 1,jm 16 2,p 17 (.call 86 [14,15,16]),p 18 (.not 17),jm 19 18,jz 20 (.mv 3) 19,jz 21 (.mv 2) 19,jz 22 (.call 92 [20,
 21]) 19,jz 23 (.not 22) 19,p 24 (.pick 19 kt 23)] (.cond 24 (js [jm 25 10,jm 8 25,p 9 (.mv kf)] .ret) .skip)) (.seq (js [jm 26 2,p 27 (.call 33 [26]),
 p 28 (.mv (ki 0))] (.block 0 (.loop (js [p 29 (.bin .lss 28 27)] (.seq (.cond 29 .skip (.exit 0)) (.seq (.block 1 (js [jm 30 28,jm 11 30] (.rg [jm 31 10,jm 32 1,jm 33 11,p 34 (.bin .add 32 33),jm 35 3,jm 36 11,p 37 (.bin .mul (ki 8) 36),
 p 38 (.bin .shr 35 37),p 39 (.bin .and 38 (ki 255)),p 40 (.ia 1 31 34),⟨none,.st 40 39,none,false⟩]))) (.rg [p 41 (.bin .add 28 (ki 1)),jm 28 41]))))))) (js [jm 42 10,jm 8 42,p 9 (.mv kt)] .ret)))),[.tmp 8,.tmp 9]⟩
def F66:Fnc:=⟨js [p 1 (.box 0),p 2 (.mv kf)] (js [p 3 (.mv (ki 0))] (.seq (js [p 4 (.fa 0 1),p 5 (.ld 4)] (.cond 5 (.rg [p 6 (.fa 3 1),p 7 (.ld 6),p 8 (.call 22 [7]),jm 3 8]) .skip)) (js [p 9 (.fa 1 1),p 10 (.ld 9),p 11 (.fa 2 1),p 12 (.ld 11),
 p 13 (.fa 3 1),p 14 (.ld 13),p 15 (.call 30 [10,12,14]),jm 16 15,jy 17 (.fa 5 1) 16,jy 18 (.ld 17) 16,jy 19 (.len 18) 16,jy 20 (.mv 3) 16,jy 21 (.bin .eql 19 20) 16,p 22 (.pick 16 21 kf),jm 23 22,jy 24 (.fa 5 1) 23,jy 25 (.ld 24) 23,
 jy 26 (.fn 67 [1]) 23,jy 27 (.call 257 [25,26]) 23,jy 28 (.not 27) 23,p 29 (.pick 23 28 kf),jm 2 29] .ret))),[.tmp 2]⟩
def F67:Fnc:=⟨js [p 3 (.mv kf)] (js [jm 4 0,p 5 (.fa 2 1),p 6 (.ld 5),p 7 (.call 92 [4,6]),p 8 (.not 7),jm 3 8] .ret),[.tmp 3]⟩
def F68:Fnc:=⟨js [p 2 (.box 0),p 4 (.mv (ki 0))] (.seq (js [p 6 (.fa 2 2),p 7 (.ld 6),jm 8 1,p 9 (.call 85 [7,8]),jm 5 9] (js [jm 10 5,p 11 (.bin .eql 10 (ki 2)),jm 12 11,jz 13 (.mv 5) 12,jz 14 (.bin .eql 13 (ki 3)) 12,
 p 15 (.pick 12 kt 14)] (.cond 15 (js [jm 16 5,jm 4 16] .ret) .skip))) (js [p 4 (.mv (ki 0))] .ret)),[.tmp 4]⟩
def F73:Fnc:=⟨js [p 2 (.mv (ki 0))] (.seq (.block 0 (js [jm 4 0,p 5 (.bin .lss 4 (ki 0)),jm 6 5,jz 7 (.mv 0) 6,jz 8 (.bin .geq 7 (ki 224)) 6,p 9 (.pick 6 kt 8),jm 3 9] (.cond 3 (js [p 2 (.mv (ki 0))] .ret) (js [jm 11 0,p 12 (.bin .lss 11 (ki 128)),
 jm 10 12] (.cond 10 (js [p 2 (.mv (ki 1))] .ret) (js [jm 14 0,p 15 (.bin .lss 14 (ki 192)),jm 13 15] (.cond 13 (js [p 2 (.mv (ki 2))] .ret) .skip))))))) (js [p 2 (.mv (ki 3))] .ret)),[.tmp 2]⟩
def F74:Fnc:=⟨js [p 1 (.box 0),p 2 (.mv (ki 0))] (.seq (js [p 3 (.ldn 6 1),p 4 (.call 37 [3]),p 5 (.bin .eql 4 (ki 0)),jm 6 5,jz 7 (.fa 5 1) 6,jz 8 (.ld 7) 6,jz 9 (.call 103 [8,ki 1,ki 40]) 6,jz 10 (.not 9) 6,
 p 11 (.pick 6 kt 10)] (.cond 11 (js [p 2 (.mv (ki 0))] .ret) .skip)) (js [ju 12 (.ldn 6 1),ju 13 (.call 37 [12]),ju 14 (.bin .mul (ki 2) 13),ju 15 (.fa 5 1),ju 16 (.ld 15),p 17 (.bin .add 14 16),jm 2 17] .ret)),[.tmp 2]⟩
def F75:Fnc:=⟨js [p 3 (.box 0),p 4 (.box 1),p 6 (.mv (ki 0))] (js [ju 7 (.fa 1 4),ju 8 (.ld 7),ju 9 (.mv 2),ju 10 (.call 85 [8,9]),ju 11 (.mn [10,ki 99]),ju 12 (.mx [ki 0,11]),ju 13 (.bin .add 12 (ki 1)),ju 14 (.fa 4 3),ju 15 (.ld 14),p 16 (.mn [13,
 15]),p 17 (.mx [ki 1,16]),jm 6 17] .ret),[.tmp 6]⟩
def F77:Fnc:=⟨js [p 2 (.box 0),p 4 (.mv (ki 0))] (.seq (js [p 5 (.ldn 6 2),p 6 (.call 34 [5]),p 7 (.not 6),jm 8 7,jz 9 (.ldn 6 2) 8,jz 10 (.mv 1) 8,jz 11 (.call 91 [9,10]) 8,jz 12 (.not 11) 8,
 p 13 (.pick 8 kt 12)] (.cond 13 (js [p 4 (.mv (ki 0))] .ret) .skip)) (js [ju 14 (.fa 0 2),ju 15 (.ld 14),ju 16 (.mv 1),ju 17 (.ia 4 15 16),ju 18 (.fa 0 17),ju 19 (.ld 18),ju 20 (.fa 1 2),ju 21 (.ld 20),p 22 (.bin .mul 19 21),
 jm 4 22] .ret)),[.tmp 4]⟩
def F80:Fnc:=⟨js [p 3 (.box 0),p 4 (.box 1),p 6 (.mv (ki 0))] (js [ju 7 (.fa 1 4),ju 8 (.ld 7),ju 9 (.mv 2),ju 10 (.call 85 [8,9]),ju 11 (.fa 2 3),ju 12 (.ld 11),p 13 (.mn [10,12]),p 14 (.mx [ki 0,13]),jm 6 14] .ret),[.tmp 6]⟩
def F81:Fnc:=⟨js [p 3 (.box 0),p 4 (.box 1),p 6 (.new [.int .i64 0,.int .i64 0])] (.seq (js [p 7 (.ldn 2 3),p 8 (.ldn 6 4),p 9 (.call 82 [7,8]),jm 10 9,jy 11 (.mv 2) 10,jy 12 (.fa 0 3) 10,jy 13 (.ld 12) 10,jy 14 (.bin .eql 11 13) 10,
 p 15 (.pick 10 14 kf)] (.cond 15 (.rg [ju 16 (.fa 1 3),ju 17 (.ld 16),ju 18 (.bin .add 17 (ki 1)),ju 19 (.ldn 6 4),ju 20 (.mv 2),ju 21 (.call 77 [19,20]),p 22 (.mn [18,21]),p 23 (.fa 1 3),⟨none,.st 23 22,none,
 false⟩]) .skip)) (js [p 24 (.ldn 2 3),⟨none,.stn 2 6 24,none,false⟩] .ret)),[.celln 6 2]⟩
def F82:Fnc:=⟨js [p 2 (.box 0),p 3 (.box 1),p 4 (.mv kf)] (js [p 5 (.ldn 6 3),p 6 (.call 34 [5]),jm 7 6,jw 8 (.ldn 6 3) 7 true,jw 9 (.fa 0 2) 7 true,jw 10 (.ld 9) 7 true,jy 11 (.call 91 [8,10]) 7,p 12 (.pick 7 11 kf),jm 13 12,jw 14 (.fa 1 2) 13 true,
 jw 15 (.ld 14) 13 true,jw 16 (.ldn 6 3) 13 true,jw 17 (.fa 0 2) 13 true,jw 18 (.ld 17) 13 true,jw 19 (.call 77 [16,18]) 13 true,jy 20 (.call 103 [15,ki 0,19]) 13,p 21 (.pick 13 20 kf),jm 4 21] .ret),[.tmp 4]⟩
def F83:Fnc:=⟨js [p 3 (.box 0),p 4 (.box 1),p 6 (.new [.int .i64 0,.int .i64 0]),p 7 (.mv (ki 0))] (js [p 11 (.fa 0 4),p 12 (.ld 11),p 13 (.len 12),jm 8 13] (.seq (js [p 14 (.ldn 2 3),p 15 (.ldn 6 4),p 16 (.call 82 [14,15]),p 17 (.not 16),jm 18 17,
 jz 19 (.mv 2) 18,jz 20 (.len 19) 18,jz 21 (.mv 8) 18,jz 22 (.bin .neq 20 21) 18,p 23 (.pick 18 kt 22)] (.cond 23 (js [p 24 (.ldn 2 3),⟨none,.stn 2 6 24,none,false⟩,p 7 (.mv (ki (-1)))] .ret) .skip)) (.seq (js [p 25 (.fa 1 3),p 26 (.ld 25),
 p 27 (.bin .gtr 26 (ki 0)),jm 28 27,jy 29 (.mv 2) 28,jy 30 (.fa 0 3) 28,jy 31 (.ld 30) 28,jy 32 (.ia 1 29 31) 28,jy 33 (.ld 32) 28,p 34 (.pick 28 33 kf)] (.cond 34 (js [p 35 (.fa 1 3),p 36 (.ld 35),p 37 (.bin .sub 36 (ki 1)),p 38 (.fa 1 3),
 ⟨none,.st 38 37,none,false⟩] (js [ju 39 (.ldn 2 3),ju 40 (.fa 0 3),ju 41 (.ld 40),⟨none,.stn 2 6 39,none,true⟩,jm 7 41] .ret)) .skip)) (.seq (js [p 9 (.mv (ki 1))] (.block 0 (.loop (.seq (js [jm 42 9,jm 43 8,
 p 44 (.bin .leq 42 43)] (.cond 44 .skip (.exit 0))) (.seq (.block 1 (js [p 47 (.fa 0 3),p 48 (.ld 47),jm 49 9,p 50 (.bin .add 48 49),jm 51 8,p 52 (.bin .rem 50 51),jm 10 52] (js [jm 53 2,jm 54 10,p 55 (.ia 1 53 54),
 p 56 (.ld 55)] (.cond 56 (js [jm 57 10,p 58 (.ldn 6 4),jm 59 10,p 60 (.call 77 [58,59]),p 61 (.bin .sub 60 (ki 1)),p 62 (.bd [.int .i64 0,.int .i64 0] [(0,1,57),(1,1,61)]),jm 63 10,⟨none,.stn 2 6 62,none,false⟩,
 jm 7 63] .ret) .skip)))) (.rg [jm 45 9,p 46 (.bin .add 45 (ki 1)),jm 9 46])))))) (js [p 64 (.fa 1 3),⟨none,.st 64 (ki 0),none,false⟩] (js [p 65 (.ldn 2 3),⟨none,.stn 2 6 65,none,false⟩,p 7 (.mv (ki (-1)))] .ret)))))),[.celln 6 2,.tmp 7]⟩
def F85:Fnc:=⟨js [p 4 (.mv (ki 0))] (.seq (js [jm 5 0,p 6 (.len 5),p 7 (.bin .eql 6 (ki 0)),jm 8 7,jz 9 (.mv 1) 8,jz 10 (.bin .lss 9 (ki 0)) 8,p 11 (.pick 8 kt 10)] (.cond 11 (js [p 4 (.mv (ki 0))] .ret) .skip)) (js [jm 12 0,jm 13 1,jm 14 0,
 p 15 (.len 14),p 16 (.bin .rem 13 15),p 17 (.ia 1 12 16),p 18 (.ld 17),jm 4 18] .ret)),[.tmp 4]⟩
def F86:Fnc:=⟨js [p 6 (.mv kf)] (js [jm 7 0,p 8 (.len 7),p 9 (.bin .leq 8 (ki 512)),jm 10 9,jy 11 (.mv 0) 10,jy 12 (.call 257 [11,.k (.func (.func 87) #[] #[])]) 10,jy 13 (.not 12) 10,p 14 (.pick 10 13 kf),jm 15 14,jy 16 (.mv 1) 15,jy 17 (.mv 2) 15,
 jy 18 (.call 21 [16,17]) 15,p 19 (.pick 15 18 kf),jm 20 19,jy 21 (.mv 1) 20,jy 22 (.mv 0) 20,jy 23 (.len 22) 20,jy 24 (.mv 2) 20,jy 25 (.call 33 [24]) 20,jy 26 (.bin .sub 23 25) 20,jy 27 (.bin .leq 21 26) 20,p 28 (.pick 20 27 kf),
 jm 6 28] .ret),[.tmp 6]⟩
def F87:Fnc:=⟨js [p 2 (.mv kf)] (js [jm 3 0,p 4 (.call 103 [3,ki 0,ki 255]),p 5 (.not 4),jm 2 5] .ret),[.tmp 2]⟩
def F88:Fnc:=⟨js [p 1 (.box 0),p 2 (.mv kf)] (.seq (js [p 3 (.fa 0 1),p 4 (.ld 3),p 5 (.len 4),p 6 (.bin .gtr 5 (ki 4)),jm 7 6,jz 8 (.fa 3 1) 7,jz 9 (.ld 8) 7,jz 10 (.bin .lss 9 (ki 0)) 7,p 11 (.pick 7 kt 10),jm 12 11,jz 13 (.fa 0 1) 12,
 jz 14 (.ld 13) 12,jz 15 (.call 260 [14,.k (.func (.func 89) #[] #[])]) 12,p 16 (.pick 12 kt 15)] (.cond 16 (js [p 2 (.mv kf)] .ret) .skip)) (.seq (js [p 17 (.fa 0 1),p 18 (.ld 17),p 19 (.len 18),
 p 20 (.bin .eql 19 (ki 0))] (.cond 20 (js [p 21 (.fa 1 1),p 22 (.ld 21),p 23 (.bin .eql 22 (ki 0)),jm 24 23,jy 25 (.fa 2 1) 24,jy 26 (.ld 25) 24,jy 27 (.bin .eql 26 (ki 0)) 24,p 28 (.pick 24 27 kf),jm 29 28,jy 30 (.fa 3 1) 29,
 jy 31 (.ld 30) 29,jy 32 (.bin .eql 31 (ki 0)) 29,p 33 (.pick 29 32 kf),jm 34 33,jy 35 (.fa 4 1) 34,jy 36 (.ld 35) 34,jy 37 (.not 36) 34,p 38 (.pick 34 37 kf),jm 39 38,jy 40 (.fa 5 1) 39,jy 41 (.ld 40) 39,jy 42 (.not 41) 39,
 p 43 (.pick 39 42 kf),jm 2 43] .ret) .skip)) (js [ju 44 (.fa 2 1),ju 45 (.ld 44),ju 46 (.call 18 [1]),ju 47 (.bin .sub 46 (ki 1)),p 48 (.call 103 [45,ki 0,47]),jm 49 48,jw 50 (.fa 1 1) 49 true,jw 51 (.ld 50) 49 true,jw 52 (.fa 2 1) 49 true,
 jw 53 (.ld 52) 49 true,jw 54 (.fa 2 1) 49 true,jw 55 (.ld 54) 49 true,jw 56 (.bin .add 55 (ki 2)) 49 true,jw 57 (.call 18 [1]) 49 true,jw 58 (.mn [56,57]) 49 true,jy 59 (.call 103 [51,53,58]) 49,p 60 (.pick 49 59 kf),jm 2 60] .ret))),
 [.tmp 2]⟩
def F89:Fnc:=⟨js [p 1 (.box 0),p 2 (.mv kf)] (js [p 3 (.ldn 6 1),p 4 (.call 66 [3]),p 5 (.not 4),jm 2 5] .ret),[.tmp 2]⟩
def F90:Fnc:=⟨js [p 2 (.box 0),p 3 (.box 1),p 4 (.mv kf)] (js [p 5 (.fa 1 3),p 6 (.ld 5),jm 7 6,jy 8 (.ldn 2 2) 7,jy 9 (.ldn 4 3) 7,jy 10 (.call 26 [8,9]) 7,p 11 (.pick 7 10 kf),jm 4 11] .ret),[.tmp 4]⟩
def F91:Fnc:=⟨js [p 2 (.box 0),p 4 (.mv kf)] (js [jm 5 1,p 6 (.fa 0 2),p 7 (.ld 6),p 8 (.len 7),p 9 (.bin .sub 8 (ki 1)),p 10 (.call 103 [5,ki 0,9]),jm 4 10] .ret),[.tmp 4]⟩
def F92:Fnc:=⟨js [p 4 (.mv kf)] (js [jm 5 0,jm 6 1,p 7 (.call 51 [6]),p 8 (.bin .sub 7 (ki 1)),p 9 (.call 103 [5,ki 0,8]),jm 4 9] .ret),[.tmp 4]⟩
def F93:Fnc:=⟨js [p 1 (.box 0),p 2 (.mv kf)] (js [p 3 (.fa 0 1),p 4 (.ld 3),p 5 (.len 4),p 6 (.bin .gtr 5 (ki 0)),jm 7 6,jy 8 (.fa 0 1) 7,jy 9 (.ld 8) 7,jy 10 (.ia 6 9 (ki 0)) 7,jy 11 (.fa 4 10) 7,jy 12 (.ld 11) 7,p 13 (.pick 7 12 kf),jm 14 13,
 jy 15 (.fa 5 1) 14,jy 16 (.ld 15) 14,jy 17 (.not 16) 14,p 18 (.pick 14 17 kf),jm 2 18] .ret),[.tmp 2]⟩
def F95:Fnc:=⟨js [p 1 (.box 0),p 2 (.new [.slice none 0 0,.int .i64 0,.int .i64 0,.int .i64 0,.int .i64 0,.int .i64 0,.int .i64 0,.slice none 0 0,.int .i64 0,.int .i64 0,.slice none 0 0,.slice none 0 0,.int .i64 0,.int .i64 0,.int .i64 0,.bool false,
 .int .i64 0,.int .i64 0,.bool false,.int .i64 0,.int .i64 0,.int .i64 0,.bool false,.bool false,.int .i64 0,.int .i64 0,.bool false,.int .i64 0,.int .i64 0,.int .i64 0,.bool false,.slice none 0 0,.slice none 0 0,.int .i64 0,.slice none 0 0,
 .int .i64 0,.slice none 0 0])] (js [p 6 (.fa 0 1),p 7 (.ldn 6 6),p 8 (.call 96 [7]),p 9 (.fa 0 1),⟨none,.stn 6 9 8,none,false⟩] (js [p 10 (.bs 6 0 [.slice none 0 0,.int .i64 0,.int .i64 0,.int .i64 0,.bool false,.bool false] []),
 jm 3 10] (.seq (js [p 11 (.fa 7 1),p 12 (.ld 11),p 13 (.len 12),p 14 (.mv (ki 0))] (.block 0 (.loop (js [p 15 (.bin .lss 14 13)] (.seq (.cond 15 .skip (.exit 0)) (.seq (.block 1 (js [p 16 (.ia 6 12 14),p 17 (.ldn 6 16),
 p 5 (.new [.slice none 0 0,.int .i64 0,.int .i64 0,.int .i64 0,.bool false,.bool false]),⟨none,.stn 6 5 17,none,false⟩] (.rg [jm 18 3,p 19 (.ldn 6 5),p 20 (.call 99 [19]),p 21 (.bs 6 1 [.slice none 0 0,.int .i64 0,.int .i64 0,.int .i64 0,
 .bool false,.bool false] [(0,20)]),p 22 (.app 6 56 18 21),jm 3 22]))) (.rg [p 23 (.bin .add 14 (ki 1)),jm 14 23]))))))) (js [jm 24 3,p 25 (.fa 7 1),⟨none,.st 25 24,none,false⟩] (js [p 26 (.fa 10 1),p 27 (.ld 26),p 28 (.call 254 [27]),
 p 29 (.fa 10 1),⟨none,.st 29 28,none,false⟩] (js [p 30 (.fa 11 1),p 31 (.ld 30),p 32 (.call 253 [31]),p 33 (.fa 11 1),⟨none,.st 33 32,none,false⟩] (js [p 34 (.fa 31 1),p 35 (.ldn 4 34),p 36 (.call 98 [35]),p 37 (.fa 31 1),⟨none,
 .stn 4 37 36,none,false⟩] (js [p 38 (.fa 36 1),p 39 (.ld 38),p 40 (.call 255 [39]),p 41 (.fa 36 1),⟨none,.st 41 40,none,false⟩] (js [p 42 (.ldn 37 1),⟨none,.stn 37 2 42,none,false⟩] .ret))))))))),[.celln 2 37]⟩
def F96:Fnc:=⟨js [p 1 (.box 0),p 2 (.new [.slice none 0 0,.int .i64 0,.int .i64 0,.int .i64 0,.int .i64 0,.int .i64 0])] (js [p 3 (.fa 0 1),p 4 (.ld 3),p 5 (.call 256 [4]),p 6 (.fa 0 1),⟨none,.st 6 5,none,false⟩] (js [p 7 (.ldn 6 1),⟨none,.stn 6 2 7,
 none,false⟩] .ret)),[.celln 2 6]⟩
def F97:Fnc:=⟨js [p 1 (.box 0),p 2 (.new [.slice none 0 0,.int .i64 0,.slice none 0 0])] (js [ju 3 (.fa 0 1),ju 4 (.ld 3),ju 5 (.call 253 [4]),ju 6 (.fa 1 1),ju 7 (.ld 6),ju 8 (.fa 2 1),ju 9 (.ld 8),ju 10 (.call 253 [9]),p 11 (.bd [.slice none 0 0,
 .int .i64 0,.slice none 0 0] [(0,1,5),(1,1,7),(2,1,10)]),⟨none,.stn 3 2 11,none,false⟩] .ret),[.celln 2 3]⟩
def F98:Fnc:=⟨js [p 1 (.box 0),p 2 (.new [.slice none 0 0,.slice none 0 0,.int .i64 0,.slice none 0 0])] (js [ju 3 (.fa 0 1),ju 4 (.ld 3),ju 5 (.call 253 [4]),ju 6 (.fa 1 1),ju 7 (.ldn 3 6),p 8 (.call 97 [7]),p 9 (.bd [.slice none 0 0,.slice none 0 0,
 .int .i64 0,.slice none 0 0] [(0,1,5),(1,3,8)]),⟨none,.stn 4 2 9,none,false⟩] .ret),[.celln 2 4]⟩
def F99:Fnc:=⟨js [p 1 (.box 0),p 2 (.new [.slice none 0 0,.int .i64 0,.int .i64 0,.int .i64 0,.bool false,.bool false])] (js [p 6 (.bs 6 0 [.bool false,.int .i64 0,.int .i64 0,.int .i64 0,.bool false,.slice none 0 0] []),
 jm 3 6] (.seq (js [p 7 (.fa 0 1),p 8 (.ld 7),p 9 (.len 8),p 10 (.mv (ki 0))] (.block 0 (.loop (js [p 11 (.bin .lss 10 9)] (.seq (.cond 11 .skip (.exit 0)) (.seq (.block 1 (js [p 12 (.ia 6 8 10),p 13 (.ldn 6 12),p 5 (.new [.bool false,
 .int .i64 0,.int .i64 0,.int .i64 0,.bool false,.slice none 0 0]),⟨none,.stn 6 5 13,none,false⟩] (.rg [jm 14 3,p 15 (.ldn 6 5),p 16 (.call 100 [15]),p 17 (.bs 6 1 [.bool false,.int .i64 0,.int .i64 0,.int .i64 0,.bool false,
 .slice none 0 0] [(0,16)]),p 18 (.app 6 64 14 17),jm 3 18]))) (.rg [p 19 (.bin .add 10 (ki 1)),jm 10 19]))))))) (js [jm 20 3,p 21 (.fa 0 1),⟨none,.st 21 20,none,false⟩] (js [p 22 (.ldn 6 1),⟨none,.stn 6 2 22,none,false⟩] .ret)))),
 [.celln 2 6]⟩
def F100:Fnc:=⟨js [p 1 (.box 0),p 2 (.new [.bool false,.int .i64 0,.int .i64 0,.int .i64 0,.bool false,.slice none 0 0])] (js [p 3 (.fa 5 1),p 4 (.ld 3),p 5 (.call 253 [4]),p 6 (.fa 5 1),⟨none,.st 6 5,none,false⟩] (js [p 7 (.ldn 6 1),⟨none,.stn 6 2 7,
 none,false⟩] .ret)),[.celln 2 6]⟩
def F101:Fnc:=⟨js [p 1 (.box 0),p 2 (.mv (ki 0))] (js [p 3 (.mv (ki 0))] (.seq (js [p 6 (.fa 0 1),p 7 (.ld 6),p 8 (.len 7),
 p 9 (.mv (ki 0))] (.block 0 (.loop (js [p 10 (.bin .lss 9 8)] (.seq (.cond 10 .skip (.exit 0)) (.seq (.block 1 (js [p 11 (.ia 4 7 9),p 12 (.ldn 4 11),p 5 (.new [.int .i64 0,.bool false,.int .i64 0,.int .i64 0]),⟨none,.stn 4 5 12,none,
 false⟩] (js [p 13 (.fa 1 5),p 14 (.ld 13)] (.cond 14 (.rg [jm 15 3,p 16 (.bin .add 15 (ki 1)),jm 3 16]) .skip)))) (.rg [p 17 (.bin .add 9 (ki 1)),jm 9 17]))))))) (js [jm 18 3,jm 2 18] .ret))),[.tmp 2]⟩
def F102:Fnc:=⟨js [p 1 (.box 0),p 2 (.mv (ki 0))] (js [p 3 (.mv (ki 0))] (.seq (js [p 6 (.fa 0 1),p 7 (.ld 6),p 8 (.len 7),
 p 9 (.mv (ki 0))] (.block 0 (.loop (js [p 10 (.bin .lss 9 8)] (.seq (.cond 10 .skip (.exit 0)) (.seq (.block 1 (js [p 11 (.ia 4 7 9),p 12 (.ldn 4 11),p 5 (.new [.int .i64 0,.bool false,.int .i64 0,.int .i64 0]),⟨none,.stn 4 5 12,none,
 false⟩] (js [p 13 (.fa 1 5),p 14 (.ld 13)] (.cond 14 (.rg [ju 15 (.mv 3),ju 16 (.fa 3 5),ju 17 (.ld 16),ju 18 (.bin .add 17 (ki 1)),ju 19 (.ldn 6 1),ju 20 (.call 74 [19]),p 21 (.bin .mul 18 20),p 22 (.bin .add 15 21),
 jm 3 22]) .skip)))) (.rg [p 23 (.bin .add 9 (ki 1)),jm 9 23]))))))) (js [jm 24 3,jm 2 24] .ret))),[.tmp 2]⟩
def F103:Fnc:=⟨js [p 6 (.mv kf)] (js [jm 7 1,jm 8 0,p 9 (.bin .leq 7 8),jm 10 9,jy 11 (.mv 0) 10,jy 12 (.mv 2) 10,jy 13 (.bin .leq 11 12) 10,p 14 (.pick 10 13 kf),jm 6 14] .ret),[.tmp 6]⟩
def F120:Fnc:=⟨js [p 2 (.mv kf)] (.seq (js [jm 15 0,p 16 (.call 123 [15])] (.cond 16 (js [p 2 (.mv kt)] .ret) .skip)) (js [jm 18 0,p 19 (.call 194 [18]),jm 17 19,p 20 (.ext 0 17),p 21 (.ext 1 17),p 22 (.ext 2 17),p 3 (.new [.slice none 0 0,.int .i64 0,
 .int .i64 0,.int .i64 0,.int .i64 0,.int .i64 0]),p 4 (.new [.slice none 0 0,.slice none 0 0,.slice none 0 0]),⟨none,.stn 6 3 20,none,false⟩,⟨none,.stn 3 4 21,none,false⟩,jm 5 22] (.seq (js [p 23 (.ldn 6 3),p 24 (.ldn 3 4),
 p 25 (.call 212 [23,24]),p 26 (.not 25),jm 27 26,jz 28 (.fa 0 3) 27,jz 29 (.ld 28) 27,jz 30 (.ia 4 29 (ki 0)) 27,jz 31 (.fa 1 30) 27,jz 32 (.ld 31) 27,jz 33 (.not 32) 27,p 34 (.pick 27 kt 33)] (.cond 34 (js [ju 35 (.ldn 6 3),
 ju 36 (.call 44 [35]),ju 37 (.ldn 6 3),p 38 (.call 197 [37]),p 39 (.bin .eql 36 38),jm 2 39] .ret) .skip)) (js [p 40 (.fa 1 4),p 41 (.ld 40),p 42 (.fa 2 4),p 43 (.ld 42),p 44 (.bd [.slice none 0 0,.slice none 0 0,.slice none 0 0] [(1,1,41),
 (2,1,43)]),p 6 (.new [.slice none 0 0,.slice none 0 0,.slice none 0 0]),⟨none,.stn 3 6 44,none,false⟩] (js [jm 45 0,p 46 (.call 122 [45,ki 1]),p 47 (.bin .rem 46 (ki 20)),
 jm 7 47] (.seq (js [p 8 (.mv (ki 0))] (.block 0 (.loop (.seq (js [jm 48 8,p 49 (.fa 0 4),p 50 (.ld 49),p 51 (.len 50),p 52 (.bin .lss 48 51)] (.cond 52 .skip (.exit 0))) (.seq (.block 1 (js [p 55 (.fa 0 4),p 56 (.ld 55),jm 57 8,
 p 58 (.ia 8 56 57),p 59 (.fa 1 58),p 60 (.ld 59),p 61 (.bin .neq 60 (ki 0)),jm 62 61,jy 63 (.fa 0 4) 62,jy 64 (.ld 63) 62,jy 65 (.mv 8) 62,jy 66 (.ia 8 64 65) 62,jy 67 (.fa 0 66) 62,jy 68 (.ld 67) 62,jy 69 (.mv 7) 62,
 jy 70 (.bin .leq 68 69) 62,p 71 (.pick 62 70 kf)] (.cond 71 (.rg [ju 72 (.fa 0 6),ju 73 (.ld 72),ju 74 (.fa 0 4),ju 75 (.ld 74),ju 76 (.mv 8),ju 77 (.ia 8 75 76),ju 78 (.ldn 8 77),ju 79 (.bs 8 1 [.int .i64 0,.int .i64 0,.bool false,
 .int .i64 0,.int .i64 0,.int .i64 0,.bool false,.slice none 0 0] [(0,78)]),p 80 (.app 8 80 73 79),p 81 (.fa 0 6),⟨none,.st 81 80,none,false⟩]) .skip))) (.rg [jm 53 8,p 54 (.bin .add 53 (ki 1)),jm 8 54])))))) (js [p 82 (.fa 0 6),
 p 83 (.ld 82),jm 84 7,p 85 (.bd [.bool false,.int .i64 0,.int .i64 0,.int .i64 0,.bool false,.slice none 0 0] [(2,1,ki 2)]),p 86 (.bd [.int .i64 0,.int .i64 0,.bool false,.int .i64 0,.int .i64 0,.int .i64 0,.bool false,.slice none 0 0] [(0,
 1,84),(1,1,ki 0),(2,6,85)]),p 87 (.bs 8 1 [.int .i64 0,.int .i64 0,.bool false,.int .i64 0,.int .i64 0,.int .i64 0,.bool false,.slice none 0 0] [(0,86)]),p 88 (.app 8 80 83 87),p 89 (.fa 0 6),⟨none,.st 89 88,none,
 false⟩] (js [p 90 (.ldn 6 3),p 91 (.call 44 [90]),jm 9 91] (.seq (js [p 92 (.ldn 6 3),p 93 (.ldn 3 6),p 94 (.call 212 [92,93]),p 95 (.not 94),jm 96 95,jz 97 (.mv 9) 96,jz 98 (.bin .lss 97 (ki 1)) 96,p 99 (.pick 96 kt 98),jm 100 99,
 jz 101 (.mv 7) 100,jz 102 (.mv 9) 100,jz 103 (.bin .add 101 102) 100,jz 104 (.bin .add 103 (ki 1)) 100,jz 105 (.bin .gtr 104 (ki 4000)) 100,p 106 (.pick 100 kt 105)] (.cond 106 (js [jm 107 9,p 108 (.ldn 6 3),p 109 (.call 197 [108]),
 p 110 (.bin .eql 107 109),jm 2 110] .ret) .skip)) (js [p 112 (.ldn 6 3),p 113 (.call 181 [112]),jm 111 113,p 114 (.ext 0 111),p 115 (.ext 1 111),p 10 (.new [.slice none 0 0,.int .i64 0,.int .i64 0,.int .i64 0,.int .i64 0,.int .i64 0,
 .int .i64 0,.slice none 0 0,.int .i64 0,.int .i64 0,.slice none 0 0,.slice none 0 0,.int .i64 0,.int .i64 0,.int .i64 0,.bool false,.int .i64 0,.int .i64 0,.bool false,.int .i64 0,.int .i64 0,.int .i64 0,.bool false,.bool false,.int .i64 0,
 .int .i64 0,.bool false,.int .i64 0,.int .i64 0,.int .i64 0,.bool false,.slice none 0 0,.slice none 0 0,.int .i64 0,.slice none 0 0,.int .i64 0,.slice none 0 0]),⟨none,.stn 37 10 114,none,false⟩,jm 11 115] (js [p 117 (.ldn 37 10),
 p 118 (.ldn 3 6),jm 119 7,jm 120 9,p 121 (.bin .add 119 120),p 122 (.bin .add 121 (ki 1)),p 123 (.call 32 [117,118,122]),jm 116 123,p 124 (.ext 0 116),p 125 (.ext 1 116),p 12 (.new [.slice none 0 0,.int .i64 0,.int .i64 0,.int .i64 0,
 .int .i64 0,.int .i64 0,.int .i64 0,.slice none 0 0,.int .i64 0,.int .i64 0,.slice none 0 0,.slice none 0 0,.int .i64 0,.int .i64 0,.int .i64 0,.bool false,.int .i64 0,.int .i64 0,.bool false,.int .i64 0,.int .i64 0,.int .i64 0,.bool false,
 .bool false,.int .i64 0,.int .i64 0,.bool false,.int .i64 0,.int .i64 0,.int .i64 0,.bool false,.slice none 0 0,.slice none 0 0,.int .i64 0,.slice none 0 0,.int .i64 0,.slice none 0 0]),⟨none,.stn 37 12 124,none,false⟩,
 jm 13 125] (.seq (js [jm 126 7,jm 14 126] (.block 2 (.loop (.seq (js [jm 127 14,jm 128 13,p 129 (.len 128),p 130 (.bin .lss 127 129)] (.cond 130 .skip (.exit 2))) (.seq (.block 3 (js [jm 133 13,jm 134 14,p 135 (.ia 9 133 134),
 p 136 (.fa 8 135),p 137 (.ld 136),p 138 (.bin .eql 137 (ki 0))] (.cond 138 (js [p 2 (.mv kt)] .ret) .skip))) (.rg [jm 131 14,p 132 (.bin .add 131 (ki 1)),jm 14 132])))))) (js [p 2 (.mv kf)] .ret))))))))))))),[.tmp 2]⟩
def F122:Fnc:=⟨js [p 4 (.mv (ki 0))] (.seq (js [jm 5 1,jm 6 0,p 7 (.len 6),p 8 (.bin .lss 5 7)] (.cond 8 (js [jm 9 0,jm 10 1,p 11 (.ia 1 9 10),p 12 (.ld 11),p 13 (.cvi .i64 12),jm 4 13] .ret) .skip)) (js [jm 14 1,p 15 (.bin .mul 14 (ki 37)),jm 16 0,
 p 17 (.len 16),p 18 (.bin .mul 17 (ki 11)),p 19 (.bin .add 15 18),p 20 (.bin .rem 19 (ki 256)),jm 4 20] .ret)),[.tmp 4]⟩
def F123:Fnc:=⟨js [p 2 (.mv kf)] (js [jm 3 0,p 4 (.len 3),p 5 (.bin .gtr 4 (ki 1048576)),jm 2 5] .ret),[.tmp 2]⟩
def F172:Fnc:=⟨js [p 4 (.mv kf)] (js [jm 5 1,p 6 (.call 183 [5]),p 7 (.bin .gtr 6 (ki 0)),jm 8 7,jy 9 (.mv 0) 8,jy 10 (.bin .geq 9 (ki 0)) 8,p 11 (.pick 8 10 kf),jm 12 11,jy 13 (.mv 0) 12,jy 14 (.mv 1) 12,jy 15 (.call 183 [14]) 12,
 jy 16 (.bin .rem 13 15) 12,jy 17 (.bin .eql 16 (ki 0)) 12,p 18 (.pick 12 17 kf),jm 4 18] .ret),[.tmp 4]⟩
def F173:Fnc:=⟨js [p 2 (.mv (ki 0))] (.seq (js [jm 3 0,p 4 (.call 230 [3,ki 0,ki 3]),p 5 (.not 4)] (.cond 5 (js [p 2 (.mv (ki 0))] .ret) .skip)) (js [p 6 (.bs 1 4 [.int .i64 0] [(0,ki 1),(1,ki 4),(2,ki 4),(3,ki 8)]),jm 7 0,p 8 (.ia 1 6 7),p 9 (.ld 8),
 jm 2 9] .ret)),[.tmp 2]⟩
def F175:Fnc:=⟨js [p 1 (.box 0),p 2 (.new [.int .i64 0,.int .i64 0])] (.seq (js [p 3 (.fa 1 1),p 4 (.ld 3),p 5 (.not 4)] (.cond 5 (js [p 6 (.bd [.int .i64 0,.int .i64 0] []),⟨none,.stn 2 2 6,none,false⟩] .ret) .skip)) (js [p 7 (.fa 3 1),p 8 (.ld 7),
 p 9 (.mx [ki 0,8]),p 10 (.bd [.int .i64 0,.int .i64 0] [(0,1,9)]),⟨none,.stn 2 2 10,none,false⟩] .ret)),[.celln 2 2]⟩
def F179:Fnc:=⟨js [p 6 (.mv (.k (.slice none 0 0)))] (js [p 8 (.bs 1 0 [.int .i64 0] []),jm 7 8] (.seq (.block 0 (.loop (.seq (js [jm 9 7,p 10 (.len 9),jm 11 2,p 12 (.call 173 [11]),p 13 (.bin .lss 10 12),jm 14 13,jy 15 (.mv 0) 14,jy 16 (.mv 1) 14,
 jy 17 (.mv 2) 14,jy 18 (.call 205 [15,16,17]) 14,jy 19 (.bin .geq 18 (ki 0)) 14,p 20 (.pick 14 19 kf)] (.cond 20 .skip (.exit 0))) (.block 1 (js [jm 21 7,jm 22 0,p 23 (.bs 1 1 [.int .i64 0] [(0,22)]),p 24 (.app 1 8 21 23),
 jm 7 24] (.rg [jm 25 0,jm 26 1,jm 27 2,p 28 (.call 205 [25,26,27]),jm 0 28])))))) (.seq (js [jm 29 7,p 30 (.len 29),jm 31 2,p 32 (.call 173 [31]),p 33 (.bin .lss 30 32)] (.cond 33 (js [p 34 (.bs 1 0 [.int .i64 0] []),
 jm 6 34] .ret) .skip)) (js [jm 35 7,jm 6 35] .ret)))),[.tmp 6]⟩
def F180:Fnc:=⟨js [p 6 (.mv kf)] (js [jm 9 0,jm 10 1,jm 11 2,p 12 (.call 179 [9,10,11]),jm 7 12] (.seq (js [p 8 (.mv (ki 0))] (.block 0 (.loop (.seq (js [jm 13 8,jm 14 7,p 15 (.len 14),
 p 16 (.bin .lss 13 15)] (.cond 16 .skip (.exit 0))) (.seq (.block 1 (js [ju 19 (.mv 7),ju 20 (.mv 8),ju 21 (.ia 1 19 20),ju 22 (.ld 21),ju 23 (.bin .quo 22 (ki 64)),ju 24 (.mv 7),ju 25 (.ia 1 24 (ki 0)),ju 26 (.ld 25),
 ju 27 (.bin .quo 26 (ki 64)),p 28 (.bin .neq 23 27)] (.cond 28 (js [p 6 (.mv kf)] .ret) .skip))) (.rg [jm 17 8,p 18 (.bin .add 17 (ki 1)),jm 8 18])))))) (js [jm 29 7,p 30 (.len 29),p 31 (.bin .gtr 30 (ki 0)),jm 6 31] .ret))),[.tmp 6]⟩
def F181:Fnc:=⟨js [p 1 (.box 0),p 2 (.new [.slice none 0 0,.int .i64 0,.int .i64 0,.int .i64 0,.int .i64 0,.int .i64 0,.int .i64 0,.slice none 0 0,.int .i64 0,.int .i64 0,.slice none 0 0,.slice none 0 0,.int .i64 0,.int .i64 0,.int .i64 0,.bool false,
 .int .i64 0,.int .i64 0,.bool false,.int .i64 0,.int .i64 0,.int .i64 0,.bool false,.bool false,.int .i64 0,.int .i64 0,.bool false,.int .i64 0,.int .i64 0,.int .i64 0,.bool false,.slice none 0 0,.slice none 0 0,.int .i64 0,.slice none 0 0,
 .int .i64 0,.slice none 0 0]),p 3 (.mv kf)] (.seq (js [p 6 (.ldn 6 1),p 7 (.call 184 [6]),p 8 (.not 7)] (.cond 8 (js [p 9 (.bd [.slice none 0 0,.int .i64 0,.int .i64 0,.int .i64 0,.int .i64 0,.int .i64 0,.int .i64 0,.slice none 0 0,
 .int .i64 0,.int .i64 0,.slice none 0 0,.slice none 0 0,.int .i64 0,.int .i64 0,.int .i64 0,.bool false,.int .i64 0,.int .i64 0,.bool false,.int .i64 0,.int .i64 0,.int .i64 0,.bool false,.bool false,.int .i64 0,.int .i64 0,.bool false,
 .int .i64 0,.int .i64 0,.int .i64 0,.bool false,.slice none 0 0,.slice none 0 0,.int .i64 0,.slice none 0 0,.int .i64 0,.slice none 0 0] []),⟨none,.stn 37 2 9,none,false⟩,p 3 (.mv kf)] .ret) .skip)) (js [p 10 (.ldn 6 1),
 p 11 (.call 244 [10]),p 12 (.call 202 []),p 13 (.bd [.slice none 0 0,.int .i64 0,.int .i64 0,.int .i64 0,.int .i64 0,.int .i64 0,.int .i64 0,.slice none 0 0,.int .i64 0,.int .i64 0,.slice none 0 0,.slice none 0 0,.int .i64 0,.int .i64 0,
 .int .i64 0,.bool false,.int .i64 0,.int .i64 0,.bool false,.int .i64 0,.int .i64 0,.int .i64 0,.bool false,.bool false,.int .i64 0,.int .i64 0,.bool false,.int .i64 0,.int .i64 0,.int .i64 0,.bool false,.slice none 0 0,.slice none 0 0,
 .int .i64 0,.slice none 0 0,.int .i64 0,.slice none 0 0] [(0,6,11),(12,1,ki (-1)),(14,1,ki (-1)),(31,4,12)]),p 4 (.new [.slice none 0 0,.int .i64 0,.int .i64 0,.int .i64 0,.int .i64 0,.int .i64 0,.int .i64 0,.slice none 0 0,.int .i64 0,
 .int .i64 0,.slice none 0 0,.slice none 0 0,.int .i64 0,.int .i64 0,.int .i64 0,.bool false,.int .i64 0,.int .i64 0,.bool false,.int .i64 0,.int .i64 0,.int .i64 0,.bool false,.bool false,.int .i64 0,.int .i64 0,.bool false,.int .i64 0,
 .int .i64 0,.int .i64 0,.bool false,.slice none 0 0,.slice none 0 0,.int .i64 0,.slice none 0 0,.int .i64 0,.slice none 0 0]),⟨none,.stn 37 4 13,none,false⟩] (.seq (js [p 5 (.mv (ki 0))] (.block 0 (.loop (.seq (js [jm 14 5,p 15 (.fa 0 1),
 p 16 (.ld 15),p 17 (.len 16),p 18 (.bin .lss 14 17)] (.cond 18 .skip (.exit 0))) (.seq (.block 1 (js [p 21 (.fa 7 4),p 22 (.ld 21),p 23 (.bd [.slice none 0 0,.int .i64 0,.int .i64 0,.int .i64 0,.bool false,.bool false] []),
 p 24 (.bs 6 1 [.slice none 0 0,.int .i64 0,.int .i64 0,.int .i64 0,.bool false,.bool false] [(0,23)]),p 25 (.app 6 56 22 24),p 26 (.fa 7 4),⟨none,.st 26 25,none,false⟩] (js [ju 27 (.fa 10 4),ju 28 (.ld 27),ju 29 (.fa 0 1),ju 30 (.ld 29),
 ju 31 (.mv 5),ju 32 (.ia 4 30 31),ju 33 (.ldn 4 32),ju 34 (.call 175 [33]),ju 35 (.bs 2 1 [.int .i64 0,.int .i64 0] [(0,34)]),p 36 (.app 2 16 28 35),p 37 (.fa 10 4),⟨none,.st 37 36,none,false⟩] (.rg [p 38 (.fa 11 4),p 39 (.ld 38),
 p 40 (.bs 1 1 [.int .i64 0] [(0,ki 0)]),p 41 (.app 1 8 39 40),p 42 (.fa 11 4),⟨none,.st 42 41,none,false⟩])))) (.rg [jm 19 5,p 20 (.bin .add 19 (ki 1)),jm 5 20])))))) (js [p 43 (.ldn 37 4),⟨none,.stn 37 2 43,none,false⟩,
 p 3 (.mv kt)] .ret)))),[.celln 2 37,.tmp 3]⟩
def F183:Fnc:=⟨js [p 2 (.mv (ki 0))] (.seq (js [jm 3 0,p 4 (.call 230 [3,ki 0,ki 2]),p 5 (.not 4)] (.cond 5 (js [p 2 (.mv (ki 0))] .ret) .skip)) (js [jm 6 0,p 7 (.bin .shl (ki 1) 6),jm 2 7] .ret)),[.tmp 2]⟩
def F184:Fnc:=⟨js [p 1 (.box 0),p 2 (.mv kf)] (js [p 3 (.mv (ki 0))] (.seq (js [p 4 (.mv (ki 0))] (.block 0 (.loop (.seq (js [jm 7 4,p 8 (.fa 0 1),p 9 (.ld 8),p 10 (.len 9),
 p 11 (.bin .lss 7 10)] (.cond 11 .skip (.exit 0))) (.seq (.block 1 (js [p 14 (.fa 0 1),p 15 (.ld 14),jm 16 4,p 17 (.ia 4 15 16),p 18 (.fa 1 17),p 19 (.ld 18)] (.cond 19 (.rg [jm 20 3,p 21 (.bin .add 20 (ki 1)),
 jm 3 21]) .skip))) (.rg [jm 12 4,p 13 (.bin .add 12 (ki 1)),jm 4 13])))))) (.seq (js [p 5 (.mv (ki 0))] (.block 2 (.loop (.seq (js [jm 22 5,p 23 (.fa 0 1),p 24 (.ld 23),p 25 (.len 24),
 p 26 (.bin .lss 22 25)] (.cond 26 .skip (.exit 2))) (.seq (.block 3 (js [p 29 (.fa 0 1),p 30 (.ld 29),jm 31 5,p 32 (.ia 4 30 31),p 33 (.ldn 4 32),p 6 (.new [.int .i64 0,.bool false,.int .i64 0,.int .i64 0]),⟨none,.stn 4 6 33,none,
 false⟩] (js [p 34 (.fa 0 6),p 35 (.ld 34),p 36 (.call 230 [35,ki 1,ki 4]),p 37 (.not 36),jm 38 37,jz 39 (.fa 1 6) 38,jz 40 (.ld 39) 38,jz 41 (.not 40) 38,jz 42 (.mv 41) 38,jy 43 (.fa 2 6) 42,jy 44 (.ld 43) 42,jy 45 (.bin .neq 44 (ki 0)) 42,
 jy 46 (.mv 45) 42,jz 47 (.fa 3 6) 46,jz 48 (.ld 47) 46,jz 49 (.bin .neq 48 (ki 0)) 46,jy 50 (.pick 46 kt 49) 42,jz 51 (.pick 42 50 kf) 38,p 52 (.pick 38 kt 51),jm 53 52,jz 54 (.fa 1 6) 53,jz 55 (.ld 54) 53,jz 56 (.mv 55) 53,
 jw 57 (.fa 2 6) 56 true,jw 58 (.ld 57) 56 true,jw 59 (.mv 3) 56 true,jw 60 (.bin .mul (ki 2) 59) 56 true,jw 61 (.ldn 6 1) 56 true,jw 62 (.call 214 [61]) 56 true,jw 63 (.bin .mul 60 62) 56 true,jy 64 (.call 230 [58,63,ki 1000]) 56,
 jy 65 (.not 64) 56,jy 66 (.mv 65) 56,jz 67 (.fa 3 6) 66,jz 68 (.ld 67) 66,jz 69 (.call 230 [68,ki 1,ki 8]) 66,jz 70 (.not 69) 66,jy 71 (.pick 66 kt 70) 56,jz 72 (.pick 56 71 kf) 53,
 p 73 (.pick 53 kt 72)] (.cond 73 (js [p 2 (.mv kf)] .ret) .skip)))) (.rg [jm 27 5,p 28 (.bin .add 27 (ki 1)),jm 5 28])))))) (js [p 74 (.fa 0 1),p 75 (.ld 74),p 76 (.len 75),p 77 (.call 230 [76,ki 1,ki 4]),jm 78 77,jy 79 (.ldn 6 1) 78,
 jy 80 (.call 245 [79]) 78,p 81 (.pick 78 80 kf),jm 2 81] .ret)))),[.tmp 2]⟩
def F186:Fnc:=⟨js [p 1 (.box 0),p 2 (.mv (ki 0))] (.seq (js [p 3 (.fa 3 1),p 4 (.ld 3),p 5 (.call 230 [4,ki 0,ki 3]),p 6 (.not 5),jm 7 6,jz 8 (.fa 2 1) 7,jz 9 (.ld 8) 7,jz 10 (.call 230 [9,ki 0,ki 3]) 7,jz 11 (.not 10) 7,
 p 12 (.pick 7 kt 11)] (.cond 12 (js [p 2 (.mv (ki 0))] .ret) .skip)) (js [p 13 (.fa 3 1),p 14 (.ld 13),p 15 (.bin .add 14 (ki 2)),p 16 (.fa 2 1),p 17 (.ld 16),p 18 (.bin .add 17 (ki 6)),p 19 (.bin .mul 15 18),jm 2 19] .ret)),[.tmp 2]⟩
def F188:Fnc:=⟨js [p 0 (.new [.slice none 0 0,.int .i64 0,.slice none 0 0])] (js [p 1 (.mk 1 8 [.int .i64 0] (ki 4) (ki 4)),p 2 (.bd [.slice none 0 0,.int .i64 0,.slice none 0 0] [(0,1,1)]),⟨none,.stn 3 0 2,none,false⟩] .ret),[.celln 0 3]⟩
def F194:Fnc:=⟨js [p 2 (.new [.slice none 0 0,.int .i64 0,.int .i64 0,.int .i64 0,.int .i64 0,.int .i64 0]),p 3 (.new [.slice none 0 0,.slice none 0 0,.slice none 0 0]),p 4 (.mv (ki 0))] (js [jm 8 0,p 9 (.call 231 [8]),jm 5 9] (js [jm 11 5,
 p 12 (.call 247 [11]),jm 10 12,p 13 (.ext 0 10),p 14 (.ext 1 10),p 6 (.new [.slice none 0 0,.int .i64 0,.int .i64 0,.int .i64 0,.int .i64 0,.int .i64 0]),p 7 (.new [.slice none 0 0,.slice none 0 0,.slice none 0 0]),⟨none,.stn 6 6 13,none,
 false⟩,⟨none,.stn 3 7 14,none,false⟩] (js [ju 15 (.ldn 6 6),ju 16 (.ldn 3 7),ju 17 (.mv 5),ju 18 (.call 228 [17,ki 62]),ju 19 (.bin .sub 18 (ki 1)),⟨none,.stn 6 2 15,none,true⟩,⟨none,.stn 3 3 16,none,true⟩,jm 4 19] .ret))),[.celln 2 6,
 .celln 3 3,.tmp 4]⟩
def F197:Fnc:=⟨js [p 1 (.box 0),p 2 (.mv (ki 0))] (.seq (js [p 3 (.ldn 6 1),p 4 (.call 184 [3]),p 5 (.not 4)] (.cond 5 (js [p 2 (.mv (ki 0))] .ret) .skip)) (js [ju 6 (.ldn 6 1),ju 7 (.call 227 [6]),ju 8 (.ldn 6 1),p 9 (.call 214 [8]),
 p 10 (.bin .add 7 9),p 11 (.bin .mul (ki 2) 10),p 12 (.bin .add 11 (ki 10)),jm 2 12] .ret)),[.tmp 2]⟩
def F201:Fnc:=⟨js [p 2 (.mv (ki 0))] (.seq (js [jm 3 0,p 4 (.call 183 [3]),p 5 (.bin .eql 4 (ki 0))] (.cond 5 (js [p 2 (.mv (ki 0))] .ret) .skip)) (js [jm 6 0,p 7 (.call 183 [6]),p 8 (.bin .mul (ki 8) 7),p 9 (.bin .shl (ki 1) 8),jm 2 9] .ret)),[.tmp 2]⟩
def F202:Fnc:=⟨js [p 0 (.new [.slice none 0 0,.slice none 0 0,.int .i64 0,.slice none 0 0])] (js [ju 1 (.mk 1 8 [.int .i64 0] (ki 192) (ki 192)),ju 2 (.call 188 []),p 3 (.bd [.slice none 0 0,.slice none 0 0,.int .i64 0,.slice none 0 0] [(0,1,1),(1,3,
 2)]),⟨none,.stn 4 0 3,none,false⟩] .ret),[.celln 0 4]⟩
def F205:Fnc:=⟨js [p 6 (.mv (ki 0))] (js [jm 8 1,p 9 (.call 183 [8]),jm 7 9] (.seq (js [jm 10 0,jm 11 1,p 12 (.call 172 [10,11]),p 13 (.not 12),jm 14 13,jz 15 (.mv 0) 14,jz 16 (.call 230 [15,ki 0,ki 511]) 14,jz 17 (.not 16) 14,p 18 (.pick 14 kt 17),
 jm 19 18,jz 20 (.mv 2) 19,jz 21 (.call 173 [20]) 19,jz 22 (.bin .eql 21 (ki 0)) 19,p 23 (.pick 19 kt 22)] (.cond 23 (js [p 6 (.mv (ki (-1)))] .ret) .skip)) (.seq (js [jm 24 2,p 25 (.bin .eql 24 (ki 2)),jm 26 25,jy 27 (.mv 0) 26,
 jy 28 (.mv 7) 26,jy 29 (.bin .add 27 28) 26,jy 30 (.mv 7) 26,jy 31 (.bin .mul (ki 4) 30) 26,jy 32 (.bin .rem 29 31) 26,jy 33 (.bin .eql 32 (ki 0)) 26,p 34 (.pick 26 33 kf)] (.cond 34 (js [jm 35 0,jm 36 7,p 37 (.bin .add 35 36),jm 38 7,
 p 39 (.bin .mul (ki 4) 38),p 40 (.bin .sub 37 39),jm 6 40] .ret) .skip)) (js [jm 41 0,jm 42 7,p 43 (.bin .add 41 42),jm 6 43] .ret)))),[.tmp 6]⟩
def F207:Fnc:=⟨js [p 1 (.box 0),p 2 (.mv kf)] (.seq (js [p 4 (.fa 1 1),p 5 (.ld 4),p 6 (.fa 2 1),p 7 (.ld 6),p 8 (.fa 3 1),p 9 (.ld 8),p 10 (.call 180 [5,7,9]),
 p 11 (.not 10)] (.cond 11 (js [p 2 (.mv kf)] .ret) .skip)) (.seq (js [p 3 (.mv (ki 0))] (.block 0 (.loop (.seq (js [jm 12 3,p 13 (.fa 5 1),p 14 (.ld 13),p 15 (.len 14),
 p 16 (.bin .lss 12 15)] (.cond 16 .skip (.exit 0))) (.seq (.block 1 (js [ju 19 (.fa 5 1),ju 20 (.ld 19),ju 21 (.mv 3),ju 22 (.ia 1 20 21),ju 23 (.ld 22),ju 24 (.fa 2 1),ju 25 (.ld 24),ju 26 (.call 201 [25]),ju 27 (.bin .sub 26 (ki 1)),
 p 28 (.call 230 [23,ki 0,27]),p 29 (.not 28)] (.cond 29 (js [p 2 (.mv kf)] .ret) .skip))) (.rg [jm 17 3,p 18 (.bin .add 17 (ki 1)),jm 3 18])))))) (js [p 30 (.fa 5 1),p 31 (.ld 30),p 32 (.len 31),p 33 (.bin .eql 32 (ki 0)),jm 34 33,
 jy 35 (.fa 0 1) 34,jy 36 (.ld 35) 34,jy 37 (.not 36) 34,p 38 (.pick 34 37 kf),jm 39 38,jw 40 (.fa 5 1) 39 false,jw 41 (.ld 40) 39 false,jw 42 (.len 41) 39 false,jw 43 (.fa 3 1) 39 false,jw 44 (.ld 43) 39 false,
 jw 45 (.call 173 [44]) 39 false,jz 46 (.bin .eql 42 45) 39,jz 47 (.mv 46) 39,jy 48 (.fa 0 1) 47,jy 49 (.ld 48) 47,jz 50 (.pick 47 49 kf) 39,p 51 (.pick 39 kt 50),jm 2 51] .ret))),[.tmp 2]⟩
def F212:Fnc:=⟨js [p 2 (.box 0),p 3 (.box 1),p 4 (.mv kf)] (.seq (js [p 5 (.mv (ki 0))] (.block 0 (.loop (.seq (js [jm 7 5,p 8 (.fa 0 3),p 9 (.ld 8),p 10 (.len 9),p 11 (.bin .lss 7 10)] (.cond 11 .skip (.exit 0))) (.seq (.block 1 (js [p 14 (.fa 0 3),
 p 15 (.ld 14),jm 16 5,p 17 (.ia 8 15 16),p 18 (.ldn 8 17),p 6 (.new [.int .i64 0,.int .i64 0,.bool false,.int .i64 0,.int .i64 0,.int .i64 0,.bool false,.slice none 0 0]),⟨none,.stn 8 6 18,none,false⟩] (js [p 19 (.fa 0 6),p 20 (.ld 19),
 p 21 (.call 230 [20,ki 0,ki 4000]),p 22 (.not 21),jm 23 22,jw 24 (.fa 1 6) 23 false,jw 25 (.ld 24) 23 false,jw 26 (.fa 0 2) 23 false,jw 27 (.ld 26) 23 false,jw 28 (.len 27) 23 false,jw 29 (.bin .sub 28 (ki 1)) 23 false,jz 30 (.call 230 [25,
 ki 0,29]) 23,jz 31 (.not 30) 23,p 32 (.pick 23 kt 31),jm 33 32,jz 34 (.fa 2 6) 33,jz 35 (.ldn 6 34) 33,jz 36 (.call 207 [35]) 33,jz 37 (.not 36) 33,p 38 (.pick 33 kt 37),jm 39 38,jz 40 (.mv 5) 39,jz 41 (.bin .gtr 40 (ki 0)) 39,
 jz 42 (.mv 41) 39,jw 43 (.fa 0 6) 42 true,jw 44 (.ld 43) 42 true,jw 45 (.fa 0 3) 42 true,jw 46 (.ld 45) 42 true,jw 47 (.mv 5) 42 true,jw 48 (.bin .sub 47 (ki 1)) 42 true,jw 49 (.ia 8 46 48) 42 true,jw 50 (.fa 0 49) 42 true,
 jw 51 (.ld 50) 42 true,jy 52 (.bin .lss 44 51) 42,jz 53 (.pick 42 52 kf) 39,p 54 (.pick 39 kt 53)] (.cond 54 (js [p 4 (.mv kf)] .ret) .skip)))) (.rg [jm 12 5,p 13 (.bin .add 12 (ki 1)),jm 5 13])))))) (js [p 55 (.ldn 6 2),
 p 56 (.call 184 [55]),jm 57 56,jy 58 (.fa 0 3) 57,jy 59 (.ld 58) 57,jy 60 (.len 59) 57,jy 61 (.bin .leq 60 (ki 20)) 57,p 62 (.pick 57 61 kf),jm 63 62,jy 64 (.fa 1 3) 63,jy 65 (.ld 64) 63,jy 66 (.len 65) 63,jy 67 (.bin .leq 66 (ki 20)) 63,
 p 68 (.pick 63 67 kf),jm 69 68,jy 70 (.fa 2 3) 69,jy 71 (.ld 70) 69,jy 72 (.len 71) 69,jy 73 (.bin .leq 72 (ki 20)) 69,p 74 (.pick 69 73 kf),jm 4 74] .ret)),[.tmp 4]⟩
def F214:Fnc:=⟨js [p 1 (.box 0),p 2 (.mv (ki 0))] (.seq (js [p 3 (.ldn 6 1),p 4 (.call 186 [3]),p 5 (.bin .eql 4 (ki 0)),jm 6 5,jz 7 (.fa 5 1) 6,jz 8 (.ld 7) 6,jz 9 (.call 230 [8,ki 1,ki 40]) 6,jz 10 (.not 9) 6,
 p 11 (.pick 6 kt 10)] (.cond 11 (js [p 2 (.mv (ki 0))] .ret) .skip)) (js [ju 12 (.ldn 6 1),ju 13 (.call 186 [12]),ju 14 (.bin .mul (ki 2) 13),ju 15 (.fa 5 1),ju 16 (.ld 15),p 17 (.bin .add 14 16),jm 2 17] .ret)),[.tmp 2]⟩
def F227:Fnc:=⟨js [p 1 (.box 0),p 2 (.mv (ki 0))] (js [p 3 (.mv (ki 0))] (.seq (js [p 4 (.mv (ki 0))] (.block 0 (.loop (.seq (js [jm 5 4,p 6 (.fa 0 1),p 7 (.ld 6),p 8 (.len 7),
 p 9 (.bin .lss 5 8)] (.cond 9 .skip (.exit 0))) (.seq (.block 1 (js [p 12 (.fa 0 1),p 13 (.ld 12),jm 14 4,p 15 (.ia 4 13 14),p 16 (.fa 1 15),p 17 (.ld 16)] (.cond 17 (.rg [ju 18 (.mv 3),ju 19 (.fa 0 1),ju 20 (.ld 19),ju 21 (.mv 4),
 ju 22 (.ia 4 20 21),ju 23 (.fa 3 22),ju 24 (.ld 23),ju 25 (.bin .add 24 (ki 1)),ju 26 (.ldn 6 1),ju 27 (.call 214 [26]),p 28 (.bin .mul 25 27),p 29 (.bin .add 18 28),jm 3 29]) .skip))) (.rg [jm 10 4,p 11 (.bin .add 10 (ki 1)),
 jm 4 11])))))) (js [jm 30 3,jm 2 30] .ret))),[.tmp 2]⟩
def F228:Fnc:=⟨js [p 4 (.mv (ki 0))] (.seq (js [jm 9 1,p 10 (.bin .leq 9 (ki 0))] (.cond 10 (js [p 4 (.mv (ki 0))] .ret) .skip)) (.seq (js [jm 11 1,p 12 (.bin .leq 11 (ki 256))] (.cond 12 (js [jm 13 0,p 14 (.call 229 [13]),jm 15 1,p 16 (.bin .rem 14 15),
 jm 4 16] .ret) .skip)) (js [jm 17 0,p 18 (.call 229 [17]),jm 5 18] (js [jm 19 0,p 20 (.call 229 [19]),jm 6 20] (js [jm 21 0,p 22 (.call 229 [21]),jm 7 22] (js [jm 23 0,p 24 (.call 229 [23]),jm 8 24] (js [jm 25 5,
 p 26 (.bin .mul 25 (ki 16777216)),jm 27 6,p 28 (.bin .mul 27 (ki 65536)),p 29 (.bin .add 26 28),jm 30 7,p 31 (.bin .mul 30 (ki 256)),p 32 (.bin .add 29 31),jm 33 8,p 34 (.bin .add 32 33),jm 35 1,p 36 (.bin .rem 34 35),jm 4 36] .ret))))))),
 [.tmp 4]⟩
def F229:Fnc:=⟨js [p 2 (.mv (ki 0))] (js [jm 4 0,jm 5 0,p 6 (.nilc 5),p 7 (.fa 2 6),p 8 (.ld 7),p 9 (.bin .mul 8 (ki 6364136223846793005)),p 10 (.bin .add 9 (ki 1442695040888963407)),p 11 (.nilc 4),p 12 (.fa 2 11),⟨none,.st 12 10,none,
 false⟩] (js [ju 13 (.mv 0),ju 14 (.nilc 13),ju 15 (.fa 2 14),ju 16 (.ld 15),ju 17 (.bin .shr 16 (.k (.int .u64 33))),ju 18 (.mv 0),ju 19 (.nilc 18),ju 20 (.fa 2 19),ju 21 (.ld 20),ju 22 (.bin .shr 21 (.k (.int .u64 45))),
 p 23 (.bin .xor 17 22),p 24 (.bin .and 23 (ki 255)),jm 3 24] (.seq (js [ju 25 (.mv 0),ju 26 (.nilc 25),ju 27 (.fa 1 26),ju 28 (.ld 27),ju 29 (.mv 0),ju 30 (.nilc 29),ju 31 (.fa 0 30),ju 32 (.ld 31),ju 33 (.len 32),
 p 34 (.bin .lss 28 33)] (.cond 34 (js [ju 35 (.mv 3),ju 36 (.mv 0),ju 37 (.nilc 36),ju 38 (.fa 0 37),ju 39 (.ld 38),ju 40 (.mv 0),ju 41 (.nilc 40),ju 42 (.fa 1 41),ju 43 (.ld 42),p 44 (.ia 1 39 43),p 45 (.ld 44),p 46 (.cvi .i64 45),
 p 47 (.bin .add 35 46),p 48 (.bin .and 47 (ki 255)),jm 3 48] (.rg [jm 49 0,jm 50 0,p 51 (.nilc 50),p 52 (.fa 1 51),p 53 (.ld 52),p 54 (.bin .add 53 (ki 1)),p 55 (.nilc 49),p 56 (.fa 1 55),⟨none,.st 56 54,none,false⟩])) .skip)) (js [jm 57 3,
 jm 2 57] .ret)))),[.tmp 2]⟩
def F230:Fnc:=⟨js [p 6 (.mv kf)] (js [jm 7 0,jm 8 1,p 9 (.bin .geq 7 8),jm 10 9,jy 11 (.mv 0) 10,jy 12 (.mv 2) 10,jy 13 (.bin .leq 11 12) 10,p 14 (.pick 10 13 kf),jm 6 14] .ret),[.tmp 6]⟩
def F231:Fnc:=⟨js [p 2 (.mv (.k (.pointer none)))] (js [jm 5 0,p 6 (.len 5),p 7 (.bin .add (ki 10101) 6),jm 3 7] (.seq (js [p 4 (.mv (ki 0))] (.block 0 (.loop (.seq (js [jm 8 4,jm 9 0,p 10 (.len 9),p 11 (.bin .lss 8 10),jm 12 11,jy 13 (.mv 4) 12,
 jy 14 (.bin .lss 13 (ki 4000)) 12,p 15 (.pick 12 14 kf)] (.cond 15 .skip (.exit 0))) (.seq (.block 1 (.rg [jm 18 3,p 19 (.bin .mul 18 (ki 131)),jm 20 0,jm 21 4,p 22 (.ia 1 20 21),p 23 (.ld 22),p 24 (.cvi .i64 23),p 25 (.bin .add 19 24),
 p 26 (.bin .add 25 (ki 7)),p 27 (.bin .and 26 (ki 1073741823)),jm 3 27])) (.rg [jm 16 4,p 17 (.bin .add 16 (ki 1)),jm 4 17])))))) (js [jm 28 0,jm 29 3,p 30 (.bd [.slice none 0 0,.int .i64 0,.int .i64 0] [(0,1,28),(2,1,29)]),p 31 (.box 30),
 jm 2 31] .ret))),[.tmp 2]⟩
def F233:Fnc:=⟨js [p 4 (.mv kf)] (js [jm 5 0,jm 6 1,p 7 (.call 228 [5,6]),p 8 (.bin .eql 7 (ki 0)),jm 4 8] .ret),[.tmp 4]⟩
def F234:Fnc:=⟨js [p 4 (.mv (ki 0))] (js [jm 5 1,jm 6 0,jm 7 1,p 8 (.len 7),p 9 (.call 228 [6,8]),p 10 (.ia 1 5 9),p 11 (.ld 10),jm 4 11] .ret),[.tmp 4]⟩
def F237:Fnc:=⟨js [p 2 (.mv (ki 0))] (js [jm 3 0,p 4 (.call 228 [3,ki 6]),p 5 (.bin .sub 4 (ki 1)),jm 2 5] .ret),[.tmp 2]⟩
def F239:Fnc:=⟨js [p 2 (.new [.bool false,.int .i64 0,.int .i64 0,.int .i64 0,.bool false,.slice none 0 0])] (js [jm 4 0,p 5 (.call 241 [4]),p 3 (.new [.bool false,.int .i64 0,.int .i64 0,.int .i64 0,.bool false,.slice none 0 0]),⟨none,.stn 6 3 5,none,
 false⟩] (.seq (js [jm 6 0,p 7 (.call 228 [6,ki 12])] (.block 0 (js [p 9 (.bin .eql 7 (ki 0)),jm 8 9] (.cond 8 (.rg [jm 10 0,p 11 (.bs 1 4 [.int .i64 0] [(0,ki (-4)),(1,ki 510),(2,ki 512),(3,ki 61)]),p 12 (.call 234 [10,11]),p 13 (.fa 1 3),
 ⟨none,.st 13 12,none,false⟩]) (js [p 15 (.bin .eql 7 (ki 1)),jm 14 15] (.cond 14 (.rg [p 16 (.fa 0 3),p 17 (.ld 16),p 18 (.not 17),p 19 (.fa 0 3),⟨none,.st 19 18,none,false⟩]) (js [p 21 (.bin .eql 7 (ki 2)),
 jm 20 21] (.cond 20 (.rg [jm 22 0,p 23 (.call 237 [22]),p 24 (.fa 2 3),⟨none,.st 24 23,none,false⟩]) (js [p 26 (.bin .eql 7 (ki 3)),jm 25 26] (.cond 25 (.rg [jm 27 0,p 28 (.call 237 [27]),p 29 (.fa 3 3),⟨none,.st 29 28,none,
 false⟩]) (js [p 31 (.bin .eql 7 (ki 4)),jm 30 31] (.cond 30 (.rg [p 32 (.fa 5 3),p 33 (.ld 32),p 34 (.bs 1 1 [.int .i64 0] [(0,ki 1)]),p 35 (.app 1 8 33 34),p 36 (.fa 5 3),⟨none,.st 36 35,none,
 false⟩]) .skip)))))))))))) (js [p 37 (.ldn 6 3),⟨none,.stn 6 2 37,none,false⟩] .ret))),[.celln 2 6]⟩
def F241:Fnc:=⟨js [p 2 (.new [.bool false,.int .i64 0,.int .i64 0,.int .i64 0,.bool false,.slice none 0 0])] (js [jm 6 0,p 7 (.call 233 [6,ki 2]),jm 8 0,p 9 (.bs 1 5 [.int .i64 0] [(0,ki 2),(1,ki 2),(2,ki 2),(3,ki 0),(4,ki 1)]),p 10 (.call 234 [8,9]),
 jm 11 0,p 12 (.bs 1 5 [.int .i64 0] [(0,ki 0),(1,ki 0),(2,ki 1),(3,ki 2),(4,ki 3)]),p 13 (.call 234 [11,12]),jm 14 0,p 15 (.call 233 [14,ki 6]),p 16 (.bd [.bool false,.int .i64 0,.int .i64 0,.int .i64 0,.bool false,.slice none 0 0] [(0,1,
 7),(2,1,10),(3,1,13),(4,1,15)]),p 3 (.new [.bool false,.int .i64 0,.int .i64 0,.int .i64 0,.bool false,.slice none 0 0]),⟨none,.stn 6 3 16,none,false⟩] (js [p 17 (.fa 2 3),p 18 (.ld 17),p 19 (.call 183 [18]),jm 4 19] (js [jm 20 0,jm 21 0,
 p 22 (.call 228 [21,ki 128]),jm 23 0,p 24 (.call 228 [23,ki 128]),jm 25 0,p 26 (.call 228 [25,ki 64]),p 27 (.bin .add (ki 128) 26),jm 28 0,p 29 (.call 228 [28,ki 40]),p 30 (.bin .add (ki 192) 29),jm 31 0,p 32 (.call 228 [31,ki 512]),
 p 33 (.bs 1 5 [.int .i64 0] [(0,22),(1,24),(2,27),(3,30),(4,32)]),p 34 (.call 234 [20,33]),jm 35 4,p 36 (.bin .quo 34 35),jm 37 4,p 38 (.bin .mul 36 37),p 39 (.fa 1 3),⟨none,.st 39 38,none,false⟩] (.seq (js [p 40 (.fa 1 3),p 41 (.ld 40),
 p 42 (.fa 2 3),p 43 (.ld 42),p 44 (.fa 3 3),p 45 (.ld 44),p 46 (.call 180 [41,43,45]),p 47 (.not 46)] (.cond 47 (.rg [p 48 (.fa 3 3),⟨none,.st 48 (ki 0),none,false⟩]) .skip)) (.seq (js [p 5 (.mv (ki 0))] (.block 0 (.loop (.seq (js [jm 49 5,
 p 50 (.fa 3 3),p 51 (.ld 50),p 52 (.call 173 [51]),p 53 (.bin .lss 49 52),jm 54 53,jy 55 (.fa 0 3) 54,jy 56 (.ld 55) 54,p 57 (.pick 54 56 kf)] (.cond 57 .skip (.exit 0))) (.seq (.block 1 (.rg [ju 60 (.fa 5 3),ju 61 (.ld 60),ju 62 (.mv 0),
 ju 63 (.mv 0),ju 64 (.fa 2 3),ju 65 (.ld 64),ju 66 (.call 201 [65]),ju 67 (.mn [66,ki 1000]),ju 68 (.fa 2 3),ju 69 (.ld 68),ju 70 (.call 201 [69]),ju 71 (.bs 1 2 [.int .i64 0] [(0,67),(1,70)]),ju 72 (.call 234 [63,71]),ju 73 (.call 228 [62,
 72]),ju 74 (.bs 1 1 [.int .i64 0] [(0,73)]),p 75 (.app 1 8 61 74),p 76 (.fa 5 3),⟨none,.st 76 75,none,false⟩])) (.rg [jm 58 5,p 59 (.bin .add 58 (ki 1)),jm 5 59])))))) (js [p 77 (.ldn 6 3),⟨none,.stn 6 2 77,none,false⟩] .ret)))))),
 [.celln 2 6]⟩
def F242:Fnc:=⟨js [p 2 (.new [.slice none 0 0,.int .i64 0,.int .i64 0,.int .i64 0,.int .i64 0,.int .i64 0])] (js [jm 4 0,p 5 (.call 243 [4]),p 3 (.new [.slice none 0 0,.int .i64 0,.int .i64 0,.int .i64 0,.int .i64 0,.int .i64 0]),⟨none,.stn 6 3 5,none,
 false⟩] (.seq (js [jm 6 0,p 7 (.call 228 [6,ki 14])] (.block 0 (js [p 9 (.bin .eql 7 (ki 0)),jm 8 9] (.cond 8 (.rg [ju 10 (.fa 0 3),ju 11 (.ld 10),ju 12 (.mv 0),ju 13 (.bs 1 2 [.int .i64 0] [(0,ki 0),(1,ki 5)]),ju 14 (.call 234 [12,13]),
 p 15 (.ia 4 11 (ki 0)),p 16 (.fa 0 15),⟨none,.st 16 14,none,false⟩]) (js [p 18 (.bin .eql 7 (ki 1)),jm 17 18] (.cond 17 (.rg [ju 19 (.fa 0 3),ju 20 (.ld 19),ju 21 (.fa 0 3),ju 22 (.ld 21),ju 23 (.ia 4 22 (ki 0)),ju 24 (.fa 1 23),
 ju 25 (.ld 24),ju 26 (.not 25),p 27 (.ia 4 20 (ki 0)),p 28 (.fa 1 27),⟨none,.st 28 26,none,false⟩]) (js [p 30 (.bin .eql 7 (ki 2)),jm 29 30] (.cond 29 (.rg [jm 31 0,p 32 (.bs 1 3 [.int .i64 0] [(0,ki 0),(1,ki 5),(2,ki 4)]),
 p 33 (.call 234 [31,32]),p 34 (.fa 1 3),⟨none,.st 34 33,none,false⟩]) (js [p 36 (.bin .eql 7 (ki 3)),jm 35 36] (.cond 35 (.rg [jm 37 0,p 38 (.bs 1 3 [.int .i64 0] [(0,ki (-1)),(1,ki 4),(2,ki 3)]),p 39 (.call 234 [37,38]),p 40 (.fa 2 3),
 ⟨none,.st 40 39,none,false⟩]) (js [p 42 (.bin .eql 7 (ki 4)),jm 41 42] (.cond 41 (.rg [jm 43 0,p 44 (.bs 1 2 [.int .i64 0] [(0,ki 0),(1,ki 13)]),p 45 (.call 234 [43,44]),p 46 (.fa 4 3),⟨none,.st 46 45,none,
 false⟩]) (js [p 48 (.bin .eql 7 (ki 5)),jm 47 48] (.cond 47 (.rg [p 49 (.bs 4 0 [.int .i64 0,.bool false,.int .i64 0,.int .i64 0] []),p 50 (.fa 0 3),⟨none,.st 50 49,none,false⟩]) (js [p 52 (.bin .eql 7 (ki 6)),
 jm 51 52] (.cond 51 (.rg [jm 53 0,p 54 (.bs 1 3 [.int .i64 0] [(0,ki (-1)),(1,ki 4),(2,ki 3)]),p 55 (.call 234 [53,54]),p 56 (.fa 3 3),⟨none,.st 56 55,none,false⟩]) .skip)))))))))))))))) (js [p 57 (.ldn 6 3),⟨none,.stn 6 2 57,none,
 false⟩] .ret))),[.celln 2 6]⟩
def F243:Fnc:=⟨js [p 2 (.new [.slice none 0 0,.int .i64 0,.int .i64 0,.int .i64 0,.int .i64 0,.int .i64 0])] (js [jm 6 0,p 7 (.call 228 [6,ki 3]),p 8 (.bin .add (ki 1) 7),jm 9 0,p 10 (.call 228 [9,ki 3]),jm 11 0,p 12 (.call 228 [11,ki 3]),jm 13 0,
 p 14 (.call 228 [13,ki 6]),p 15 (.bin .add (ki 1) 14),jm 16 0,p 17 (.call 228 [16,ki 12]),p 18 (.bin .add (ki 1) 17),p 19 (.bd [.slice none 0 0,.int .i64 0,.int .i64 0,.int .i64 0,.int .i64 0,.int .i64 0] [(1,1,8),(2,1,10),(3,1,12),(4,1,
 15),(5,1,18)]),p 3 (.new [.slice none 0 0,.int .i64 0,.int .i64 0,.int .i64 0,.int .i64 0,.int .i64 0]),⟨none,.stn 6 3 19,none,false⟩] (.seq (js [jm 20 0,p 21 (.call 228 [20,ki 4]),p 22 (.bin .add (ki 1) 21),
 jm 4 22] (.block 0 (.loop (.seq (js [jm 23 4,p 24 (.bin .gtr 23 (ki 0))] (.cond 24 .skip (.exit 0))) (.seq (.block 1 (.rg [ju 27 (.fa 0 3),ju 28 (.ld 27),ju 29 (.mv 0),ju 30 (.call 228 [29,ki 3]),ju 31 (.bin .add (ki 1) 30),
 ju 32 (.bd [.int .i64 0,.bool false,.int .i64 0,.int .i64 0] [(0,1,31)]),ju 33 (.bs 4 1 [.int .i64 0,.bool false,.int .i64 0,.int .i64 0] [(0,32)]),p 34 (.app 4 32 28 33),p 35 (.fa 0 3),⟨none,.st 35 34,none,false⟩])) (.rg [jm 25 4,
 p 26 (.bin .sub 25 (ki 1)),jm 4 26])))))) (.seq (js [jm 36 0,p 37 (.call 233 [36,ki 2])] (.cond 37 (js [jm 38 0,p 39 (.fa 0 3),p 40 (.ld 39),p 41 (.len 40),p 42 (.call 228 [38,41]),jm 5 42] (js [p 43 (.fa 0 3),p 44 (.ld 43),jm 45 5,
 p 46 (.ia 4 44 45),p 47 (.fa 1 46),⟨none,.st 47 kt,none,false⟩] (js [ju 48 (.fa 0 3),ju 49 (.ld 48),ju 50 (.mv 5),ju 51 (.ldn 6 3),ju 52 (.call 214 [51]),ju 53 (.bin .mul (ki 2) 52),ju 54 (.mv 0),ju 55 (.call 228 [54,ki 30]),
 ju 56 (.bin .add 53 55),p 57 (.ia 4 49 50),p 58 (.fa 2 57),⟨none,.st 58 56,none,false⟩] (.rg [ju 59 (.fa 0 3),ju 60 (.ld 59),ju 61 (.mv 5),ju 62 (.mv 0),ju 63 (.call 228 [62,ki 4]),ju 64 (.bin .add (ki 1) 63),p 65 (.ia 4 60 61),
 p 66 (.fa 3 65),⟨none,.st 66 64,none,false⟩])))) .skip)) (js [p 67 (.ldn 6 3),⟨none,.stn 6 2 67,none,false⟩] .ret)))),[.celln 2 6]⟩
def F244:Fnc:=⟨js [p 1 (.box 0),p 2 (.new [.slice none 0 0,.int .i64 0,.int .i64 0,.int .i64 0,.int .i64 0,.int .i64 0])] (js [p 3 (.bs 4 0 [.int .i64 0,.bool false,.int .i64 0,.int .i64 0] []),p 4 (.fa 0 1),p 5 (.ld 4),p 6 (.app 4 32 3 5),p 7 (.fa 0 1),
 ⟨none,.st 7 6,none,false⟩] (js [p 8 (.ldn 6 1),⟨none,.stn 6 2 8,none,false⟩] .ret)),[.celln 2 6]⟩
def F245:Fnc:=⟨js [p 1 (.box 0),p 2 (.mv kf)] (js [p 3 (.fa 1 1),p 4 (.ld 3),p 5 (.call 230 [4,ki 1,ki 4]),jm 6 5,jy 7 (.ldn 6 1) 6,jy 8 (.call 186 [7]) 6,jy 9 (.bin .gtr 8 (ki 0)) 6,p 10 (.pick 6 9 kf),jm 11 10,jy 12 (.fa 4 1) 11,jy 13 (.ld 12) 11,
 jy 14 (.call 230 [13,ki 1,ki 12]) 11,p 15 (.pick 11 14 kf),jm 16 15,jy 17 (.fa 5 1) 16,jy 18 (.ld 17) 16,jy 19 (.call 230 [18,ki 1,ki 40]) 16,p 20 (.pick 16 19 kf),jm 2 20] .ret),[.tmp 2]⟩
def F246:Fnc:=⟨js [p 3 (.box 1),p 4 (.new [.slice none 0 0,.slice none 0 0,.slice none 0 0])] (js [jm 7 0,p 8 (.ldn 6 3),p 9 (.call 249 [7,8]),p 5 (.new [.slice none 0 0,.slice none 0 0,.slice none 0 0]),⟨none,.stn 3 5 9,none,
 false⟩] (.seq (js [p 10 (.fa 0 5),p 11 (.ld 10),p 12 (.len 11),p 13 (.bin .eql 12 (ki 0))] (.cond 13 (js [p 14 (.ldn 3 5),⟨none,.stn 3 4 14,none,false⟩] .ret) .skip)) (js [jm 15 0,p 16 (.fa 0 5),p 17 (.ld 16),p 18 (.len 17),
 p 19 (.call 228 [15,18]),jm 6 19] (.seq (js [jm 20 0,p 21 (.call 228 [20,ki 14])] (.block 0 (js [p 23 (.bin .eql 21 (ki 0)),jm 22 23] (.cond 22 (.rg [ju 24 (.fa 0 5),ju 25 (.ld 24),ju 26 (.mv 6),ju 27 (.mv 0),
 ju 28 (.bs 1 4 [.int .i64 0] [(0,ki (-1)),(1,ki 0),(2,ki 99),(3,ki 4001)]),ju 29 (.call 234 [27,28]),p 30 (.ia 8 25 26),p 31 (.fa 0 30),⟨none,.st 31 29,none,false⟩]) (js [p 33 (.bin .eql 21 (ki 1)),jm 32 33] (.cond 32 (.rg [ju 34 (.fa 0 5),
 ju 35 (.ld 34),ju 36 (.mv 6),ju 37 (.mv 0),ju 38 (.call 228 [37,ki 6]),ju 39 (.bin .sub 38 (ki 1)),p 40 (.ia 8 35 36),p 41 (.fa 1 40),⟨none,.st 41 39,none,false⟩]) (js [p 43 (.bin .eql 21 (ki 2)),jm 42 43] (.cond 42 (.rg [ju 44 (.fa 0 5),
 ju 45 (.ld 44),ju 46 (.mv 6),ju 47 (.mv 0),ju 48 (.call 239 [47]),p 49 (.ia 8 45 46),p 50 (.fa 2 49),⟨none,.stn 6 50 48,none,false⟩]) .skip)))))))) (js [p 51 (.ldn 3 5),⟨none,.stn 3 4 51,none,false⟩] .ret))))),[.celln 4 3]⟩
def F247:Fnc:=⟨js [p 2 (.new [.slice none 0 0,.int .i64 0,.int .i64 0,.int .i64 0,.int .i64 0,.int .i64 0]),p 3 (.new [.slice none 0 0,.slice none 0 0,.slice none 0 0])] (js [jm 5 0,p 6 (.call 243 [5]),p 4 (.new [.slice none 0 0,.int .i64 0,.int .i64 0,
 .int .i64 0,.int .i64 0,.int .i64 0]),⟨none,.stn 6 4 6,none,false⟩] (.seq (js [jm 7 0,p 8 (.call 233 [7,ki 16])] (.cond 8 (.rg [jm 9 0,p 10 (.call 242 [9]),⟨none,.stn 6 4 10,none,false⟩]) .skip)) (js [ju 11 (.ldn 6 4),ju 12 (.mv 0),
 ju 13 (.ldn 6 4),ju 14 (.call 246 [12,13]),⟨none,.stn 6 2 11,none,false⟩,⟨none,.stn 3 3 14,none,false⟩] .ret))),[.celln 2 6,.celln 3 3]⟩
def F248:Fnc:=⟨js [p 4 (.mv (.k (.slice none 0 0)))] (js [p 7 (.bs 1 0 [.int .i64 0] []),jm 5 7] (.seq (js [jm 8 0,p 9 (.call 228 [8,ki 6]),jm 6 9] (.block 0 (.loop (.seq (js [jm 10 6,
 p 11 (.bin .gtr 10 (ki 0))] (.cond 11 .skip (.exit 0))) (.seq (.block 1 (.rg [jm 14 5,jm 15 0,jm 16 1,p 17 (.call 228 [15,16]),p 18 (.bs 1 1 [.int .i64 0] [(0,17)]),p 19 (.app 1 8 14 18),jm 5 19])) (.rg [jm 12 6,p 13 (.bin .sub 12 (ki 1)),
 jm 6 13])))))) (js [jm 20 5,jm 4 20] .ret))),[.tmp 4]⟩
def F249:Fnc:=⟨js [p 3 (.box 1),p 4 (.new [.slice none 0 0,.slice none 0 0,.slice none 0 0])] (js [jm 8 0,p 9 (.call 248 [8,ki 5]),jm 10 0,p 11 (.call 248 [10,ki 5]),p 12 (.bd [.slice none 0 0,.slice none 0 0,.slice none 0 0] [(1,1,9),(2,1,11)]),
 p 5 (.new [.slice none 0 0,.slice none 0 0,.slice none 0 0]),⟨none,.stn 3 5 12,none,false⟩] (js [p 6 (.mv (ki 0))] (.seq (js [jm 13 0,p 14 (.call 228 [13,ki 6]),jm 7 14] (.block 0 (.loop (.seq (js [jm 15 7,p 16 (.bin .gtr 15 (ki 0)),
 jm 17 16,jy 18 (.fa 0 3) 17,jy 19 (.ld 18) 17,jy 20 (.len 19) 17,jy 21 (.bin .gtr 20 (ki 0)) 17,p 22 (.pick 17 21 kf)] (.cond 22 .skip (.exit 0))) (.seq (.block 1 (js [jm 25 6,jm 26 0,p 27 (.bs 1 5 [.int .i64 0] [(0,ki 0),(1,ki 0),(2,ki 1),
 (3,ki 2),(4,ki 9)]),p 28 (.call 234 [26,27]),p 29 (.bin .add 25 28),jm 6 29] (.rg [ju 30 (.fa 0 5),ju 31 (.ld 30),ju 32 (.mv 6),ju 33 (.mv 0),ju 34 (.fa 0 3),ju 35 (.ld 34),ju 36 (.len 35),ju 37 (.call 228 [33,36]),ju 38 (.mv 0),
 ju 39 (.call 241 [38]),ju 40 (.bd [.int .i64 0,.int .i64 0,.bool false,.int .i64 0,.int .i64 0,.int .i64 0,.bool false,.slice none 0 0] [(0,1,32),(1,1,37),(2,6,39)]),ju 41 (.bs 8 1 [.int .i64 0,.int .i64 0,.bool false,.int .i64 0,
 .int .i64 0,.int .i64 0,.bool false,.slice none 0 0] [(0,40)]),p 42 (.app 8 80 31 41),p 43 (.fa 0 5),⟨none,.st 43 42,none,false⟩]))) (.rg [jm 23 7,p 24 (.bin .sub 23 (ki 1)),jm 7 24])))))) (js [p 44 (.ldn 3 5),⟨none,.stn 3 4 44,none,
 false⟩] .ret)))),[.celln 4 3]⟩
def F253:Fnc:=⟨js [p 2 (.mv (.k (.slice none 0 0)))] (.seq (js [jm 3 0,p 4 (.eqnil false 3)] (.cond 4 (js [p 2 (.mv (.k (.slice none 0 0)))] .ret) .skip)) (js [p 5 (.bs 1 0 [.int .i64 0] []),jm 6 0,p 7 (.app 1 8 5 6),jm 2 7] .ret)),[.tmp 2]⟩
def F254:Fnc:=⟨js [p 2 (.mv (.k (.slice none 0 0)))] (.seq (js [jm 3 0,p 4 (.eqnil false 3)] (.cond 4 (js [p 2 (.mv (.k (.slice none 0 0)))] .ret) .skip)) (js [p 5 (.bs 2 0 [.int .i64 0,.int .i64 0] []),jm 6 0,p 7 (.app 2 16 5 6),jm 2 7] .ret)),[.tmp 2]⟩
def F255:Fnc:=⟨js [p 2 (.mv (.k (.slice none 0 0)))] (.seq (js [jm 3 0,p 4 (.eqnil false 3)] (.cond 4 (js [p 2 (.mv (.k (.slice none 0 0)))] .ret) .skip)) (js [p 5 (.bs 7 0 [.int .i64 0,.int .i64 0,.bool false,.int .i64 0,.int .i64 0,.int .i64 0,
 .int .i64 0] []),jm 6 0,p 7 (.app 7 56 5 6),jm 2 7] .ret)),[.tmp 2]⟩
def F256:Fnc:=⟨js [p 2 (.mv (.k (.slice none 0 0)))] (.seq (js [jm 3 0,p 4 (.eqnil false 3)] (.cond 4 (js [p 2 (.mv (.k (.slice none 0 0)))] .ret) .skip)) (js [p 5 (.bs 4 0 [.int .i64 0,.bool false,.int .i64 0,.int .i64 0] []),jm 6 0,p 7 (.app 4 32 5 6),
 jm 2 7] .ret)),[.tmp 2]⟩
def F257:Fnc:=⟨js [p 4 (.mv kf)] (js [jm 5 0,jm 6 1,p 7 (.call 266 [5,6]),p 8 (.bin .geq 7 (ki 0)),jm 4 8] .ret),[.tmp 4]⟩
def F258:Fnc:=⟨js [p 4 (.mv kf)] (js [jm 5 0,jm 6 1,p 7 (.call 269 [5,6]),p 8 (.bin .geq 7 (ki 0)),jm 4 8] .ret),[.tmp 4]⟩
def F260:Fnc:=⟨js [p 4 (.mv kf)] (js [jm 5 0,jm 6 1,p 7 (.call 271 [5,6]),p 8 (.bin .geq 7 (ki 0)),jm 4 8] .ret),[.tmp 4]⟩
def F261:Fnc:=⟨js [p 4 (.mv (.k (.slice none 0 0)))] (js [jm 8 0,jm 9 1,p 10 (.call 267 [8,9]),jm 5 10] (.seq (js [jm 11 5,p 12 (.bin .eql 11 (ki (-1)))] (.cond 12 (js [jm 13 0,jm 4 13] .ret) .skip)) (.seq (js [jm 14 5,p 15 (.bin .add 14 (ki 1)),
 jm 6 15] (.block 0 (.loop (.seq (js [jm 16 6,jm 17 0,p 18 (.len 17),p 19 (.bin .lss 16 18)] (.cond 19 .skip (.exit 0))) (.seq (.block 1 (js [jm 22 0,jm 23 6,p 24 (.ia 8 22 23),p 25 (.ldn 8 24),p 7 (.new [.bool false,.int .i64 0,.int .i64 0,
 .bool false,.int .i64 0,.int .i64 0,.int .i64 0,.bool false]),⟨none,.stn 8 7 25,none,false⟩] (js [jm 26 1,p 27 (.ldn 8 7),p 28 (.calli 26 [27]),p 29 (.not 28)] (.cond 29 (js [jm 30 0,jm 31 5,p 32 (.ldn 8 7),p 33 (.ia 8 30 31),⟨none,
 .stn 8 33 32,none,false⟩] (.rg [jm 34 5,p 35 (.bin .add 34 (ki 1)),jm 5 35])) .skip)))) (.rg [jm 20 6,p 21 (.bin .add 20 (ki 1)),jm 6 21])))))) (js [jm 36 0,jm 37 5,p 38 (.sl 8 36 (some 37) none none),⟨none,.clr 8 [.bool false,.int .i64 0,
 .int .i64 0,.bool false,.int .i64 0,.int .i64 0,.int .i64 0,.bool false] 38,none,false⟩] (js [jm 39 0,jm 40 5,p 41 (.sl 8 39 none (some 40) none),jm 4 41] .ret))))),[.tmp 4]⟩
def F266:Fnc:=⟨js [p 4 (.mv (ki 0))] (.seq (js [jm 6 0,p 7 (.len 6),p 8 (.mv (ki 0))] (.block 0 (.loop (js [p 9 (.bin .lss 8 7)] (.seq (.cond 9 .skip (.exit 0)) (.seq (.block 1 (js [jm 10 8,jm 5 10] (js [jm 11 1,jm 12 0,jm 13 5,p 14 (.ia 1 12 13),
 p 15 (.ld 14),p 16 (.calli 11 [15])] (.cond 16 (js [jm 17 5,jm 4 17] .ret) .skip)))) (.rg [p 18 (.bin .add 8 (ki 1)),jm 8 18]))))))) (js [p 4 (.mv (ki (-1)))] .ret)),[.tmp 4]⟩
def F267:Fnc:=⟨js [p 4 (.mv (ki 0))] (.seq (js [jm 6 0,p 7 (.len 6),p 8 (.mv (ki 0))] (.block 0 (.loop (js [p 9 (.bin .lss 8 7)] (.seq (.cond 9 .skip (.exit 0)) (.seq (.block 1 (js [jm 10 8,jm 5 10] (js [jm 11 1,jm 12 0,jm 13 5,p 14 (.ia 8 12 13),
 p 15 (.ldn 8 14),p 16 (.calli 11 [15])] (.cond 16 (js [jm 17 5,jm 4 17] .ret) .skip)))) (.rg [p 18 (.bin .add 8 (ki 1)),jm 8 18]))))))) (js [p 4 (.mv (ki (-1)))] .ret)),[.tmp 4]⟩
def F269:Fnc:=⟨js [p 4 (.mv (ki 0))] (.seq (js [jm 6 0,p 7 (.len 6),p 8 (.mv (ki 0))] (.block 0 (.loop (js [p 9 (.bin .lss 8 7)] (.seq (.cond 9 .skip (.exit 0)) (.seq (.block 1 (js [jm 10 8,jm 5 10] (js [jm 11 1,jm 12 0,jm 13 5,p 14 (.ia 4 12 13),
 p 15 (.ldn 4 14),p 16 (.calli 11 [15])] (.cond 16 (js [jm 17 5,jm 4 17] .ret) .skip)))) (.rg [p 18 (.bin .add 8 (ki 1)),jm 8 18]))))))) (js [p 4 (.mv (ki (-1)))] .ret)),[.tmp 4]⟩
def F271:Fnc:=⟨js [p 4 (.mv (ki 0))] (.seq (js [jm 6 0,p 7 (.len 6),p 8 (.mv (ki 0))] (.block 0 (.loop (js [p 9 (.bin .lss 8 7)] (.seq (.cond 9 .skip (.exit 0)) (.seq (.block 1 (js [jm 10 8,jm 5 10] (js [jm 11 1,jm 12 0,jm 13 5,p 14 (.ia 6 12 13),
 p 15 (.ldn 6 14),p 16 (.calli 11 [15])] (.cond 16 (js [jm 17 5,jm 4 17] .ret) .skip)))) (.rg [p 18 (.bin .add 8 (ki 1)),jm 8 18]))))))) (js [p 4 (.mv (ki (-1)))] .ret)),[.tmp 4]⟩
end Go.Proofs.YtoppcdecolponaaGreat.AL
namespace Go.Proofs.YtoppcdecolponaaGreat.AL
open Go
def prgT:List (Nat×Fnc):=[(1,F1),
 (2,F2),
 (3,F3),
 (4,F4),
 (5,F5),
 (6,F6),
 (7,F7),
 (8,F8),
 (9,F9),
 (12,F12),
 (13,F13),
 (14,F14),
 (15,F15),
 (16,F16),
 (17,F17),
 (18,F18),
 (19,F19),
 (21,F21),
 (22,F22),
 (24,F24),
 (26,F26),
 (27,F27),
 (28,F28),
 (29,F29),
 (30,F30),
 (31,F31),
 (32,F32),
 (33,F33),
 (34,F34),
 (35,F35),
 (37,F37),
 (39,F39),
 (40,F40),
 (41,F41),
 (44,F44),
 (47,F47),
 (50,F50),
 (51,F51),
 (52,F52),
 (53,F53),
 (54,F54),
 (55,F55),
 (56,F56),
 (57,F57),
 (58,F58),
 (59,F59),
 (60,F60),
 (61,F61),
 (62,F62),
 (66,F66),
 (67,F67),
 (68,F68),
 (73,F73),
 (74,F74),
 (75,F75),
 (77,F77),
 (80,F80),
 (81,F81),
 (82,F82),
 (83,F83),
 (85,F85),
 (86,F86),
 (87,F87),
 (88,F88),
 (89,F89),
 (90,F90),
 (91,F91),
 (92,F92),
 (93,F93),
 (95,F95),
 (96,F96),
 (97,F97),
 (98,F98),
 (99,F99),
 (100,F100),
 (101,F101),
 (102,F102),
 (103,F103),
 (120,F120),
 (122,F122),
 (123,F123),
 (172,F172),
 (173,F173),
 (175,F175),
 (179,F179),
 (180,F180),
 (181,F181),
 (183,F183),
 (184,F184),
 (186,F186),
 (188,F188),
 (194,F194),
 (197,F197),
 (201,F201),
 (202,F202),
 (205,F205),
 (207,F207),
 (212,F212),
 (214,F214),
 (227,F227),
 (228,F228),
 (229,F229),
 (230,F230),
 (231,F231),
 (233,F233),
 (234,F234),
 (237,F237),
 (239,F239),
 (241,F241),
 (242,F242),
 (243,F243),
 (244,F244),
 (245,F245),
 (246,F246),
 (247,F247),
 (248,F248),
 (249,F249),
 (253,F253),
 (254,F254),
 (255,F255),
 (256,F256),
 (257,F257),
 (258,F258),
 (260,F260),
 (261,F261),
 (266,F266),
 (267,F267),
 (269,F269),
 (271,F271)]
def prg:Prg:=fun f=>prgT.lookup f
theorem g1:prg 1=some F1:=by kernel_rfl
theorem g2:prg 2=some F2:=by kernel_rfl
theorem g3:prg 3=some F3:=by kernel_rfl
theorem g4:prg 4=some F4:=by kernel_rfl
theorem g5:prg 5=some F5:=by kernel_rfl
theorem g6:prg 6=some F6:=by kernel_rfl
theorem g7:prg 7=some F7:=by kernel_rfl
theorem g8:prg 8=some F8:=by kernel_rfl
theorem g9:prg 9=some F9:=by kernel_rfl
theorem g12:prg 12=some F12:=by kernel_rfl
theorem g13:prg 13=some F13:=by kernel_rfl
theorem g14:prg 14=some F14:=by kernel_rfl
theorem g15:prg 15=some F15:=by kernel_rfl
theorem g16:prg 16=some F16:=by kernel_rfl
theorem g17:prg 17=some F17:=by kernel_rfl
theorem g18:prg 18=some F18:=by kernel_rfl
theorem g19:prg 19=some F19:=by kernel_rfl
theorem g21:prg 21=some F21:=by kernel_rfl
theorem g22:prg 22=some F22:=by kernel_rfl
theorem g24:prg 24=some F24:=by kernel_rfl
theorem g26:prg 26=some F26:=by kernel_rfl
theorem g27:prg 27=some F27:=by kernel_rfl
theorem g28:prg 28=some F28:=by kernel_rfl
theorem g29:prg 29=some F29:=by kernel_rfl
theorem g30:prg 30=some F30:=by kernel_rfl
theorem g31:prg 31=some F31:=by kernel_rfl
theorem g32:prg 32=some F32:=by kernel_rfl
theorem g33:prg 33=some F33:=by kernel_rfl
theorem g34:prg 34=some F34:=by kernel_rfl
theorem g35:prg 35=some F35:=by kernel_rfl
theorem g37:prg 37=some F37:=by kernel_rfl
theorem g39:prg 39=some F39:=by kernel_rfl
theorem g40:prg 40=some F40:=by kernel_rfl
theorem g41:prg 41=some F41:=by kernel_rfl
theorem g44:prg 44=some F44:=by kernel_rfl
theorem g47:prg 47=some F47:=by kernel_rfl
theorem g50:prg 50=some F50:=by kernel_rfl
theorem g51:prg 51=some F51:=by kernel_rfl
theorem g52:prg 52=some F52:=by kernel_rfl
theorem g53:prg 53=some F53:=by kernel_rfl
theorem g54:prg 54=some F54:=by kernel_rfl
theorem g55:prg 55=some F55:=by kernel_rfl
theorem g56:prg 56=some F56:=by kernel_rfl
theorem g57:prg 57=some F57:=by kernel_rfl
theorem g58:prg 58=some F58:=by kernel_rfl
theorem g59:prg 59=some F59:=by kernel_rfl
theorem g60:prg 60=some F60:=by kernel_rfl
theorem g61:prg 61=some F61:=by kernel_rfl
theorem g62:prg 62=some F62:=by kernel_rfl
theorem g66:prg 66=some F66:=by kernel_rfl
theorem g67:prg 67=some F67:=by kernel_rfl
theorem g68:prg 68=some F68:=by kernel_rfl
theorem g73:prg 73=some F73:=by kernel_rfl
theorem g74:prg 74=some F74:=by kernel_rfl
theorem g75:prg 75=some F75:=by kernel_rfl
theorem g77:prg 77=some F77:=by kernel_rfl
theorem g80:prg 80=some F80:=by kernel_rfl
theorem g81:prg 81=some F81:=by kernel_rfl
theorem g82:prg 82=some F82:=by kernel_rfl
theorem g83:prg 83=some F83:=by kernel_rfl
theorem g85:prg 85=some F85:=by kernel_rfl
theorem g86:prg 86=some F86:=by kernel_rfl
theorem g87:prg 87=some F87:=by kernel_rfl
theorem g88:prg 88=some F88:=by kernel_rfl
theorem g89:prg 89=some F89:=by kernel_rfl
theorem g90:prg 90=some F90:=by kernel_rfl
theorem g91:prg 91=some F91:=by kernel_rfl
theorem g92:prg 92=some F92:=by kernel_rfl
theorem g93:prg 93=some F93:=by kernel_rfl
theorem g95:prg 95=some F95:=by kernel_rfl
theorem g96:prg 96=some F96:=by kernel_rfl
theorem g97:prg 97=some F97:=by kernel_rfl
theorem g98:prg 98=some F98:=by kernel_rfl
theorem g99:prg 99=some F99:=by kernel_rfl
theorem g100:prg 100=some F100:=by kernel_rfl
theorem g101:prg 101=some F101:=by kernel_rfl
theorem g102:prg 102=some F102:=by kernel_rfl
theorem g103:prg 103=some F103:=by kernel_rfl
theorem g120:prg 120=some F120:=by kernel_rfl
theorem g122:prg 122=some F122:=by kernel_rfl
theorem g123:prg 123=some F123:=by kernel_rfl
theorem g172:prg 172=some F172:=by kernel_rfl
theorem g173:prg 173=some F173:=by kernel_rfl
theorem g175:prg 175=some F175:=by kernel_rfl
theorem g179:prg 179=some F179:=by kernel_rfl
theorem g180:prg 180=some F180:=by kernel_rfl
theorem g181:prg 181=some F181:=by kernel_rfl
theorem g183:prg 183=some F183:=by kernel_rfl
theorem g184:prg 184=some F184:=by kernel_rfl
theorem g186:prg 186=some F186:=by kernel_rfl
theorem g188:prg 188=some F188:=by kernel_rfl
theorem g194:prg 194=some F194:=by kernel_rfl
theorem g197:prg 197=some F197:=by kernel_rfl
theorem g201:prg 201=some F201:=by kernel_rfl
theorem g202:prg 202=some F202:=by kernel_rfl
theorem g205:prg 205=some F205:=by kernel_rfl
theorem g207:prg 207=some F207:=by kernel_rfl
theorem g212:prg 212=some F212:=by kernel_rfl
theorem g214:prg 214=some F214:=by kernel_rfl
theorem g227:prg 227=some F227:=by kernel_rfl
theorem g228:prg 228=some F228:=by kernel_rfl
theorem g229:prg 229=some F229:=by kernel_rfl
theorem g230:prg 230=some F230:=by kernel_rfl
theorem g231:prg 231=some F231:=by kernel_rfl
theorem g233:prg 233=some F233:=by kernel_rfl
theorem g234:prg 234=some F234:=by kernel_rfl
theorem g237:prg 237=some F237:=by kernel_rfl
theorem g239:prg 239=some F239:=by kernel_rfl
theorem g241:prg 241=some F241:=by kernel_rfl
theorem g242:prg 242=some F242:=by kernel_rfl
theorem g243:prg 243=some F243:=by kernel_rfl
theorem g244:prg 244=some F244:=by kernel_rfl
theorem g245:prg 245=some F245:=by kernel_rfl
theorem g246:prg 246=some F246:=by kernel_rfl
theorem g247:prg 247=some F247:=by kernel_rfl
theorem g248:prg 248=some F248:=by kernel_rfl
theorem g249:prg 249=some F249:=by kernel_rfl
theorem g253:prg 253=some F253:=by kernel_rfl
theorem g254:prg 254=some F254:=by kernel_rfl
theorem g255:prg 255=some F255:=by kernel_rfl
theorem g256:prg 256=some F256:=by kernel_rfl
theorem g257:prg 257=some F257:=by kernel_rfl
theorem g258:prg 258=some F258:=by kernel_rfl
theorem g260:prg 260=some F260:=by kernel_rfl
theorem g261:prg 261=some F261:=by kernel_rfl
theorem g266:prg 266=some F266:=by kernel_rfl
theorem g267:prg 267=some F267:=by kernel_rfl
theorem g269:prg 269=some F269:=by kernel_rfl
theorem g271:prg 271=some F271:=by kernel_rfl
theorem prg_ok:prgT.all (fun p=>p.2.body.ok)=true:=by kernel_rfl
end Go.Proofs.YtoppcdecolponaaGreat.AL
namespace Go.Proofs.YtoppcdecolponaaGreat.AL
open Go

section
variable {N : Nat} {G : Prg} {q : Bool} {tl : Tl} {L : List LB} {l_ : List IOp} {K_ : Tl → List LB → Prop} {d_ : Nat} {Q : Ex → Tl → List LB → Prop}
theorem Ea {x u} (h:evE tl x=some u) (k_:VO N G l_ K_ ((d_,u)::tl) L):VO N G (⟨some d_,(.mv x),none,q⟩::l_) K_ tl L:=Fa (o_mv h) k_
theorem Ee {o x b off} (hx:evE tl x=some (.cp b off)) (k_:VO N G l_ K_ ((d_,(.cp b (off+o)))::tl) L):VO N G (⟨some d_,(.fa o x),none,q⟩::l_) K_ tl L:=Fa (o_faC hx) k_
theorem Ej {x b off row u} (hx:evE tl x=some (.cp b off)) (hb:L[b]?=some (.cell row)) (hr:row[off]?=some u) (k_:VO N G l_ K_ ((d_,u)::tl) L):VO N G (⟨some d_,(.ld x),none,q⟩::l_) K_ tl L:=Fa (o_ldC hx hb hr) k_
theorem Ed {x a b u} (h:evE tl x=some (.w (.bool false))) (ha:evE tl b=some u) (k_:VO N G l_ K_ ((d_,u)::tl) L):VO N G (⟨some d_,(.pick x a b),none,q⟩::l_) K_ tl L:=Fa (o_pickF h ha) k_
theorem Eg {x a b u} (h:evE tl x=some (.w (.bool true))) (ha:evE tl a=some u) (k_:VO N G l_ K_ ((d_,u)::tl) L):VO N G (⟨some d_,(.pick x a b),none,q⟩::l_) K_ tl L:=Fa (o_pickT h ha) k_
theorem En {x b off row k cs} (hx:evE tl x=some (.cp b off)) (hb:L[b]?=some (.cell row)) (hr:subN row off k=some cs) (k_:VO N G l_ K_ ((d_,(.agg cs))::tl) L):VO N G (⟨some d_,(.ldn k x),none,q⟩::l_) K_ tl L:=Fa (o_ldnC hx hb hr) k_
theorem Fk {x a} (hx:evE tl x=some (.w (.bool a))) (k_:VO N G l_ K_ ((d_,(.w (.bool !a)))::tl) L):VO N G (⟨some d_,(.not x),none,q⟩::l_) K_ tl L:=Fa (o_not hx) k_
theorem Fm {x y k a b} (hx:evE tl x=some (.w (.int k a))) (hy:evE tl y=some (.w (.int k b))) (k_:VO N G l_ K_ ((d_,(.w (.bool (decide (a=b)))))::tl) L):VO N G (⟨some d_,(.bin .eql x y),none,q⟩::l_) K_ tl L:=Fa (o_eql hx hy) k_
theorem u_fa {o x row off} (hx:evE tl x=some (.rp row off)) (k_:VO N G l_ K_ ((d_,(.rp row (off+o)))::tl) L):VO N G (⟨some d_,(.fa o x),none,q⟩::l_) K_ tl L:=Fa (o_fa hx) k_
theorem Fj {x b off} (hx:evE tl x=some (.cp b off)) (k_:VO N G l_ K_ ((d_,(.cp b off))::tl) L):VO N G (⟨some d_,(.nilc x),none,q⟩::l_) K_ tl L:=Fa (o_nilc hx) k_
theorem u_ld {x row off u} (hx:evE tl x=some (.rp row off)) (hr:row[off]?=some u) (k_:VO N G l_ K_ ((d_,u)::tl) L):VO N G (⟨some d_,(.ld x),none,q⟩::l_) K_ tl L:=Fa (o_ld hx hr) k_
theorem Fu {z row d L1} (hz:ofWs z=some row) (hL:pushN L (.cell row)=some (L1,d)) (k_:VO N G l_ K_ ((d_,(.cp d 0))::tl) L1):VO N G (⟨some d_,(.new z),none,q⟩::l_) K_ tl L:=Fa (o_new hz hL) k_
theorem Fo {x row off} (hx:evE tl x=some (.rp row off)) (k_:VO N G l_ K_ ((d_,(.rp row off))::tl) L):VO N G (⟨some d_,(.nilc x),none,q⟩::l_) K_ tl L:=Fa (o_nilcR hx) k_
theorem u_box {x u row d L1} (hx:evE tl x=some u) (hc:cellsV u=some row) (hL:pushN L (.cell row)=some (L1,d)) (k_:VO N G l_ K_ ((d_,(.cp d 0))::tl) L1):VO N G (⟨some d_,(.box x),none,q⟩::l_) K_ tl L:=Fa (o_box hx hc hL) k_
theorem Fw {α:Type} {r:α→List V} {xs:List α} {x k} (hx:evE tl x=some (.sl k (xs.map r))) (k_:VO N G l_ K_ ((d_,(.w (.int .i64 xs.length)))::tl) L):VO N G (⟨some d_,(.len x),none,q⟩::l_) K_ tl L:=Fa (o_lenM hx) k_
theorem u_lss {x y k a b} (hx:evE tl x=some (.w (.int k a))) (hy:evE tl y=some (.w (.int k b))) (k_:VO N G l_ K_ ((d_,(.w (.bool (decide (a<b)))))::tl) L):VO N G (⟨some d_,(.bin .lss x y),none,q⟩::l_) K_ tl L:=Fa (o_lss hx hy) k_
theorem u_ext {i x cs u} (hx:evE tl x=some (.tup cs)) (hr:cs[i]?=some u) (k_:VO N G l_ K_ ((d_,u)::tl) L):VO N G (⟨some d_,(.ext i x),none,q⟩::l_) K_ tl L:=Fa (o_ext hx hr) k_
theorem u_neq {x y k a b} (hx:evE tl x=some (.w (.int k a))) (hy:evE tl y=some (.w (.int k b))) (k_:VO N G l_ K_ ((d_,(.w (.bool (decide (¬ a=b)))))::tl) L):VO N G (⟨some d_,(.bin .neq x y),none,q⟩::l_) K_ tl L:=Fa (o_neq hx hy) k_
theorem u_ldn {x row off k cs} (hx:evE tl x=some (.rp row off)) (hr:subN row off k=some cs) (k_:VO N G l_ K_ ((d_,(.agg cs))::tl) L):VO N G (⟨some d_,(.ldn k x),none,q⟩::l_) K_ tl L:=Fa (o_ldn hx hr) k_
theorem u_bd {z ps zr row} (hz:ofWs z=some zr) (hr:bdV tl ps zr=some row) (k_:VO N G l_ K_ ((d_,(.agg row))::tl) L):VO N G (⟨some d_,(.bd z ps),none,q⟩::l_) K_ tl L:=Fa (o_bd hz hr) k_
theorem u_geq {x y k a b} (hx:evE tl x=some (.w (.int k a))) (hy:evE tl y=some (.w (.int k b))) (k_:VO N G l_ K_ ((d_,(.w (.bool (decide (b≤a)))))::tl) L):VO N G (⟨some d_,(.bin .geq x y),none,q⟩::l_) K_ tl L:=Fa (o_geq hx hy) k_
theorem u_add {x y k a b} (hx:evE tl x=some (.w (.int k a))) (hy:evE tl y=some (.w (.int k b))) (k_:VO N G l_ K_ ((d_,(.w (.int k (k.wrap (a+b)))))::tl) L):VO N G (⟨some d_,(.bin .add x y),none,q⟩::l_) K_ tl L:=Fa (o_add hx hy) k_
theorem u_rem {x y k a b} (hx:evE tl x=some (.w (.int k a))) (hy:evE tl y=some (.w (.int k b))) (h:¬ b=0) (k_:VO N G l_ K_ ((d_,(.w (.int k (a.tmod b))))::tl) L):VO N G (⟨some d_,(.bin .rem x y),none,q⟩::l_) K_ tl L:=Fa (o_rem hx hy h) k_
theorem u_gtr {x y k a b} (hx:evE tl x=some (.w (.int k a))) (hy:evE tl y=some (.w (.int k b))) (k_:VO N G l_ K_ ((d_,(.w (.bool (decide (b<a)))))::tl) L):VO N G (⟨some d_,(.bin .gtr x y),none,q⟩::l_) K_ tl L:=Fa (o_gtr hx hy) k_
theorem u_mul {x y k a b} (hx:evE tl x=some (.w (.int k a))) (hy:evE tl y=some (.w (.int k b))) (k_:VO N G l_ K_ ((d_,(.w (.int k (k.wrap (a * b)))))::tl) L):VO N G (⟨some d_,(.bin .mul x y),none,q⟩::l_) K_ tl L:=Fa (o_mul hx hy) k_
theorem u_faA {o x b len j off k rows} (hx:evE tl x=some (.ap b len j off)) (hb:L[b]?=some (.arr k rows)) (hl:rows.length=len) (k_:VO N G l_ K_ ((d_,(.ap b len j (off+o)))::tl) L):VO N G (⟨some d_,(.fa o x),none,q⟩::l_) K_ tl L:=Fa (o_faA hx hb hl) k_
theorem u_quo {x y k a b} (hx:evE tl x=some (.w (.int k a))) (hy:evE tl y=some (.w (.int k b))) (h:¬ b=0) (k_:VO N G l_ K_ ((d_,(.w (.int k (k.wrap (a.tdiv b)))))::tl) L):VO N G (⟨some d_,(.bin .quo x y),none,q⟩::l_) K_ tl L:=Fa (o_quo hx hy h) k_
theorem u_leq {x y k a b} (hx:evE tl x=some (.w (.int k a))) (hy:evE tl y=some (.w (.int k b))) (k_:VO N G l_ K_ ((d_,(.w (.bool (decide (a≤b)))))::tl) L):VO N G (⟨some d_,(.bin .leq x y),none,q⟩::l_) K_ tl L:=Fa (o_leq hx hy) k_
theorem u_ldA {x b len j off k rows row u} (hx:evE tl x=some (.ap b len j off)) (hb:L[b]?=some (.arr k rows)) (hl:rows.length=len) (hj:rows[j]?=some row) (hr:row[off]?=some u) (k_:VO N G l_ K_ ((d_,u)::tl) L):VO N G (⟨some d_,(.ld x),none,q⟩::l_) K_ tl L:=Fa (o_ldA hx hb hl hj hr) k_
theorem u_lenL {x b len k rows} (hx:evE tl x=some (.ls b len)) (hb:L[b]?=some (.arr k rows)) (hl:rows.length=len) (k_:VO N G l_ K_ ((d_,(.w (.int .i64 len)))::tl) L):VO N G (⟨some d_,(.len x),none,q⟩::l_) K_ tl L:=Fa (o_lenL hx hb hl) k_
theorem u_ldnA {x b len j off k rows row c cs} (hx:evE tl x=some (.ap b len j off)) (hb:L[b]?=some (.arr k rows)) (hl:rows.length=len) (hj:rows[j]?=some row) (hr:subN row off c=some cs) (k_:VO N G l_ K_ ((d_,(.agg cs))::tl) L):VO N G (⟨some d_,(.ldn c x),none,q⟩::l_) K_ tl L:=Fa (o_ldnA hx hb hl hj hr) k_
theorem u_mn {es a l} (h:intsV tl es=some (a::l)) (k_:VO N G l_ K_ ((d_,(.w (.int .i64 (minL a l))))::tl) L):VO N G (⟨some d_,(.mn es),none,q⟩::l_) K_ tl L:=Fa (o_mn h) k_
theorem u_eqs {g ks x y cs ds l r b} (hx:evE tl x=some (.agg cs)) (hy:evE tl y=some (.agg ds)) (hl:unw cs=some l) (hr:unw ds=some r) (h:eqvs ks l r=some b) (k_:VO N G l_ K_ ((d_,(.w (.bool (bif g then !b else b))))::tl) L):VO N G (⟨some d_,(.eqs g ks x y),none,q⟩::l_) K_ tl L:=Fa (o_eqs hx hy hl hr h) k_
theorem u_sub {x y k a b} (hx:evE tl x=some (.w (.int k a))) (hy:evE tl y=some (.w (.int k b))) (k_:VO N G l_ K_ ((d_,(.w (.int k (k.wrap (a-b)))))::tl) L):VO N G (⟨some d_,(.bin .sub x y),none,q⟩::l_) K_ tl L:=Fa (o_sub hx hy) k_
theorem Em (is:List Nat) {tl1 b} (h:keepI tl is=some tl1) (k:VC N G b Q tl1 L):VO N G [] (seqQ N G b Q .normal) tl L:=Ez (Eu (Ei is h k))
theorem Et {l c} (h:VO N G l (seqQ N G c Q .normal) tl L):VC N G (.seq (.rg l) c) Q tl L:=Ey (Fs h)
theorem z_q (is:List Nat) {tl1 l c} (h:keepI tl is=some tl1) (k:VO N G l (seqQ N G c Q .normal) tl1 L):VO N G [] (seqQ N G (.seq (.rg l) c) Q .normal) tl L:=Em is h (Et k)
theorem z_s (is:List Nat) {tl1 b} (h:keepI tl is=some tl1) (k:VC N G b Q tl1 L):VC N G .skip (seqQ N G b Q) tl L:=Fr (Eu (Ei is h k))
end
end Go.Proofs.YtoppcdecolponaaGreat.AL
