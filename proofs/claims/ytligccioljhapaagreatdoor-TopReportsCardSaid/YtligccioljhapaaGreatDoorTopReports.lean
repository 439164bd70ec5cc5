import Derived.Test.YtligccioljhapaaGreatDoorRows
import Derived.Test.YtligccioljhapaaGreatDoorTopReportsW5
import Derived.Test.YtligccioljhapaaGreatDoorTopReportsHsA
import Derived.Test.YtligccioljhapaaGreatDoorTopReportsHsB
import Derived.Test.YtligccioljhapaaGreatDoorTopReportsHsC
import Derived.Test.YtligccioljhapaaGreatDoorTopReportsHsD
import Derived.Test.YtligccioljhapaaGreatDoorTopReportsHsE
import Derived.Test.YtligccioljhapaaGreatDoorGf
import Derived.Test.YtligccioljhapaaGreatDoorTie
import Derived.Test.YtligccioljhapaaGreatDoorCards
import Derived.SevenTiedAt
import Derived.LaidMore
import Derived.Lay
import Derived.Stop.Joined
import Derived.Test.YtligccioljhapaaGreatDoorGb
namespace Go.Proofs.YtligccioljhapaaGreatDoor.TopReports
open Go Go.ChangeShapes Go.WideShapes Go.ChangeAt Go.RowKit Go.Gw Go.Pu Go.Proofs.YtligccioljhapaaGreatDoor.M Go.Proofs.YtligccioljhapaaGreatDoor.W
set_option linter.unusedVariables false
set_option linter.unusedSimpArgs false
theorem own:ownKnob Tryz.prog.godebug=none:=by kernel_rfl
theorem zmI:laidOutB Tryz.prog=true:=by kernel_rfl
theorem tys:(Tryz.f3.params.toList.all fun a=>Tryz.prog.readableRec a&&decide (a<Tryz.prog.types.size))=true:=by kernel_rfl
theorem zmA:Tryz.prog.cellsOf 28=2:=by kernel_rfl
theorem zmQ:Tryz.prog.cellsOf 26=1:=by kernel_rfl
theorem zjb:Tryz.prog.cellsOf 167=2:=by kernel_rfl
theorem zkm:Tryz.prog.cellsOf 93=10:=by kernel_rfl
theorem zkb:Tryz.prog.cellsOf 79=3:=by kernel_rfl
theorem zmN:Tryz.prog.cellsOf 24=1:=by kernel_rfl
theorem zmM:Tryz.prog.cellsOf 22=1:=by kernel_rfl
theorem zjc:Tryz.prog.cellsOf 101=4:=by kernel_rfl
theorem zmG:Tryz.prog.cellsOf 99=1:=by kernel_rfl
theorem zai:Tryz.prog.cellsOf 3=1:=by kernel_rfl
theorem zjo:Tryz.prog.cellsOf 9=1:=by kernel_rfl
theorem o9:Opn Tryz.prog 9 ByteArray:=zmD Tryz.underlying9
theorem o3:Opn Tryz.prog 3 Int:=zkq Tryz.underlying3
theorem o99:Opn Tryz.prog 99 (List ByteArray):=zem Tryz.underlying99 o9 zjo (by decide)
theorem o101:Opn Tryz.prog 101 zF:=zbD (β:=ByteArray×Int×(List ByteArray)×Int) (fun (a:zF)=>(a.name,a.kind,a.options,a.needs)) (fun b=>(⟨b.1,b.2.1,b.2.2.1,b.2.2.2⟩:zF)) (fun _=>rfl) Tryz.underlying101 zjc (jj rfl zjo o9 (jj rfl zai o3 (jj rfl zmG o99 (zcC rfl zai o3))))
theorem o22:Opn Tryz.prog 22 (List zF):=zem Tryz.underlying22 o101 zjc (by decide)
theorem o24:Opn Tryz.prog 24 zr:=zbD (β:=(List zF)) (fun (a:zr)=>(a.fields)) (fun b=>(⟨b⟩:zr)) (fun _=>rfl) Tryz.underlying24 zmN (zcC rfl zmM o22)
theorem o79:Opn Tryz.prog 79 api_Value:=zbD (β:=Int×Int×ByteArray) (fun (a:api_Value)=>(a.kind,a.int,a.text)) (fun b=>(⟨b.1,b.2.1,b.2.2⟩:api_Value)) (fun _=>rfl) Tryz.underlying79 zkb (jj rfl zai o3 (jj rfl zai o3 (zcC rfl zjo o9)))
theorem o93:Opn Tryz.prog 93 zk:=zbD (β:=Int×Int×Int×Int×Int×Int×Int×api_Value) (fun (a:zk)=>(a.at_,a.ticket,a.who,a.kind,a.field,a.to_,a.message,a.value)) (fun b=>(⟨b.1,b.2.1,b.2.2.1,b.2.2.2.1,b.2.2.2.2.1,b.2.2.2.2.2.1,b.2.2.2.2.2.2.1,b.2.2.2.2.2.2.2⟩:zk)) (fun _=>rfl) Tryz.underlying93 zkm (jj rfl zai o3 (jj rfl zai o3 (jj rfl zai o3 (jj rfl zai o3 (jj rfl zai o3 (jj rfl zai o3 (jj rfl zai o3 (zcC rfl zkb o79))))))))
theorem o25:Opn Tryz.prog 25 (List zk):=zem Tryz.underlying25 o93 zkm (by decide)
theorem o167:Opn Tryz.prog 167 qS:=zbD (β:=Int×Int) (fun (a:qS)=>(a.at_,a.offset)) (fun b=>(⟨b.1,b.2⟩:qS)) (fun _=>rfl) Tryz.underlying167 zjb (jj rfl zai o3 (zcC rfl zai o3))
theorem o26:Opn Tryz.prog 26 (List qS):=zem Tryz.underlying26 o167 zjb (by decide)
theorem o28:Opn Tryz.prog 28 zP:=zbD (β:=Int×(List qS)) (fun (a:zP)=>(a.offset,a.changes)) (fun b=>(⟨b.1,b.2⟩:zP)) (fun _=>rfl) Tryz.underlying28 zmA (jj rfl zai o3 (zcC rfl zmQ o26))
set_option maxRecDepth 100000 in
theorem zng(os:Os)(L:os.Started)(b7:Type)(enc:TypeId×Value→b7):
  ReturnsInHanded {} Tryz.checked os 3 .any (fun c b=>(Rows.topReportsSpec.pre enc Tryz.prog Tryz.f3 Rows.topReportsRow.domain false c b∧laidMetH Tryz.prog Rows.topReportsRow.laid c)∧sizedMet enc Tryz.prog Tryz.f3 (OpenSpec.ofChange Rows.topReportsSpec) false c b) (Rows.topReportsSpec.post enc Tryz.prog Tryz.f3 false true false false):=by{
 refine zcb (C:=Tryz.checked) (X:=fun c _=>laidMetH Tryz.prog Rows.topReportsRow.laid c) (fun _ _ _ W b8=>b8.of_heap W) own L (by kernel_rfl) Tryz.func3
  (ChangeSpec.witness_shaped (enc:=enc) (C:=Tryz.checked) (os:=os) (X:=fun c _=>laidMetH Tryz.prog Rows.topReportsRow.laid c) false (World.laidAll Tryz.prog os Rows.topReportsRow.laid) #[.agg #[.slice none 0 0],.slice none 0 0,.int .i64 0,.int .i64 0,.agg #[.int .i64 0,.slice none 0 0],.int .i64 0,.int .i64 0,.int .i64 0] 8 (World.laidAll_os _ _ _) (World.shaped_of_ZipB (by kernel_rfl) (by kernel_rfl)) (by kernel_rfl) (by kernel_rfl) (by kernel_rfl)
   (by rw[MakeChecks.laidMetH_plain _ _ _ (by kernel_rfl)];exact laidMet_laidAll _ (by kernel_rfl) (by kernel_rfl))) ?_
 intro h base b X n c1 j d _ _ f0 _ M;have a:∀(I:Nat) t i,Tryz.f3.params[I]?=some t→b[I]?=some i→Value.okWide Tryz.prog h .any base t i:=j
 have R:n=[]:=by
  obtain⟨J,b9,_,o,_⟩:=d
  cases n with
  | nil=>rfl
  | cons g r=>exact o.elim
 subst R;have S:=d;obtain⟨J,b9,l,o,rfl,c3,c4⟩:=d;have e:DataW.TrodAll enc Tryz.prog h 0 (fun _=>true) true Tryz.f3.params.toList b.toList X J:=l;rw[Tryz.params3]at e a;obtain⟨p,c5,f1,c6,f2,f3,c2,rfl,rfl,Z,a0⟩:=trodAll_cons e;obtain⟨f,c7,f4,c8,f5,f6,rfl,rfl,rfl,a1,a2⟩:=trodAll_cons a0;obtain⟨q,c9,f7,d0,f8,f9,rfl,rfl,rfl,a3,a4⟩:=trodAll_cons a2;obtain⟨s,d1,g2,d2,g3,g4,rfl,rfl,rfl,a5,a6⟩:=trodAll_cons a4;obtain⟨u,d3,g5,d4,g6,g7,rfl,rfl,rfl,a7,a8⟩:=trodAll_cons a6;obtain⟨v,d5,g8,d6,g9,h0,rfl,rfl,rfl,a9,b0⟩:=trodAll_cons a8;obtain⟨w,d7,h1,d8,h2,h3,rfl,rfl,rfl,b1,b2⟩:=trodAll_cons b0;obtain⟨x,d9,h4,e0,h5,h6,rfl,rfl,rfl,b3,b4⟩:=trodAll_cons b2;obtain⟨rfl,rfl,rfl⟩:=trodAll_nil b4;obtain rfl:b=#[p,f,q,s,u,v,w,x]:=by cases b;simp_all
 obtain⟨y,e1,rfl,T,m⟩:=zhu o24 Tryz.underlying24 (a 0 24 p rfl rfl) Z;obtain⟨N,rfl,O⟩:=T;obtain⟨z,g1,e2⟩:=zlD o25 Tryz.underlying25 (a 1 25 f rfl rfl) a1;obtain⟨A,rfl,e3⟩:=zeD Tryz.underlying3 (a 2 3 q rfl rfl) a3;obtain⟨B,rfl,e4⟩:=zeD Tryz.underlying3 (a 3 3 s rfl rfl) a5;obtain⟨D,e5,rfl,U,e6⟩:=zhu o28 Tryz.underlying28 (a 4 28 u rfl rfl) a7;obtain⟨_,_,rfl,rfl,⟨P,rfl,Q⟩⟩:=U;obtain⟨E,rfl,e7⟩:=zeD Tryz.underlying3 (a 5 3 v rfl rfl) a9;obtain⟨F,rfl,e8⟩:=zeD Tryz.underlying3 (a 6 3 w rfl rfl) b1;obtain⟨G,rfl,e9⟩:=zeD Tryz.underlying3 (a 7 3 x rfl rfl) b3;clear l e j;refine Calls.mono (zeX (Dw:=True) h (fun _ _=>trivial) (Mx.shape M (g:=0) (of_decide_eq_true (by kernel_rfl)) (zero := #[.int .i64 0]) (t:=3) (by kernel_rfl) rfl (by kernel_rfl) (by kernel_rfl) Tryz.underlying3) y N O z f g1 A B D P Q E F G (zjh y z A B D E F G (fun K H=>⟨(m.2 K H).1,fun c0 b5=>((m.2 K H).2.2.1.2 c0 b5)⟩))) ?_;rintro h8 h7⟨i,rfl,rfl,b6⟩;exact⟨_,rfl,zmk rfl rfl rfl rfl rfl Tryz.underlying4 zmI tys S b6.below⟩}
theorem said:Rows.TopReportsSaid :=
 OpenClaim.holds_of_wide 3 Tryz.f3 rfl rfl rfl rfl rfl rfl rfl ⟨rfl,rfl,rfl,rfl,rfl⟩ rfl rfl rfl rfl rfl (by kernel_rfl) Tryz.func3 (by kernel_rfl)
  (of_decide_eq_true (by kernel_rfl)) (by unfold Func.isWrapper;first | (rw[if_pos (by decide +kernel)];kernel_rfl) | (rw[if_neg (by decide +kernel)];exact⟨rfl,rfl⟩))
  (fun c a d b _=>zng c a d b)
theorem proved:Rows.TopReportsCardSaid :=
 Claim7.holds_tied_plain_at .later [] [.data,.pinned] true (true, "517f3aee4c55c6b490851a9b226d7ba971c7c3f0c5b5f17e610cec31e3b6bf1e") false
  said (fun _ h=>by cases h) (by kernel_rfl) (fun _ h=>by cases h) topReports_row_tie rfl ⟨rfl,rfl⟩ (by kernel_rfl) rfl
  (fun f fn hf hfn=>by
   obtain rfl:f=3:=Option.some.inj ((show Tryz.prog.funcNamed "porterslodge/porttop.TopReports" = some 3 by kernel_rfl).symm.trans hf) |>.symm
   obtain rfl:fn=Tryz.f3:=(Option.some.inj (Tryz.func3.symm.trans hfn)).symm
   exact⟨by kernel_rfl,fun j t ht=>by
    rw[Tryz.params3]at ht
    have hm:t∈[24,25,3,3,28,3,3,3]:=by simpa using Array.mem_of_getElem? ht
    have hall:([24,25,3,3,28,3,3,3].all fun u=>!Tryz.prog.wantsStandIn u)=true:=by kernel_rfl
    exact (show Tryz.prog.wantsStandIn t=false by simpa using List.all_eq_true.1 hall t hm)⟩)
  (by kernel_rfl)
#print axioms proved
end Go.Proofs.YtligccioljhapaaGreatDoor.TopReports
