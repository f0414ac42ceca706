/- Part of a proof. -/
import Derived.Test.YtfdcjngclelnhaaGreatXS
set_option linter.unusedSectionVars false
set_option linter.unusedSimpArgs false
set_option linter.unusedVariables false
namespace Go.Proofs.YtfdcjngclelnhaaGreat
open Go Go.RowKit
set_option maxRecDepth 100000
set_option maxHeartbeats 4000000
noncomputable section
inductive Q6L where
 | e (s0:B74)
def Qks:Q6L → Pth × List AV × Heap
 | .e s0=>([],startT Tryz.f157 [.ptr (some (0,0))],[b74 s0 0])
def Q0x (S:Q9) (r:D × B74 → Prop) (l:Q6L → Prop):Q6L → Prop
 | .e s0=>cnd (s0.c4 != 0) (r ((.agg [.int .i64 0,.int .i64 0,.str [],.str [],.nils,.nils]),s0)) (bn (asL s0.c0) fun x64=>bn (atD x64 s0.c1) fun x65=>an (okG 107 x65) (cnd (cI x65 0 == 2) (r ((.agg [.int .i64 3,.int .i64 (cI x65 2),.str [],.str [],.nils,.nils]),(B74.mk s0.c0 (IntKind.i64.wrap (s0.c1 + 1)) s0.c2 s0.c3 s0.c4))) (cnd (cI x65 0 == 3) (r ((.agg [.int .i64 4,.int .i64 0,.str (cS x65 1),.str [],.nils,.nils]),(B74.mk s0.c0 (IntKind.i64.wrap (s0.c1 + 1)) s0.c2 s0.c3 s0.c4))) (bn (S.p_take s0 [110,117,108,108]) fun x66=>cnd x66.1 (r ((.agg [.int .i64 1,.int .i64 0,.str [],.str [],.nils,.nils]),x66.2)) (bn (S.p_take x66.2 [116,114,117,101]) fun x67=>cnd x67.1 (r ((.agg [.int .i64 2,.int .i64 1,.str [],.str [],.nils,.nils]),x67.2)) (bn (S.p_take x67.2 [102,97,108,115,101]) fun x68=>cnd x68.1 (r ((.agg [.int .i64 2,.int .i64 0,.str [],.str [],.nils,.nils]),x68.2)) (bn (S.p_take x68.2 [58]) fun x69=>cnd x69.1 (bn (S.p_name x69.2) fun x70=>r ((.agg [.int .i64 6,.int .i64 0,.str x70.1,.str [],.nils,.nils]),x70.2)) (bn (S.p_take x69.2 [99,97,115,101]) fun x71=>cnd x71.1 (bn (S.p_must x71.2 [119,104,101,110]) fun x72=>bn (S.p_Expr x72) fun x73=>an (okG 26 x73.1) (fl x73.1 [4,5] (bn (S.p_must x73.2 [116,104,101,110]) fun x74=>bn (S.p_Expr x74) fun x75=>an (okG 26 x75.1) (fl x75.1 [4,5] (bn (S.p_must x75.2 [101,108,115,101]) fun x76=>bn (S.p_Expr x76) fun x77=>an (okG 26 x77.1) (fl x77.1 [4,5] (bn (S.p_must x77.2 [101,110,100]) fun x78=>r ((.agg [.int .i64 11,.int .i64 0,.str [],.str [],D.slice [G 26 x73.1,G 26 x75.1,G 26 x77.1],.nils]),x78)))))))) (bn (S.p_take x71.2 [101,120,105,115,116,115]) fun x79=>cnd x79.1 (bn (S.p_must x79.2 [40]) fun x80=>bn (S.p_Query x80) fun x81=>an (okG 38 x81.1) (fl x81.1 [2,3,4,5,6,7,9] (bn (S.p_must x81.2 [41]) fun x82=>r ((.agg [.int .i64 12,.int .i64 0,.str [],.str [],.nils,D.slice [G 38 x81.1]]),x82)))) (bn (S.p_take x79.2 [40]) fun x83=>cnd x83.1 (bn (S.p_is x83.2 [115,101,108,101,99,116]) fun x84=>cnd x84.1 (bn (S.p_Query x84.2) fun x85=>an (okG 38 x85.1) (bn (S.p_must x85.2 [41]) fun x86=>r ((.agg [.int .i64 14,.int .i64 0,.str [],.str [],.nils,D.slice [G 38 x85.1]]),x86))) (bn (S.p_Expr x84.2) fun x87=>an (okG 26 x87.1) (fl x87.1 [4,5] (bn (S.p_must x87.2 [41]) fun x88=>fl x87.1 [4,5] (r ((G 26 x87.1),x88)))))) (bn (S.p_name x83.2) fun x89=>cnd (x89.1 == [99,111,117,110,116]) (bn (S.p_take x89.2 [40]) fun x90=>cnd x90.1 (cnd (x89.1 == [99,111,117,110,116]) (bn (S.p_take x90.2 [42]) fun x91=>cnd x91.1 (bn (S.p_must x91.2 [41]) fun x92=>r ((.agg [.int .i64 15,.int .i64 0,.str x89.1,.str [],.nils,.nils]),x92)) (bn (S.p_Expr x91.2) fun x93=>an (okG 26 x93.1) (bn (S.p_must x93.2 [41]) fun x94=>r ((.agg [.int .i64 15,.int .i64 0,.str x89.1,.str [],D.slice [G 26 x93.1],.nils]),x94)))) (bn (S.p_Expr x90.2) fun x95=>an (okG 26 x95.1) (bn (S.p_must x95.2 [41]) fun x96=>r ((.agg [.int .i64 15,.int .i64 0,.str x89.1,.str [],D.slice [G 26 x95.1],.nils]),x96)))) (bn (S.p_take x90.2 [46]) fun x97=>cnd x97.1 (bn (S.p_name x97.2) fun x98=>r ((.agg [.int .i64 5,.int .i64 0,.str x98.1,.str x89.1,.nils,.nils]),x98.2)) (r ((.agg [.int .i64 5,.int .i64 0,.str x89.1,.str [],.nils,.nils]),x97.2)))) (cnd (x89.1 == [115,117,109]) (bn (S.p_take x89.2 [40]) fun x99=>cnd x99.1 (cnd (x89.1 == [99,111,117,110,116]) (bn (S.p_take x99.2 [42]) fun x100=>cnd x100.1 (bn (S.p_must x100.2 [41]) fun x101=>r ((.agg [.int .i64 15,.int .i64 0,.str x89.1,.str [],.nils,.nils]),x101)) (bn (S.p_Expr x100.2) fun x102=>an (okG 26 x102.1) (bn (S.p_must x102.2 [41]) fun x103=>r ((.agg [.int .i64 15,.int .i64 0,.str x89.1,.str [],D.slice [G 26 x102.1],.nils]),x103)))) (bn (S.p_Expr x99.2) fun x104=>an (okG 26 x104.1) (bn (S.p_must x104.2 [41]) fun x105=>r ((.agg [.int .i64 15,.int .i64 0,.str x89.1,.str [],D.slice [G 26 x104.1],.nils]),x105)))) (bn (S.p_take x99.2 [46]) fun x106=>cnd x106.1 (bn (S.p_name x106.2) fun x107=>r ((.agg [.int .i64 5,.int .i64 0,.str x107.1,.str x89.1,.nils,.nils]),x107.2)) (r ((.agg [.int .i64 5,.int .i64 0,.str x89.1,.str [],.nils,.nils]),x106.2)))) (cnd (x89.1 == [109,105,110]) (bn (S.p_take x89.2 [40]) fun x108=>cnd x108.1 (cnd (x89.1 == [99,111,117,110,116]) (bn (S.p_take x108.2 [42]) fun x109=>cnd x109.1 (bn (S.p_must x109.2 [41]) fun x110=>r ((.agg [.int .i64 15,.int .i64 0,.str x89.1,.str [],.nils,.nils]),x110)) (bn (S.p_Expr x109.2) fun x111=>an (okG 26 x111.1) (bn (S.p_must x111.2 [41]) fun x112=>r ((.agg [.int .i64 15,.int .i64 0,.str x89.1,.str [],D.slice [G 26 x111.1],.nils]),x112)))) (bn (S.p_Expr x108.2) fun x113=>an (okG 26 x113.1) (bn (S.p_must x113.2 [41]) fun x114=>r ((.agg [.int .i64 15,.int .i64 0,.str x89.1,.str [],D.slice [G 26 x113.1],.nils]),x114)))) (bn (S.p_take x108.2 [46]) fun x115=>cnd x115.1 (bn (S.p_name x115.2) fun x116=>r ((.agg [.int .i64 5,.int .i64 0,.str x116.1,.str x89.1,.nils,.nils]),x116.2)) (r ((.agg [.int .i64 5,.int .i64 0,.str x89.1,.str [],.nils,.nils]),x115.2)))) (cnd (x89.1 == [109,97,120]) (bn (S.p_take x89.2 [40]) fun x117=>cnd x117.1 (cnd (x89.1 == [99,111,117,110,116]) (bn (S.p_take x117.2 [42]) fun x118=>cnd x118.1 (bn (S.p_must x118.2 [41]) fun x119=>r ((.agg [.int .i64 15,.int .i64 0,.str x89.1,.str [],.nils,.nils]),x119)) (bn (S.p_Expr x118.2) fun x120=>an (okG 26 x120.1) (bn (S.p_must x120.2 [41]) fun x121=>r ((.agg [.int .i64 15,.int .i64 0,.str x89.1,.str [],D.slice [G 26 x120.1],.nils]),x121)))) (bn (S.p_Expr x117.2) fun x122=>an (okG 26 x122.1) (bn (S.p_must x122.2 [41]) fun x123=>r ((.agg [.int .i64 15,.int .i64 0,.str x89.1,.str [],D.slice [G 26 x122.1],.nils]),x123)))) (bn (S.p_take x117.2 [46]) fun x124=>cnd x124.1 (bn (S.p_name x124.2) fun x125=>r ((.agg [.int .i64 5,.int .i64 0,.str x125.1,.str x89.1,.nils,.nils]),x125.2)) (r ((.agg [.int .i64 5,.int .i64 0,.str x89.1,.str [],.nils,.nils]),x124.2)))) (bn (S.p_take x89.2 [46]) fun x126=>cnd x126.1 (bn (S.p_name x126.2) fun x127=>r ((.agg [.int .i64 5,.int .i64 0,.str x127.1,.str x89.1,.nils,.nils]),x127.2)) (r ((.agg [.int .i64 5,.int .i64 0,.str x89.1,.str [],.nils,.nils]),x126.2)))))))))))))))))
theorem Qnm (S:Q9):KOk Tryz.prog [] 157 Tryz.f157 (Qg S) [] 1 Qks Jt (Q0x S):=by intro K g v; cases v <;> kernel_rfl
def Q9b (S:Q9) (n:Nat) (s0:B74):Option (D × B74):=rawN Jt (Q0x S) n (.e s0)
theorem QlF {S:Q9} (hS:Qf S) (n:Nat):EntryOk Tryz.prog (e25 157 26 (Q9b S n)):=Je fun _ _ hr=>Qd Q7 Tryz.func157 rfl hS (Qnm S) (fun _ _ _ _ v=>by cases v <;> exact id) rfl rfl hr
inductive Q35 where
 | en (s0:B132)
 | eo (s0:B132) (es0:List D) (w0:Nat)
 | l0 (y0:Int) (y1:List UInt8) (y2:Int) (y3:Int) (y4:Int) (y5:List UInt8) (y6:Int) (y7:Nat)
 | l1 (y0:Int) (y1:List UInt8) (y2:Int) (y3:Int) (y4:Int) (y5:List UInt8) (y6:Int) (y7:Nat) (y8:List D) (y9:Nat)
def QdE:Q35 → Pth × List AV × Heap
 | .en s0=>([],startT Tryz.f112 [.ptr (some (0,0))],[some (.cells 132 [.dat (.str (s0).c0),.dat (.int .i64 (s0).c1),.dat .nils] s0.ver)])
 | .eo s0 es0 w0=>([],startT Tryz.f112 [.ptr (some (0,0))],[some (.cells 132 [.dat (.str (s0).c0),.dat (.int .i64 (s0).c1),.own (.at 0 2 w0 107) es0] s0.ver)])
 | .l0 y0 y1 y2 y3 y4 y5 y6 y7=>([0,1,0,1,1,1,1,1],mkT 39 [(0,.ptr (some (0,0))),(3,.dat (.int .i64 y0)),(4,.dat (.str y1)),(5,.dat (.int .i64 y2)),(20,.dat (.int .i64 y3)),(21,.dat (.int .i64 y4))],[some (.cells 132 [.dat (.str y5),.dat (.int .i64 y6),.dat .nils] y7)])
 | .l1 y0 y1 y2 y3 y4 y5 y6 y7 y8 y9=>([0,1,0,1,1,1,1,1],mkT 39 [(0,.ptr (some (0,0))),(3,.dat (.int .i64 y0)),(4,.dat (.str y1)),(5,.dat (.int .i64 y2)),(20,.dat (.int .i64 y3)),(21,.dat (.int .i64 y4))],[some (.cells 132 [.dat (.str y5),.dat (.int .i64 y6),.own (.at 0 2 y7 107) y8] y9)])
def Zr (S:Q9) (r:Int × B132 → Prop) (l:Q35 → Prop):Q35 → Prop
 | .en s0=>bn (S.t_run_digit (B132.mk s0.c0 s0.c1 GC.n s0.ver)) fun x24=>gcas x24.2.c2 (cnd (decide (Int.ofNat x24.1.length > 18)) (bn (S.t_form (B132.mk x24.2.c0 x24.2.c1 GC.n x24.2.ver) s0.c1) fun x26=>gcas x26.2.c2 (r (x26.1,(⟨x26.2.c0,x26.2.c1,.n,x26.2.ver⟩:B132))) False fun x27 w27=>r (x26.1,(⟨x26.2.c0,x26.2.c1,(.o x27 w27),x26.2.ver⟩:B132))) (l (.l0 s0.c1 x24.1 0 (Int.ofNat x24.1.length) 0 x24.2.c0 x24.2.c1 x24.2.ver))) False fun x25 w25=>cnd (decide (Int.ofNat x24.1.length > 18)) (bn (S.t_form (B132.mk x24.2.c0 x24.2.c1 (GC.o x25 w25) x24.2.ver) s0.c1) fun x28=>gcas x28.2.c2 (r (x28.1,(⟨x28.2.c0,x28.2.c1,.n,x28.2.ver⟩:B132))) False fun x29 w29=>r (x28.1,(⟨x28.2.c0,x28.2.c1,(.o x29 w29),x28.2.ver⟩:B132))) (l (.l1 s0.c1 x24.1 0 (Int.ofNat x24.1.length) 0 x24.2.c0 x24.2.c1 w25 x25 x24.2.ver))
 | .eo s0 es0 w0=>bn (S.t_run_digit (B132.mk s0.c0 s0.c1 (GC.o es0 w0) s0.ver)) fun x30=>gcas x30.2.c2 (cnd (decide (Int.ofNat x30.1.length > 18)) (bn (S.t_form (B132.mk x30.2.c0 x30.2.c1 GC.n x30.2.ver) s0.c1) fun x32=>gcas x32.2.c2 (r (x32.1,(⟨x32.2.c0,x32.2.c1,.n,x32.2.ver⟩:B132))) False fun x33 w33=>r (x32.1,(⟨x32.2.c0,x32.2.c1,(.o x33 w33),x32.2.ver⟩:B132))) (l (.l0 s0.c1 x30.1 0 (Int.ofNat x30.1.length) 0 x30.2.c0 x30.2.c1 x30.2.ver))) False fun x31 w31=>cnd (decide (Int.ofNat x30.1.length > 18)) (bn (S.t_form (B132.mk x30.2.c0 x30.2.c1 (GC.o x31 w31) x30.2.ver) s0.c1) fun x34=>gcas x34.2.c2 (r (x34.1,(⟨x34.2.c0,x34.2.c1,.n,x34.2.ver⟩:B132))) False fun x35 w35=>r (x34.1,(⟨x34.2.c0,x34.2.c1,(.o x35 w35),x34.2.ver⟩:B132))) (l (.l1 s0.c1 x30.1 0 (Int.ofNat x30.1.length) 0 x30.2.c0 x30.2.c1 w31 x31 x30.2.ver))
 | .l0 y0 y1 y2 y3 y4 y5 y6 y7=>cnd (decide (y4 < y3)) (cnd (decide (y4 < 0)) False (bn (y1[y4.toNat]?) fun x36=>l (.l0 y0 y1 (IntKind.i64.wrap (IntKind.i64.wrap (10 * y2) + IntKind.i64.wrap (IntKind.u8.wrap (Int.ofNat x36.toNat - 48)))) y3 (IntKind.i64.wrap (y4 + 1)) y5 y6 y7))) (bn (S.t_put (B132.mk y5 y6 GC.n y7) (.agg [.int .i64 2,.str y1,.int .i64 y2,.int .i64 y0])) fun x37=>gcas x37.2.c2 (r (x37.1,(⟨x37.2.c0,x37.2.c1,.n,x37.2.ver⟩:B132))) False fun x38 w38=>r (x37.1,(⟨x37.2.c0,x37.2.c1,(.o x38 w38),x37.2.ver⟩:B132)))
 | .l1 y0 y1 y2 y3 y4 y5 y6 y7 y8 y9=>cnd (decide (y4 < y3)) (cnd (decide (y4 < 0)) False (bn (y1[y4.toNat]?) fun x39=>l (.l1 y0 y1 (IntKind.i64.wrap (IntKind.i64.wrap (10 * y2) + IntKind.i64.wrap (IntKind.u8.wrap (Int.ofNat x39.toNat - 48)))) y3 (IntKind.i64.wrap (y4 + 1)) y5 y6 y7 y8 y9))) (bn (S.t_put (B132.mk y5 y6 (GC.o y8 y7) y9) (.agg [.int .i64 2,.str y1,.int .i64 y2,.int .i64 y0])) fun x40=>gcas x40.2.c2 (r (x40.1,(⟨x40.2.c0,x40.2.c1,.n,x40.2.ver⟩:B132))) False fun x41 w41=>r (x40.1,(⟨x40.2.c0,x40.2.c1,(.o x41 w41),x40.2.ver⟩:B132)))
theorem Q72 (S:Q9):KOk Tryz.prog [true] 112 Tryz.f112 (Qg S) [([0,1,0,1,1,1,1,1],[(1,2),(6,14),(22,17)],false)] 1 QdE ZW (Zr S):=by intro K g v; cases v <;> kernel_rfl
theorem Q9c {S:Q9}:Mono (Zr S):=fun _ _ _ hl v=>by cases v <;> (dsimp only [Zr]; repeat' first | apply Qv | apply QF | (refine QE fun _=>?_) | (refine Qr ?_ ?_ fun _ _=>?_) | apply Qs | exact hl _ | exact id)
def Q3n (S:Q9) (n:Nat) (s0:B132):Option (Int × B132):=gcas s0.c2 (rawN ZW (Zr S) n (.en s0)) (none) fun es0 w0=>rawN ZW (Zr S) n (.eo s0 es0 w0)
theorem Qer {S:Q9} (hS:Qf S) (n:Nat):EntryOk Tryz.prog (e37 112 (Q3n S n)):=HZ fun ⟨_,_,g0,_⟩ r hr=>by
 rcases g0 with _ | _ | ⟨_,_⟩
 ·exact Qd Q7 Tryz.func112 rfl hS (Q72 S) Q9c rfl rfl hr
 ·exact nomatch (show (none:Option (Int × B132)) = some r from hr)
 ·exact Qd Q7 Tryz.func112 rfl hS (Q72 S) Q9c rfl rfl hr
inductive Qd9 where
 | e (s0:B74)
 | l0 (y0:B74) (y1:D)
 | l1 (y0:B74) (y1:Int) (y2:List D) (y3:List D) (y4:Nat)
def Qpk:Qd9 → Pth × List AV × Heap
 | .e s0=>([],startT Tryz.f95 [.ptr (some (0,0))],[b74 s0 0])
 | .l0 y0 y1=>([0,0,1,1],mkT 38 [(0,.ptr (some (0,0))),(2,.ptr (some (1,0))),(3,.ptr (some (2,0)))],[some (o74 y0 0),some (.cells 65 [.dat (.int .i64 0),.dat (.str []),.dat (.bool false),.dat (.str []),.dat .nils,.dat .nils,.dat .nils] 0),some (sbx 65 y1 7)])
 | .l1 y0 y1 y2 y3 y4=>([0,0,1,1],mkT 38 [(0,.ptr (some (0,0))),(2,.ptr (some (1,0))),(3,.ptr (some (2,0)))],[some (o74 y0 0),some (.cells 65 [.dat (.int .i64 0),.dat (.str []),.dat (.bool false),.dat (.str []),.dat .nils,.dat .nils,.dat .nils] 0),some (.cells 65 [.dat (.int .i64 y1),.dat (.str []),.dat (.bool false),.dat (.str []),.dat .nils,.own .full y2,.own .full y3] y4)])
def Zm (S:Q9) (r:D × B74 → Prop) (l:Qd9 → Prop):Qd9 → Prop
 | .e s0=>bn (S.p_one s0) fun x61=>an (okG 65 x61.1) (fl x61.1 [4,5,6] (l (.l0 x61.2 x61.1)))
 | .l0 y0 y1=>cnd (y0.c4 == 0) (bn (S.p_is y0 [108,101,102,116]) fun x62=>cnd x62.1 (bn (S.p_take x62.2 [108,101,102,116]) fun x63=>cnd x63.1 (bn (S.p_must x63.2 [106,111,105,110]) fun x64=>bn (S.p_one x64) fun x65=>an (okG 65 x65.1) (fl x65.1 [4,5,6] (bn (S.p_must x65.2 [111,110]) fun x66=>bn (S.p_Expr x66) fun x67=>an (okG 26 x67.1) (l (.l1 x67.2 4 [G 65 y1,G 65 x65.1] [G 26 x67.1] 14))))) (bn (S.p_must x63.2 [106,111,105,110]) fun x68=>bn (S.p_one x68) fun x69=>an (okG 65 x69.1) (fl x69.1 [4,5,6] (bn (S.p_must x69.2 [111,110]) fun x70=>bn (S.p_Expr x70) fun x71=>an (okG 26 x71.1) (l (.l1 x71.2 3 [G 65 y1,G 65 x69.1] [G 26 x71.1] 14)))))) (bn (S.p_is x62.2 [106,111,105,110]) fun x72=>cnd x72.1 (bn (S.p_take x72.2 [108,101,102,116]) fun x73=>cnd x73.1 (bn (S.p_must x73.2 [106,111,105,110]) fun x74=>bn (S.p_one x74) fun x75=>an (okG 65 x75.1) (fl x75.1 [4,5,6] (bn (S.p_must x75.2 [111,110]) fun x76=>bn (S.p_Expr x76) fun x77=>an (okG 26 x77.1) (l (.l1 x77.2 4 [G 65 y1,G 65 x75.1] [G 26 x77.1] 14))))) (bn (S.p_must x73.2 [106,111,105,110]) fun x78=>bn (S.p_one x78) fun x79=>an (okG 65 x79.1) (fl x79.1 [4,5,6] (bn (S.p_must x79.2 [111,110]) fun x80=>bn (S.p_Expr x80) fun x81=>an (okG 26 x81.1) (l (.l1 x81.2 3 [G 65 y1,G 65 x79.1] [G 26 x81.1] 14)))))) (fl y1 [4,5,6] (r ((G 65 y1),x72.2))))) (fl y1 [4,5,6] (r ((G 65 y1),y0)))
 | .l1 y0 y1 y2 y3 y4=>cnd (y0.c4 == 0) (bn (S.p_is y0 [108,101,102,116]) fun x82=>cnd x82.1 (bn (S.p_take x82.2 [108,101,102,116]) fun x83=>cnd x83.1 (bn (S.p_must x83.2 [106,111,105,110]) fun x84=>bn (S.p_one x84) fun x85=>an (okG 65 x85.1) (fl x85.1 [4,5,6] (bn (S.p_must x85.2 [111,110]) fun x86=>bn (S.p_Expr x86) fun x87=>an (okG 26 x87.1) (l (.l1 x87.2 4 [.agg [.int .i64 y1,.str [],.bool false,.str [],.nils,D.slice y2,D.slice y3],G 65 x85.1] [G 26 x87.1] (y4 + 7)))))) (bn (S.p_must x83.2 [106,111,105,110]) fun x88=>bn (S.p_one x88) fun x89=>an (okG 65 x89.1) (fl x89.1 [4,5,6] (bn (S.p_must x89.2 [111,110]) fun x90=>bn (S.p_Expr x90) fun x91=>an (okG 26 x91.1) (l (.l1 x91.2 3 [.agg [.int .i64 y1,.str [],.bool false,.str [],.nils,D.slice y2,D.slice y3],G 65 x89.1] [G 26 x91.1] (y4 + 7))))))) (bn (S.p_is x82.2 [106,111,105,110]) fun x92=>cnd x92.1 (bn (S.p_take x92.2 [108,101,102,116]) fun x93=>cnd x93.1 (bn (S.p_must x93.2 [106,111,105,110]) fun x94=>bn (S.p_one x94) fun x95=>an (okG 65 x95.1) (fl x95.1 [4,5,6] (bn (S.p_must x95.2 [111,110]) fun x96=>bn (S.p_Expr x96) fun x97=>an (okG 26 x97.1) (l (.l1 x97.2 4 [.agg [.int .i64 y1,.str [],.bool false,.str [],.nils,D.slice y2,D.slice y3],G 65 x95.1] [G 26 x97.1] (y4 + 7)))))) (bn (S.p_must x93.2 [106,111,105,110]) fun x98=>bn (S.p_one x98) fun x99=>an (okG 65 x99.1) (fl x99.1 [4,5,6] (bn (S.p_must x99.2 [111,110]) fun x100=>bn (S.p_Expr x100) fun x101=>an (okG 26 x101.1) (l (.l1 x101.2 3 [.agg [.int .i64 y1,.str [],.bool false,.str [],.nils,D.slice y2,D.slice y3],G 65 x99.1] [G 26 x101.1] (y4 + 7))))))) (r ((.agg [.int .i64 y1,.str [],.bool false,.str [],.nils,D.slice y2,D.slice y3]),x92.2)))) (r ((.agg [.int .i64 y1,.str [],.bool false,.str [],.nils,D.slice y2,D.slice y3]),y0))
theorem QpN (S:Q9):KOk Tryz.prog [] 95 Tryz.f95 (Qg S) [([0,0,1,1],[(1,1),(4,34)],false)] 1 Qpk Jt (Zm S):=by intro K g v; cases v <;> kernel_rfl
theorem QpK {S:Q9}:Mono (Zm S):=fun _ _ _ hl v=>by cases v <;> (dsimp only [Zm]; repeat' first | apply Qv | apply QF | (refine QE fun _=>?_) | (refine Qr ?_ ?_ fun _ _=>?_) | apply Qs | exact hl _ | exact id)
def Qbt (S:Q9) (n:Nat) (s0:B74):Option (D × B74):=rawN Jt (Zm S) n (.e s0)
theorem Qo4 {S:Q9} (hS:Qf S) (n:Nat):EntryOk Tryz.prog (e25 95 65 (Qbt S n)):=Je fun _ _ hr=>Qd Q7 Tryz.func95 rfl hS (QpN S) QpK rfl rfl hr
inductive Q0Y where
 | en (s0:B132)
 | eo (s0:B132) (es0:List D) (w0:Nat)
 | l0 (y0:Int) (y1:List UInt8) (y2:Int) (y3:Nat)
 | l1 (y0:Int) (y1:List UInt8) (y2:Int) (y3:Nat) (y4:List D) (y5:Nat)
def Q9T:Q0Y → Pth × List AV × Heap
 | .en s0=>([],startT Tryz.f132 [.ptr (some (0,0)),.func (.func 133) [] []],[some (.cells 132 [.dat (.str (s0).c0),.dat (.int .i64 (s0).c1),.dat .nils] s0.ver)])
 | .eo s0 es0 w0=>([],startT Tryz.f132 [.ptr (some (0,0)),.func (.func 133) [] []],[some (.cells 132 [.dat (.str (s0).c0),.dat (.int .i64 (s0).c1),.own (.at 0 2 w0 107) es0] s0.ver)])
 | .l0 y0 y1 y2 y3=>([0,0,1,1],mkT 50 [(0,.ptr (some (0,0))),(1,.func (.func 133) [] []),(5,.dat (.int .i64 y0))],[some (.cells 132 [.dat (.str y1),.dat (.int .i64 y2),.dat .nils] y3)])
 | .l1 y0 y1 y2 y3 y4 y5=>([0,0,1,1],mkT 50 [(0,.ptr (some (0,0))),(1,.func (.func 133) [] []),(5,.dat (.int .i64 y0))],[some (.cells 132 [.dat (.str y1),.dat (.int .i64 y2),.own (.at 0 2 y3 107) y4] y5)])
def Jq (S:Q9) (r:List UInt8 × B132 → Prop) (l:Q0Y → Prop):Q0Y → Prop
 | .en s0=>l (.l0 s0.c1 s0.c0 s0.c1 s0.ver)
 | .eo s0 es0 w0=>l (.l1 s0.c1 s0.c0 s0.c1 w0 es0 s0.ver)
 | .l0 y0 y1 y2 y3=>cnd (decide (y2 < Int.ofNat y1.length)) (cnd (decide (y2 < 0)) False (bn (y1[y2.toNat]?) fun x8=>bn (S.t_name1 (Int.ofNat x8.toNat)) fun x9=>cnd x9 (l (.l0 y0 y1 (IntKind.i64.wrap (y2 + 1)) (y3 + 1))) (an (decide (0 ≤ y2) && decide (y2 ≤ Int.ofNat y1.length)) (an (decide (0 ≤ y0) && decide (y0 ≤ Int.ofNat y2.toNat)) (r ((List.take (y2.toNat - y0.toNat) (List.drop y0.toNat y1)),(⟨y1,y2,.n,y3⟩:B132))))))) (an (decide (0 ≤ y2) && decide (y2 ≤ Int.ofNat y1.length)) (an (decide (0 ≤ y0) && decide (y0 ≤ Int.ofNat y2.toNat)) (r ((List.take (y2.toNat - y0.toNat) (List.drop y0.toNat y1)),(⟨y1,y2,.n,y3⟩:B132)))))
 | .l1 y0 y1 y2 y3 y4 y5=>cnd (decide (y2 < Int.ofNat y1.length)) (cnd (decide (y2 < 0)) False (bn (y1[y2.toNat]?) fun x10=>bn (S.t_name1 (Int.ofNat x10.toNat)) fun x11=>cnd x11 (l (.l1 y0 y1 (IntKind.i64.wrap (y2 + 1)) y3 y4 (y5 + 1))) (an (decide (0 ≤ y2) && decide (y2 ≤ Int.ofNat y1.length)) (an (decide (0 ≤ y0) && decide (y0 ≤ Int.ofNat y2.toNat)) (r ((List.take (y2.toNat - y0.toNat) (List.drop y0.toNat y1)),(⟨y1,y2,(.o y4 y3),y5⟩:B132))))))) (an (decide (0 ≤ y2) && decide (y2 ≤ Int.ofNat y1.length)) (an (decide (0 ≤ y0) && decide (y0 ≤ Int.ofNat y2.toNat)) (r ((List.take (y2.toNat - y0.toNat) (List.drop y0.toNat y1)),(⟨y1,y2,(.o y4 y3),y5⟩:B132)))))
theorem Q3W (S:Q9):KOk Tryz.prog [true] 132 Tryz.f132 (Qg S) [([0,0,1,1],[(2,3),(6,44)],false)] 1 Q9T Q1u (Jq S):=by intro K g v; cases v <;> kernel_rfl
theorem Q3m {S:Q9}:Mono (Jq S):=fun _ _ _ hl v=>by cases v <;> (dsimp only [Jq]; repeat' first | apply Qv | apply QF | (refine QE fun _=>?_) | (refine Qr ?_ ?_ fun _ _=>?_) | apply Qs | exact hl _ | exact id)
def Q1X (S:Q9) (n:Nat) (s0:B132):Option (List UInt8 × B132):=gcas s0.c2 (rawN Q1u (Jq S) n (.en s0)) (none) fun es0 w0=>rawN Q1u (Jq S) n (.eo s0 es0 w0)
theorem Q9U {S:Q9} (hS:Qf S) (n:Nat):EntryOk Tryz.prog (e40 132 133 (Q1X S n)):=Qdl fun ⟨_,_,g0,_⟩ r hr=>by
 rcases g0 with _ | _ | ⟨_,_⟩
 ·exact Qd Q7 Tryz.func132 rfl hS (Q3W S) Q3m rfl rfl hr
 ·exact nomatch (show (none:Option (List UInt8 × B132)) = some r from hr)
 ·exact Qd Q7 Tryz.func132 rfl hS (Q3W S) Q3m rfl rfl hr
inductive Qc4 where
 | e (s0:B74)
def Qp8:Qc4 → Pth × List AV × Heap
 | .e s0=>([],startT Tryz.f121 [.ptr (some (0,0))],[b74 s0 0])
def Q1p (S:Q9) (r:D × B74 → Prop) (l:Qc4 → Prop):Qc4 → Prop
 | .e s0=>bn (S.p_sum s0) fun x28=>an (okG 26 x28.1) (fl x28.1 [4,5] (bn (S.p_oneOf x28.2 (.slice [.str [61],.str [60,62],.str [60,61],.str [62,61],.str [60],.str [62]])) fun x29=>cnd (!x29.1 == []) (bn (S.p_sum x29.2) fun x30=>an (okG 26 x30.1) (an (okG 26 (G 26 x28.1)) (an (okG 26 (G 26 x30.1)) (bn (S.r_bin x29.1 (G 26 x28.1) (G 26 x30.1)) fun x31=>an (okG 26 x31) (fl x31 [4,5] (r ((G 26 x31),x30.2))))))) (bn (S.p_take x29.2 [105,115]) fun x32=>cnd x32.1 (bn (S.p_take x32.2 [110,111,116]) fun x33=>cnd x33.1 (bn (S.p_must x33.2 [110,117,108,108]) fun x34=>r ((.agg [.int .i64 9,.int .i64 1,.str [],.str [],D.slice [G 26 x28.1],.nils]),x34)) (bn (S.p_must x33.2 [110,117,108,108]) fun x35=>r ((.agg [.int .i64 9,.int .i64 0,.str [],.str [],D.slice [G 26 x28.1],.nils]),x35))) (bn (S.p_is x32.2 [110,111,116]) fun x36=>cnd x36.1 (bn (S.p_take x36.2 [110,111,116]) fun x37=>cnd x37.1 (bn (S.p_must x37.2 [105,110]) fun x38=>bn (S.p_must x38 [40]) fun x39=>bn (S.p_Query x39) fun x40=>an (okG 38 x40.1) (fl x40.1 [2,3,4,5,6,7,9] (bn (S.p_must x40.2 [41]) fun x41=>r ((.agg [.int .i64 13,.int .i64 1,.str [],.str [],D.slice [G 26 x28.1],D.slice [G 38 x40.1]]),x41)))) (bn (S.p_must x37.2 [105,110]) fun x42=>bn (S.p_must x42 [40]) fun x43=>bn (S.p_Query x43) fun x44=>an (okG 38 x44.1) (fl x44.1 [2,3,4,5,6,7,9] (bn (S.p_must x44.2 [41]) fun x45=>r ((.agg [.int .i64 13,.int .i64 0,.str [],.str [],D.slice [G 26 x28.1],D.slice [G 38 x44.1]]),x45))))) (bn (S.p_is x36.2 [105,110]) fun x46=>cnd x46.1 (bn (S.p_take x46.2 [110,111,116]) fun x47=>cnd x47.1 (bn (S.p_must x47.2 [105,110]) fun x48=>bn (S.p_must x48 [40]) fun x49=>bn (S.p_Query x49) fun x50=>an (okG 38 x50.1) (fl x50.1 [2,3,4,5,6,7,9] (bn (S.p_must x50.2 [41]) fun x51=>r ((.agg [.int .i64 13,.int .i64 1,.str [],.str [],D.slice [G 26 x28.1],D.slice [G 38 x50.1]]),x51)))) (bn (S.p_must x47.2 [105,110]) fun x52=>bn (S.p_must x52 [40]) fun x53=>bn (S.p_Query x53) fun x54=>an (okG 38 x54.1) (fl x54.1 [2,3,4,5,6,7,9] (bn (S.p_must x54.2 [41]) fun x55=>r ((.agg [.int .i64 13,.int .i64 0,.str [],.str [],D.slice [G 26 x28.1],D.slice [G 38 x54.1]]),x55))))) (fl x28.1 [4,5] (r ((G 26 x28.1),x46.2))))))))
theorem QpD (S:Q9):KOk Tryz.prog [] 121 Tryz.f121 (Qg S) [] 1 Qp8 Jt (Q1p S):=by intro K g v; cases v <;> kernel_rfl
def QbQ (S:Q9) (n:Nat) (s0:B74):Option (D × B74):=rawN Jt (Q1p S) n (.e s0)
theorem Qow {S:Q9} (hS:Qf S) (n:Nat):EntryOk Tryz.prog (e25 121 26 (QbQ S n)):=Je fun _ _ hr=>Qd Q7 Tryz.func121 rfl hS (QpD S) (fun _ _ _ _ v=>by cases v <;> exact id) rfl rfl hr
inductive H3 where
 | e (s0:B105) (a3:D)
 | l0 (y0:D) (y1:B105) (y2:D) (y3:Nat)
 | l1 (y0:D) (y1:Int) (y2:Int) (y3:B105) (y4:D) (y5:Nat)
def Qa3:H3 → Pth × List AV × Heap
 | .e s0 a3=>([],startT Tryz.f46 [.ptr (some (0,0)),.func (.func 48) [.ptr (some (0,0))] [],.func (.func 49) [.ptr (some (0,0))] [],.dat a3],[b105 s0 0])
 | .l0 y0 y1 y2 y3=>([1,1,0,1],mkT 30 [(1,.func (.func 48) [.ptr (some (0,0))] []),(2,.func (.func 49) [.ptr (some (0,0))] []),(3,.dat y0),(8,.ptr (some (1,0))),(9,.ptr (some (2,0)))],[some (o105 y1 0),some (.cells 26 [.dat (.int .i64 0),.dat (.int .i64 0),.dat (.str []),.dat (.str []),.dat .nils,.dat .nils] 0),some (sbx 26 y2 y3)])
 | .l1 y0 y1 y2 y3 y4 y5=>([0,1,0,1,1,0,1],mkT 30 [(1,.func (.func 48) [.ptr (some (0,0))] []),(2,.func (.func 49) [.ptr (some (0,0))] []),(3,.dat y0),(8,.ptr (some (1,0))),(9,.ptr (some (2,0))),(14,.dat y0),(15,.dat (.int .i64 y1)),(16,.dat (.int .i64 y2))],[some (o105 y3 0),some (.cells 26 [.dat (.int .i64 0),.dat (.int .i64 0),.dat (.str []),.dat (.str []),.dat .nils,.dat .nils] 0),some (sbx 26 y4 y5)])
def JM (S:Q9) (r:D × B105 → Prop) (l:H3 → Prop):H3 → Prop
 | .e s0 a3=>bn (S.s_not s0) fun x15=>an (okG 26 x15.1) (fl x15.1 [4,5] (l (.l0 a3 x15.2 x15.1 6)))
 | .l0 y0 y1 y2 y3=>bn (asL y0) fun x16=>l (.l1 y0 (Int.ofNat x16.length) 0 y1 y2 y3)
 | .l1 y0 y1 y2 y3 y4 y5=>cnd (decide (y2 < y1)) (bn (asL y0) fun x17=>bn (atD x17 y2) fun x18=>an x18.flat (bn (asS x18) fun x19=>bn (S.s_word y3 x19) fun x20=>cnd x20.1 (bn (S.s_not x20.2) fun x21=>an (okG 26 x21.1) (an (okG 26 (G 26 y4)) (an (okG 26 (G 26 x21.1)) (bn (S.s_bin x19 (G 26 y4) (G 26 x21.1)) fun x22=>an (okG 26 x22) (fl x22 [4,5] (l (.l0 y0 x21.2 x22 (y5 + 6)))))))) (l (.l1 y0 y1 (IntKind.i64.wrap (y2 + 1)) x20.2 y4 y5)))) (fl y4 [4,5] (r ((G 26 y4),y3)))
theorem Qc1 (S:Q9):KOk Tryz.prog [] 46 Tryz.f46 (Qg S) [([1,1,0,1],[(0,1),(4,4),(10,20)],false),([0,1,0,1,1,0,1],[(0,1),(4,4),(10,4),(17,13)],false)] 1 Qa3 Q1T (JM S):=by intro K g v; cases v <;> kernel_rfl
theorem Qdf {S:Q9}:Mono (JM S):=fun _ _ _ hl v=>by cases v <;> (dsimp only [JM]; repeat' first | apply Qv | apply QF | (refine QE fun _=>?_) | (refine Qr ?_ ?_ fun _ _=>?_) | apply Qs | exact hl _ | exact id)
def Q1t (S:Q9) (n:Nat) (s0:B105) (a3:D):Option (D × B105):=rawN Q1T (JM S) n (.e s0 a3)
theorem Qa0 {S:Q9} (hS:Qf S) (n:Nat):EntryOk Tryz.prog (e12 46 48 49 26 (Q1t S n)):=Q4y fun _ _ _ hr=>Qd Q7 Tryz.func46 rfl hS (Qc1 S) Qdf rfl rfl hr
inductive YY where
 | e (s0:B105)
 | l0 (y0:List D) (y1:B105)
 | l1 (y0:List D) (y1:B105) (y2:Nat)
def Qad:YY → Pth × List AV × Heap
 | .e s0=>([],startT Tryz.f93 [.ptr (some (0,0)),.func (.func 94) [.ptr (some (0,0))] []],[b105 s0 0])
 | .l0 y0 y1=>([0,0,1,1],mkT 17 [(0,.ptr (some (0,0))),(1,.func (.func 94) [.ptr (some (0,0))] []),(5,.own .full y0)],[some (o105 y1 0)])
 | .l1 y0 y1 y2=>([0,0,1,1],mkT 17 [(0,.ptr (some (0,0))),(1,.func (.func 94) [.ptr (some (0,0))] []),(5,.own (.tip 1) y0)],[some (o105 y1 0),some (.tip 85 y2 7)])
def JL (S:Q9) (r:D × B105 → Prop) (l:YY → Prop):YY → Prop
 | .e s0=>bn (S.s_key s0) fun x5=>an (okG 85 x5.1) (l (.l0 [G 85 x5.1] x5.2))
 | .l0 y0 y1=>bn (S.s_mark y1 [44]) fun x6=>cnd x6.1 (bn (S.s_key x6.2) fun x7=>an (okG 85 x7.1) (fl x7.1 [4,5] (an (sized 7 y0) (an (roomOk (y0.length + 1) 104) (l (.l1 (y0 ++ [G 85 x7.1]) x7.2 (y0.length + 1))))))) (r ((.slice y0),x6.2))
 | .l1 y0 y1 y2=>bn (S.s_mark y1 [44]) fun x8=>cnd x8.1 (bn (S.s_key x8.2) fun x9=>an (okG 85 x9.1) (fl x9.1 [4,5] (an (y2 == y0.length) (an (roomOk (y2 + 1) 104) (l (.l1 (y0 ++ [G 85 x9.1]) x9.2 (y2 + 1))))))) (r ((.slice y0),x8.2))
theorem QcH (S:Q9):KOk Tryz.prog [] 93 Tryz.f93 (Qg S) [([0,0,1,1],[(2,3),(6,11)],false)] 1 Qad Hh (JL S):=by intro K g v; cases v <;> kernel_rfl
theorem QcG {S:Q9}:Mono (JL S):=fun _ _ _ hl v=>by cases v <;> (dsimp only [JL]; repeat' first | apply Qv | apply QF | (refine QE fun _=>?_) | (refine Qr ?_ ?_ fun _ _=>?_) | apply Qs | exact hl _ | exact id)
def Q1n (S:Q9) (n:Nat) (s0:B105):Option (D × B105):=rawN Hh (JL S) n (.e s0)
theorem Qaz {S:Q9} (hS:Qf S) (n:Nat):EntryOk Tryz.prog (e15 93 94 (Q1n S n)):=Q00 fun _ _ hr=>Qd Q7 Tryz.func93 rfl hS (QcH S) QcG rfl rfl hr
inductive Q3R where
 | e (s0:B74)
 | l0 (y0:List UInt8) (y1:B74) (y2:D) (y3:Nat)
def QjR:Q3R → Pth × List AV × Heap
 | .e s0=>([],startT Tryz.f149 [.ptr (some (0,0))],[b74 s0 0])
 | .l0 y0 y1 y2 y3=>([0,0,1,1,1],mkT 21 [(0,.ptr (some (0,0))),(2,.ptr (some (1,0))),(3,.ptr (some (2,0))),(4,.dat (.str y0))],[some (o74 y1 0),some (.cells 26 [.dat (.int .i64 0),.dat (.int .i64 0),.dat (.str []),.dat (.str []),.dat .nils,.dat .nils] 0),some (sbx 26 y2 y3)])
def ZT (S:Q9) (r:D × B74 → Prop) (l:Q3R → Prop):Q3R → Prop
 | .e s0=>bn (S.p_unary s0) fun x8=>an (okG 26 x8.1) (fl x8.1 [4,5] (bn (S.p_oneOf x8.2 (.slice [.str [42],.str [47],.str [37]])) fun x9=>l (.l0 x9.1 x9.2 x8.1 6)))
 | .l0 y0 y1 y2 y3=>cnd (!y0 == []) (bn (S.p_unary y1) fun x10=>an (okG 26 x10.1) (an (okG 26 (G 26 y2)) (an (okG 26 (G 26 x10.1)) (bn (S.r_bin y0 (G 26 y2) (G 26 x10.1)) fun x11=>an (okG 26 x11) (fl x11 [4,5] (bn (S.p_oneOf x10.2 (.slice [.str [42],.str [47],.str [37]])) fun x12=>l (.l0 x12.1 x12.2 x11 (y3 + 6)))))))) (fl y2 [4,5] (r ((G 26 y2),y1)))
theorem Qpr (S:Q9):KOk Tryz.prog [] 149 Tryz.f149 (Qg S) [([0,0,1,1,1],[(1,1),(5,16)],false)] 1 QjR Jt (ZT S):=by intro K g v; cases v <;> kernel_rfl
theorem QmH {S:Q9}:Mono (ZT S):=fun _ _ _ hl v=>by cases v <;> (dsimp only [ZT]; repeat' first | apply Qv | apply QF | (refine QE fun _=>?_) | (refine Qr ?_ ?_ fun _ _=>?_) | apply Qs | exact hl _ | exact id)
def Q9p (S:Q9) (n:Nat) (s0:B74):Option (D × B74):=rawN Jt (ZT S) n (.e s0)
theorem QlT {S:Q9} (hS:Qf S) (n:Nat):EntryOk Tryz.prog (e25 149 26 (Q9p S n)):=Je fun _ _ hr=>Qd Q7 Tryz.func149 rfl hS (Qpr S) QmH rfl rfl hr
inductive Q2c where
 | e (s0:B74)
 | l0 (y0:List D) (y1:B74)
 | l1 (y0:List D) (y1:B74) (y2:Nat)
def Qi3:Q2c → Pth × List AV × Heap
 | .e s0=>([],startT Tryz.f72 [.ptr (some (0,0))],[b74 s0 0])
 | .l0 y0 y1=>([0,0,1,1],mkT 15 [(0,.ptr (some (0,0))),(3,.own .full y0)],[some (o74 y1 0)])
 | .l1 y0 y1 y2=>([0,0,1,1],mkT 15 [(0,.ptr (some (0,0))),(3,.own (.tip 1) y0)],[some (o74 y1 0),some (.tip 9 y2 1)])
def Zt (S:Q9) (r:D × B74 → Prop) (l:Q2c → Prop):Q2c → Prop
 | .e s0=>bn (S.p_name s0) fun x5=>l (.l0 [.str x5.1] x5.2)
 | .l0 y0 y1=>bn (S.p_take y1 [44]) fun x6=>cnd x6.1 (bn (S.p_name x6.2) fun x7=>an (sized 1 y0) (an (roomOk (y0.length + 1) 16) (l (.l1 (y0 ++ [D.str x7.1]) x7.2 (y0.length + 1))))) (r ((.slice y0),x6.2))
 | .l1 y0 y1 y2=>bn (S.p_take y1 [44]) fun x8=>cnd x8.1 (bn (S.p_name x8.2) fun x9=>an (y2 == y0.length) (an (roomOk (y2 + 1) 16) (l (.l1 (y0 ++ [D.str x9.1]) x9.2 (y2 + 1))))) (r ((.slice y0),x8.2))
theorem Qme (S:Q9):KOk Tryz.prog [] 72 Tryz.f72 (Qg S) [([0,0,1,1],[(1,2),(4,11)],false)] 1 Qi3 Q3O (Zt S):=by intro K g v; cases v <;> kernel_rfl
theorem Qlf {S:Q9}:Mono (Zt S):=fun _ _ _ hl v=>by cases v <;> (dsimp only [Zt]; repeat' first | apply Qv | apply QF | (refine QE fun _=>?_) | (refine Qr ?_ ?_ fun _ _=>?_) | apply Qs | exact hl _ | exact id)
def Q62 (S:Q9) (n:Nat) (s0:B74):Option (D × B74):=rawN Q3O (Zt S) n (.e s0)
theorem Qgt {S:Q9} (hS:Qf S) (n:Nat):EntryOk Tryz.prog (e24 72 (Q62 S n)):=QcC fun _ _ hr=>Qd Q7 Tryz.func72 rfl hS (Qme S) Qlf rfl rfl hr
inductive Q6A where
 | e (s0:B74)
 | l0 (y0:B74) (y1:D) (y2:Nat)
def Qp9:Q6A → Pth × List AV × Heap
 | .e s0=>([],startT Tryz.f53 [.ptr (some (0,0))],[b74 s0 0])
 | .l0 y0 y1 y2=>([0,0,1,1],mkT 13 [(0,.ptr (some (0,0))),(2,.ptr (some (1,0))),(3,.ptr (some (2,0)))],[some (o74 y0 0),some (.cells 26 [.dat (.int .i64 0),.dat (.int .i64 0),.dat (.str []),.dat (.str []),.dat .nils,.dat .nils] 0),some (sbx 26 y1 y2)])
def Zq (S:Q9) (r:D × B74 → Prop) (l:Q6A → Prop):Q6A → Prop
 | .e s0=>bn (S.p_not s0) fun x7=>an (okG 26 x7.1) (fl x7.1 [4,5] (l (.l0 x7.2 x7.1 6)))
 | .l0 y0 y1 y2=>bn (S.p_take y0 [97,110,100]) fun x8=>cnd x8.1 (bn (S.p_not x8.2) fun x9=>an (okG 26 x9.1) (an (okG 26 (G 26 y1)) (an (okG 26 (G 26 x9.1)) (bn (S.r_bin [97,110,100] (G 26 y1) (G 26 x9.1)) fun x10=>an (okG 26 x10) (fl x10 [4,5] (l (.l0 x9.2 x10 (y2 + 6)))))))) (fl y1 [4,5] (r ((G 26 y1),x8.2)))
theorem QqA (S:Q9):KOk Tryz.prog [] 53 Tryz.f53 (Qg S) [([0,0,1,1],[(1,1),(4,9)],false)] 1 Qp9 Jt (Zq S):=by intro K g v; cases v <;> kernel_rfl
theorem Qqt {S:Q9}:Mono (Zq S):=fun _ _ _ hl v=>by cases v <;> (dsimp only [Zq]; repeat' first | apply Qv | apply QF | (refine QE fun _=>?_) | (refine Qr ?_ ?_ fun _ _=>?_) | apply Qs | exact hl _ | exact id)
def Qbg (S:Q9) (n:Nat) (s0:B74):Option (D × B74):=rawN Jt (Zq S) n (.e s0)
theorem Qom {S:Q9} (hS:Qf S) (n:Nat):EntryOk Tryz.prog (e25 53 26 (Qbg S n)):=Je fun _ _ hr=>Qd Q7 Tryz.func53 rfl hS (QqA S) Qqt rfl rfl hr
inductive Q4H where
 | e (a0:List UInt8) (a1:Int)
def QhO:Q4H → Pth × List AV × Heap
 | .e a0 a1=>([],startT Tryz.f20 [.dat (.str a0),.dat (.int .i64 a1),.func (.func 21) [] []],[])
def Q8l (S:Q9) (r:D × Int × Int → Prop) (l:Q4H → Prop):Q4H → Prop
 | .e a0 a1=>bn (S.t_Scan a0) fun x4=>cnd (x4.2.2 != 0) (r ((.agg [.int .i64 0,.int .i64 0,.str [],.str [],.nils,.nils]),x4.2.1,x4.2.2)) (an x4.1.flat (bn (S.s_Expr1 (B105.mk x4.1 0 a1 0 0)) fun x5=>an (okG 26 x5.1) (fl x5.1 [4,5] (bn (S.s_now x5.2) fun x6=>an (okG 107 x6.1) (cnd (cI x6.1 0 != 0) (bn (S.s_fail x6.2 10) fun x7=>cnd (x7.c4 != 0) (r ((.agg [.int .i64 0,.int .i64 0,.str [],.str [],.nils,.nils]),x7.c3,x7.c4)) (fl x5.1 [4,5] (r ((G 26 x5.1),0,0)))) (cnd (x6.2.c4 != 0) (r ((.agg [.int .i64 0,.int .i64 0,.str [],.str [],.nils,.nils]),x6.2.c3,x6.2.c4)) (fl x5.1 [4,5] (r ((G 26 x5.1),0,0)))))))))
theorem QlM (S:Q9):KOk Tryz.prog [] 20 Tryz.f20 (Qg S) [] 0 QhO Q1E (Q8l S):=by intro K g v; cases v <;> kernel_rfl
def Q6i (S:Q9) (n:Nat) (a0:List UInt8) (a1:Int):Option (D × Int × Int):=rawN Q1E (Q8l S) n (.e a0 a1)
theorem QfW {S:Q9} (hS:Qf S) (n:Nat):EntryOk Tryz.prog (e16 20 21 26 (Q6i S n)):=Q4u fun _ _ _ hr=>Qd Q7 Tryz.func20 rfl hS (QlM S) (fun _ _ _ _ v=>by cases v <;> exact id) rfl rfl hr
inductive Q8v where
 | e (s0:B74)
def QjQ:Q8v → Pth × List AV × Heap
 | .e s0=>([],startT Tryz.f73 [.ptr (some (0,0))],[b74 s0 0])
def H9 (S:Q9) (r:List UInt8 × B74 → Prop) (l:Q8v → Prop):Q8v → Prop
 | .e s0=>cnd (s0.c4 != 0) (bn (S.p_bad s0 10) fun x10=>r ([],x10)) (bn (asL s0.c0) fun x11=>bn (atD x11 s0.c1) fun x12=>an (okG 107 x12) (cnd (cI x12 0 != 1) (bn (S.p_bad s0 10) fun x13=>r ([],x13)) (bn (asL s0.c0) fun x14=>bn (atD x14 s0.c1) fun x15=>an (okG 107 x15) (bn (S.k_Word (cS x15 1)) fun x16=>cnd x16 (bn (S.p_bad s0 10) fun x17=>r ([],x17)) (bn (asL s0.c0) fun x18=>bn (atD x18 (IntKind.i64.wrap (IntKind.i64.wrap (s0.c1 + 1) - 1))) fun x19=>an (okG 107 x19) (r ((cS x19 1),(B74.mk s0.c0 (IntKind.i64.wrap (s0.c1 + 1)) s0.c2 s0.c3 s0.c4))))))))
theorem Qmp (S:Q9):KOk Tryz.prog [] 73 Tryz.f73 (Qg S) [] 1 QjQ Q7h (H9 S):=by intro K g v; cases v <;> kernel_rfl
def Q6Q (S:Q9) (n:Nat) (s0:B74):Option (List UInt8 × B74):=rawN Q7h (H9 S) n (.e s0)
theorem QlU {S:Q9} (hS:Qf S) (n:Nat):EntryOk Tryz.prog (e22 73 (Q6Q S n)):=QoC fun _ _ hr=>Qd Q7 Tryz.func73 rfl hS (Qmp S) (fun _ _ _ _ v=>by cases v <;> exact id) rfl rfl hr
inductive Q01 where
 | e (s0:B105) (a1:Int)
def Q9o:Q01 → Pth × List AV × Heap
 | .e s0 a1=>([],startT Tryz.f80 [.ptr (some (0,0)),.dat (.int .i64 a1),.func (.func 48) [.ptr (some (0,0))] []],[b105 s0 0])
def Zx (S:Q9) (r:D × B105 → Prop) (l:Q01 → Prop):Q01 → Prop
 | .e s0 a1=>bn (S.s_enter s0) fun x3=>cnd (!x3.1) (r ((.agg [.int .i64 0,.int .i64 0,.str [],.str [],.nils,.nils]),x3.2)) (bn (S.s_not x3.2) fun x4=>an (okG 26 x4.1) (bn (S.s_leave x4.2) fun x5=>r ((.agg [.int .i64 a1,.int .i64 0,.str [],.str [],D.slice [G 26 x4.1],.nils]),x5)))
theorem Qas (S:Q9):KOk Tryz.prog [] 80 Tryz.f80 (Qg S) [] 1 Q9o Q4q (Zx S):=by intro K g v; cases v <;> kernel_rfl
def Q16 (S:Q9) (n:Nat) (s0:B105) (a1:Int):Option (D × B105):=rawN Q4q (Zx S) n (.e s0 a1)
theorem Q7A {S:Q9} (hS:Qf S) (n:Nat):EntryOk Tryz.prog (e13 80 48 26 (Q16 S n)):=Qc2 fun _ _ _ hr=>Qd Q7 Tryz.func80 rfl hS (Qas S) (fun _ _ _ _ v=>by cases v <;> exact id) rfl rfl hr
inductive QcQ where
 | e (s0:B74)
def Qpd:QcQ → Pth × List AV × Heap
 | .e s0=>([],startT Tryz.f75 [.ptr (some (0,0))],[b74 s0 0])
def Q1w (S:Q9) (r:Int × B74 → Prop) (l:QcQ → Prop):QcQ → Prop
 | .e s0=>cnd (s0.c4 != 0) (bn (S.p_bad s0 10) fun x6=>r (0,x6)) (bn (asL s0.c0) fun x7=>bn (atD x7 s0.c1) fun x8=>an (okG 107 x8) (cnd (cI x8 0 != 2) (bn (S.p_bad s0 10) fun x9=>r (0,x9)) (bn (asL s0.c0) fun x10=>bn (atD x10 (IntKind.i64.wrap (IntKind.i64.wrap (s0.c1 + 1) - 1))) fun x11=>an (okG 107 x11) (r ((cI x11 2),(B74.mk s0.c0 (IntKind.i64.wrap (s0.c1 + 1)) s0.c2 s0.c3 s0.c4))))))
theorem Qqq (S:Q9):KOk Tryz.prog [] 75 Tryz.f75 (Qg S) [] 1 Qpd Q4c (Q1w S):=by intro K g v; cases v <;> kernel_rfl
def Qbh (S:Q9) (n:Nat) (s0:B74):Option (Int × B74):=rawN Q4c (Q1w S) n (.e s0)
theorem Qps {S:Q9} (hS:Qf S) (n:Nat):EntryOk Tryz.prog (e23 75 (Qbh S n)):=Qc5 fun _ _ hr=>Qd Q7 Tryz.func75 rfl hS (Qqq S) (fun _ _ _ _ v=>by cases v <;> exact id) rfl rfl hr
inductive Q8q where
 | e (s0:B105)
def Qmd:Q8q → Pth × List AV × Heap
 | .e s0=>([],startT Tryz.f22 [.ptr (some (0,0))],[b105 s0 0])
def ZX (S:Q9) (r:D × B105 → Prop) (l:Q8q → Prop):Q8q → Prop
 | .e s0=>bn (S.s_enter s0) fun x3=>cnd (!x3.1) (r ((.agg [.int .i64 0,.int .i64 0,.str [],.str [],.nils,.nils]),x3.2)) (bn (S.s_left_or x3.2 (.slice [.str [111,114]])) fun x4=>an (okG 26 x4.1) (fl x4.1 [4,5] (bn (S.s_leave x4.2) fun x5=>fl x4.1 [4,5] (r ((G 26 x4.1),x5)))))
theorem QnG (S:Q9):KOk Tryz.prog [] 22 Tryz.f22 (Qg S) [] 1 Qmd Jj (ZX S):=by intro K g v; cases v <;> kernel_rfl
def Q8F (S:Q9) (n:Nat) (s0:B105):Option (D × B105):=rawN Jj (ZX S) n (.e s0)
theorem Ql7 {S:Q9} (hS:Qf S) (n:Nat):EntryOk Tryz.prog (e0 22 26 (Q8F S n)):=QR fun _ _ hr=>Qd Q7 Tryz.func22 rfl hS (QnG S) (fun _ _ _ _ v=>by cases v <;> exact id) rfl rfl hr
inductive Q3l where
 | e (a0:Int)
def Qfg:Q3l → Pth × List AV × Heap
 | .e a0=>([],startT Tryz.f117 [.dat (.int .u8 a0)],[])
def Q23 (S:Q9) (r:Bool → Prop) (l:Q3l → Prop):Q3l → Prop
 | .e a0=>cnd (decide (a0 ≥ 97)) (cnd (decide (a0 ≤ 122)) (r true) (cnd (decide (a0 ≥ 65)) (cnd (decide (a0 ≤ 90)) (r true) (r (a0 == 95))) (r (a0 == 95)))) (cnd (decide (a0 ≥ 65)) (cnd (decide (a0 ≤ 90)) (r true) (r (a0 == 95))) (r (a0 == 95)))
theorem QfX (S:Q9):KOk Tryz.prog [] 117 Tryz.f117 (Qg S) [] 0 Qfg Yz (Q23 S):=by intro K g v; cases v <;> kernel_rfl
def Q3w (S:Q9) (n:Nat) (a0:Int):Option (Bool):=rawN Yz (Q23 S) n (.e a0)
theorem Qev {S:Q9} (hS:Qf S) (n:Nat):EntryOk Tryz.prog (e32 117 (Q3w S n)):=YQ fun _ _ hr=>Qd Q7 Tryz.func117 rfl hS (QfX S) (fun _ _ _ _ v=>by cases v <;> exact id) rfl rfl hr
inductive Qc6 where
 | e (s0:B105)
def QnO:Qc6 → Pth × List AV × Heap
 | .e s0=>([],startT Tryz.f48 [.ptr (some (0,0))],[b105 s0 0])
def Q1Z (S:Q9) (r:D × B105 → Prop) (l:Qc6 → Prop):Qc6 → Prop
 | .e s0=>bn (S.s_word s0 [110,111,116]) fun x3=>cnd x3.1 (bn (S.s_inner_not x3.2 8) fun x4=>an (okG 26 x4.1) (fl x4.1 [4,5] (r ((G 26 x4.1),x4.2)))) (bn (S.s_compared x3.2) fun x5=>an (okG 26 x5.1) (fl x5.1 [4,5] (r ((G 26 x5.1),x5.2))))
theorem Qqz (S:Q9):KOk Tryz.prog [] 48 Tryz.f48 (Qg S) [] 1 QnO Jj (Q1Z S):=by intro K g v; cases v <;> kernel_rfl
def Qbq (S:Q9) (n:Nat) (s0:B105):Option (D × B105):=rawN Jj (Q1Z S) n (.e s0)
theorem QoK {S:Q9} (hS:Qf S) (n:Nat):EntryOk Tryz.prog (e0 48 26 (Qbq S n)):=QR fun _ _ hr=>Qd Q7 Tryz.func48 rfl hS (Qqz S) (fun _ _ _ _ v=>by cases v <;> exact id) rfl rfl hr
inductive Q7U where
 | e (s0:B105)
def QkZ:Q7U → Pth × List AV × Heap
 | .e s0=>([],startT Tryz.f66 [.ptr (some (0,0))],[b105 s0 0])
def Q0w (S:Q9) (r:List UInt8 × B105 → Prop) (l:Q7U → Prop):Q7U → Prop
 | .e s0=>bn (S.s_named s0) fun x4=>cnd (!x4.1) (bn (S.s_fail x4.2 10) fun x5=>r ([],x5)) (bn (S.s_now x4.2) fun x6=>an (okG 107 x6.1) (bn (S.s_next x6.2) fun x7=>r ((cS x6.1 1),x7)))
theorem QoX (S:Q9):KOk Tryz.prog [] 66 Tryz.f66 (Qg S) [] 1 QkZ QfT (Q0w S):=by intro K g v; cases v <;> kernel_rfl
def Q9A (S:Q9) (n:Nat) (s0:B105):Option (List UInt8 × B105):=rawN QfT (Q0w S) n (.e s0)
theorem Qlz {S:Q9} (hS:Qf S) (n:Nat):EntryOk Tryz.prog (e7 66 (Q9A S n)):=Qr0 fun _ _ hr=>Qd Q7 Tryz.func66 rfl hS (QoX S) (fun _ _ _ _ v=>by cases v <;> exact id) rfl rfl hr
inductive Qcw where
 | e (s0:B74) (a1:Int)
def Qpf:Qcw → Pth × List AV × Heap
 | .e s0 a1=>([],startT Tryz.f56 [.ptr (some (0,0)),.dat (.int .i64 a1)],[b74 s0 0])
def Q49 (S:Q9) (r:B74 → Prop) (l:Qcw → Prop):Qcw → Prop
 | .e s0 a1=>cnd (s0.c4 == 0) (bn (asL s0.c0) fun x2=>bn (atD x2 s0.c1) fun x3=>an (okG 107 x3) (r (B74.mk s0.c0 s0.c1 s0.c2 (cI x3 3) a1))) (r s0)
theorem QqI (S:Q9):KOk Tryz.prog [] 56 Tryz.f56 (Qg S) [] 1 Qpf Q9s (Q49 S):=by intro K g v; cases v <;> kernel_rfl
def QaE (S:Q9) (n:Nat) (s0:B74) (a1:Int):Option (B74):=rawN Q9s (Q49 S) n (.e s0 a1)
theorem Qox {S:Q9} (hS:Qf S) (n:Nat):EntryOk Tryz.prog (e18 56 (QaE S n)):=Qno fun _ _ _ hr=>Qd Q7 Tryz.func56 rfl hS (QqI S) (fun _ _ _ _ v=>by cases v <;> exact id) rfl rfl hr
inductive Qch where
 | e (a0:List UInt8) (a1:D) (a2:D)
def QoS:Qch → Pth × List AV × Heap
 | .e a0 a1 a2=>([],startT Tryz.f79 [.dat (.str a0),.dat (G 26 a1),.dat (G 26 a2)],[])
def Q7Q (S:Q9) (r:D → Prop) (l:Qch → Prop):Qch → Prop
 | .e a0 a1 a2=>r (.agg [.int .i64 10,.int .i64 0,.str a0,.str [],D.slice [G 26 a1,G 26 a2],.nils])
theorem Qqr (S:Q9):KOk Tryz.prog [] 79 Tryz.f79 (Qg S) [] 0 QoS Qco (Q7Q S):=by intro K g v; cases v <;> kernel_rfl
def Qb8 (S:Q9) (n:Nat) (a0:List UInt8) (a1:D) (a2:D):Option (D):=rawN Qco (Q7Q S) n (.e a0 a1 a2)
theorem QnI {S:Q9} (hS:Qf S) (n:Nat):EntryOk Tryz.prog (e9 79 26 26 26 (Qb8 S n)):=QiV fun _ _ _ _ hr=>Qd Q7 Tryz.func79 rfl hS (Qqr S) (fun _ _ _ _ v=>by cases v <;> exact id) rfl rfl hr
inductive Q6U where
 | e (s0:B74) (a1:List UInt8)
def Qk3:Q6U → Pth × List AV × Heap
 | .e s0 a1=>([],startT Tryz.f60 [.ptr (some (0,0)),.dat (.str a1)],[b74 s0 0])
def Q50 (S:Q9) (r:B74 → Prop) (l:Q6U → Prop):Q6U → Prop
 | .e s0 a1=>bn (S.p_take s0 a1) fun x2=>cnd (!x2.1) (bn (S.p_bad x2.2 10) fun x3=>r x3) (r x2.2)
theorem Qnq (S:Q9):KOk Tryz.prog [] 60 Tryz.f60 (Qg S) [] 1 Qk3 Q80 (Q50 S):=by intro K g v; cases v <;> kernel_rfl
def Q9w (S:Q9) (n:Nat) (s0:B74) (a1:List UInt8):Option (B74):=rawN Q80 (Q50 S) n (.e s0 a1)
theorem Qk9 {S:Q9} (hS:Qf S) (n:Nat):EntryOk Tryz.prog (e20 60 (Q9w S n)):=Qmr fun _ _ _ hr=>Qd Q7 Tryz.func60 rfl hS (Qnq S) (fun _ _ _ _ v=>by cases v <;> exact id) rfl rfl hr
inductive Q4x where
 | e (s0:B105)
def Qgh:Q4x → Pth × List AV × Heap
 | .e s0=>([],startT Tryz.f21 [.ptr (some (0,0))],[b105 s0 0])
def Q7d (S:Q9) (r:D × B105 → Prop) (l:Q4x → Prop):Q4x → Prop
 | .e s0=>bn (S.s_expr s0) fun x1=>an (okG 26 x1.1) (fl x1.1 [4,5] (r ((G 26 x1.1),x1.2)))
theorem Qlm (S:Q9):KOk Tryz.prog [] 21 Tryz.f21 (Qg S) [] 1 Qgh Jj (Q7d S):=by intro K g v; cases v <;> kernel_rfl
def Q60 (S:Q9) (n:Nat) (s0:B105):Option (D × B105):=rawN Jj (Q7d S) n (.e s0)
theorem QgK {S:Q9} (hS:Qf S) (n:Nat):EntryOk Tryz.prog (e0 21 26 (Q60 S n)):=QR fun _ _ hr=>Qd Q7 Tryz.func21 rfl hS (Qlm S) (fun _ _ _ _ v=>by cases v <;> exact id) rfl rfl hr
inductive QcB where
 | e (s0:B105)
def Qnn:QcB → Pth × List AV × Heap
 | .e s0=>([],startT Tryz.f43 [.ptr (some (0,0))],[b105 s0 0])
def Q8z (S:Q9) (r:D × B105 → Prop) (l:QcB → Prop):QcB → Prop
 | .e s0=>bn (asL s0.c0) fun x2=>bn (atD x2 s0.c1) fun x3=>an (okG 107 x3) (r ((G 107 x3),s0))
theorem QqB (S:Q9):KOk Tryz.prog [] 43 Tryz.f43 (Qg S) [] 1 Qnn Jj (Q8z S):=by intro K g v; cases v <;> kernel_rfl
def QaW (S:Q9) (n:Nat) (s0:B105):Option (D × B105):=rawN Jj (Q8z S) n (.e s0)
theorem QnM {S:Q9} (hS:Qf S) (n:Nat):EntryOk Tryz.prog (e0 43 107 (QaW S n)):=QR fun _ _ hr=>Qd Q7 Tryz.func43 rfl hS (QqB S) (fun _ _ _ _ v=>by cases v <;> exact id) rfl rfl hr
end
end Go.Proofs.YtfdcjngclelnhaaGreat
