/- Part of a proof. -/
import Derived.Test.YtfdcjngclelnhaaGreatXS
set_option linter.unusedSectionVars false
set_option linter.unusedSimpArgs false
set_option linter.unusedVariables false
namespace Go.Proofs.YtfdcjngclelnhaaGreat
open Go Go.RowKit
set_option maxRecDepth 100000
set_option maxHeartbeats 4000000
noncomputable section
inductive Q8Q where
 | e (s0:B74)
 | l0 (y0:B74) (y1:Bool)
 | l1 (y0:Bool) (y1:B74) (y2:Bool) (y3:Nat) (y4:List D) (y5:Nat)
 | l2 (y0:B74) (y1:Bool) (y2:D) (y3:D) (y4:Nat)
 | l3 (y0:B74) (y1:Bool) (y2:D) (y3:D) (y4:D) (y5:Nat)
 | l4 (y0:B74) (y1:Bool) (y2:D) (y3:D) (y4:D) (y5:D) (y6:D) (y7:Nat)
 | l5 (y0:B74) (y1:Bool) (y2:D) (y3:D) (y4:D) (y5:D) (y6:D) (y7:Nat)
 | l6 (y0:Bool) (y1:B74) (y2:Bool) (y3:D) (y4:D) (y5:D) (y6:D) (y7:D) (y8:Nat) (y9:List D) (y10:Nat)
def Qjs:Q8Q → Pth × List AV × Heap
 | .e s0=>([],startT Tryz.f58 [.ptr (some (0,0))],[b74 s0 0])
 | .l0 y0 y1=>([0,0,1,1,1,1,1,1],mkT 87 [(0,.ptr (some (0,0))),(2,.ptr (some (1,0))),(4,.ptr (some (2,0))),(5,.dat (.bool true))],[some (o74 y0 0),some (.cells 38 [.dat (.int .i64 0),.dat (.bool false),.dat .nils,.dat .nils,.dat .nils,.dat .nils,.dat .nils,.dat .nils,.dat (.int .i64 0),.dat .nils] 0),some (.cells 38 [.dat (.int .i64 1),.dat (.bool y1),.dat .nils,.dat .nils,.dat .nils,.dat .nils,.dat .nils,.dat .nils,.dat (.int .i64 (-1)),.dat .nils] 11)])
 | .l1 y0 y1 y2 y3 y4 y5=>([0,0,1,1,1,1,1,1],mkT 87 [(0,.ptr (some (0,0))),(2,.ptr (some (1,0))),(4,.ptr (some (2,0))),(5,.dat (.bool y0))],[some (o74 y1 0),some (.cells 38 [.dat (.int .i64 0),.dat (.bool false),.dat .nils,.dat .nils,.dat .nils,.dat .nils,.dat .nils,.dat .nils,.dat (.int .i64 0),.dat .nils] 0),some (.cells 38 [.dat (.int .i64 1),.dat (.bool y2),.own (.at 2 2 y3 83) y4,.dat .nils,.dat .nils,.dat .nils,.dat .nils,.dat .nils,.dat (.int .i64 (-1)),.dat .nils] y5)])
 | .l2 y0 y1 y2 y3 y4=>([1,1,1,1,1,1,1,1],mkT 87 [(0,.ptr (some (0,0))),(2,.ptr (some (1,0))),(4,.ptr (some (2,0)))],[some (o74 y0 0),some (.cells 38 [.dat (.int .i64 0),.dat (.bool false),.dat .nils,.dat .nils,.dat .nils,.dat .nils,.dat .nils,.dat .nils,.dat (.int .i64 0),.dat .nils] 0),some (.cells 38 [.dat (.int .i64 1),.dat (.bool y1),.dat y2,.dat y3,.dat .nils,.dat .nils,.dat .nils,.dat .nils,.dat (.int .i64 (-1)),.dat .nils] y4)])
 | .l3 y0 y1 y2 y3 y4 y5=>([1,1,1,1,1,1,1,1,1],mkT 87 [(0,.ptr (some (0,0))),(2,.ptr (some (1,0))),(4,.ptr (some (2,0)))],[some (o74 y0 0),some (.cells 38 [.dat (.int .i64 0),.dat (.bool false),.dat .nils,.dat .nils,.dat .nils,.dat .nils,.dat .nils,.dat .nils,.dat (.int .i64 0),.dat .nils] 0),some (.cells 38 [.dat (.int .i64 1),.dat (.bool y1),.dat y2,.dat y3,.dat y4,.dat .nils,.dat .nils,.dat .nils,.dat (.int .i64 (-1)),.dat .nils] y5)])
 | .l4 y0 y1 y2 y3 y4 y5 y6 y7=>([1,1,1,1,1,1,1,1,1,1],mkT 87 [(0,.ptr (some (0,0))),(2,.ptr (some (1,0))),(4,.ptr (some (2,0)))],[some (o74 y0 0),some (.cells 38 [.dat (.int .i64 0),.dat (.bool false),.dat .nils,.dat .nils,.dat .nils,.dat .nils,.dat .nils,.dat .nils,.dat (.int .i64 0),.dat .nils] 0),some (.cells 38 [.dat (.int .i64 1),.dat (.bool y1),.dat y2,.dat y3,.dat y4,.dat y5,.dat y6,.dat .nils,.dat (.int .i64 (-1)),.dat .nils] y7)])
 | .l5 y0 y1 y2 y3 y4 y5 y6 y7=>([0,1,1,0,1,0,1,1,1,1,1,1,1,1,1,1],mkT 87 [(0,.ptr (some (0,0))),(2,.ptr (some (1,0))),(4,.ptr (some (2,0))),(5,.dat (.bool true))],[some (o74 y0 0),some (.cells 38 [.dat (.int .i64 0),.dat (.bool false),.dat .nils,.dat .nils,.dat .nils,.dat .nils,.dat .nils,.dat .nils,.dat (.int .i64 0),.dat .nils] 0),some (.cells 38 [.dat (.int .i64 1),.dat (.bool y1),.dat y2,.dat y3,.dat y4,.dat y5,.dat y6,.dat .nils,.dat (.int .i64 (-1)),.dat .nils] y7)])
 | .l6 y0 y1 y2 y3 y4 y5 y6 y7 y8 y9 y10=>([0,1,1,0,1,0,1,1,1,1,1,1,1,1,1,1],mkT 87 [(0,.ptr (some (0,0))),(2,.ptr (some (1,0))),(4,.ptr (some (2,0))),(5,.dat (.bool y0))],[some (o74 y1 0),some (.cells 38 [.dat (.int .i64 0),.dat (.bool false),.dat .nils,.dat .nils,.dat .nils,.dat .nils,.dat .nils,.dat .nils,.dat (.int .i64 0),.dat .nils] 0),some (.cells 38 [.dat (.int .i64 1),.dat (.bool y2),.dat y3,.dat y4,.dat y5,.dat y6,.dat y7,.own (.at 2 7 y8 85) y9,.dat (.int .i64 (-1)),.dat .nils] y10)])
def QI (S:Q9) (r:D × B74 → Prop) (l:Q8Q → Prop):Q8Q → Prop
 | .e s0=>bn (S.p_take s0 [40]) fun x40=>cnd x40.1 (bn (S.p_Query x40.2) fun x41=>an (okG 38 x41.1) (fl x41.1 [2,3,4,5,6,7,9] (bn (S.p_must x41.2 [41]) fun x42=>fl x41.1 [2,3,4,5,6,7,9] (r ((G 38 x41.1),x42))))) (bn (S.p_must x40.2 [115,101,108,101,99,116]) fun x43=>bn (S.p_take x43 [100,105,115,116,105,110,99,116]) fun x44=>l (.l0 x44.2 x44.1))
 | .l0 y0 y1=>bn (S.p_Expr y0) fun x45=>an (okG 26 x45.1) (fl x45.1 [4,5] (bn (S.p_must x45.2 [97,115]) fun x46=>bn (S.p_name x46) fun x47=>fl x45.1 [4,5] (bn (S.p_take x47.2 [44]) fun x48=>l (.l1 x48.1 x48.2 y1 11 [.agg [.int .i64 (cI x45.1 0),.int .i64 (cI x45.1 1),.str (cS x45.1 2),.str (cS x45.1 3),cel x45.1 4,cel x45.1 5,.str x47.1]] 12))))
 | .l1 y0 y1 y2 y3 y4 y5=>cnd y0 (bn (S.p_Expr y1) fun x49=>an (okG 26 x49.1) (fl x49.1 [4,5] (bn (S.p_must x49.2 [97,115]) fun x50=>bn (S.p_name x50) fun x51=>fl x49.1 [4,5] (an (y3.beq y3) (an (y4.length.beq y4.length) (cnd y4.isEmpty False (an (sized 7 y4) (an (roomOk (y4.length + 1) 112) (an ((y4.length + 1).beq (y4 ++ [D.agg [.int .i64 (cI x49.1 0),.int .i64 (cI x49.1 1),.str (cS x49.1 2),.str (cS x49.1 3),cel x49.1 4,cel x49.1 5,.str x51.1]]).length) (bn (S.p_take x51.2 [44]) fun x52=>l (.l1 x52.1 x52.2 y2 y5 (y4 ++ [D.agg [.int .i64 (cI x49.1 0),.int .i64 (cI x49.1 1),.str (cS x49.1 2),.str (cS x49.1 3),cel x49.1 4,cel x49.1 5,.str x51.1]]) (y5 + 1)))))))))))) (bn (S.p_take y1 [102,114,111,109]) fun x53=>cnd x53.1 (bn (S.p_src x53.2) fun x54=>an (okG 65 x54.1) (l (.l2 x54.2 y2 (.slice y4) (.slice [G 65 x54.1]) (y5 + 1)))) (l (.l2 x53.2 y2 (.slice y4) .nils y5)))
 | .l2 y0 y1 y2 y3 y4=>bn (S.p_take y0 [119,104,101,114,101]) fun x55=>cnd x55.1 (bn (S.p_Expr x55.2) fun x56=>an (okG 26 x56.1) (l (.l3 x56.2 y1 y2 y3 (.slice [G 26 x56.1]) (y4 + 1)))) (l (.l3 x55.2 y1 y2 y3 .nils y4))
 | .l3 y0 y1 y2 y3 y4 y5=>bn (S.p_take y0 [103,114,111,117,112]) fun x57=>cnd x57.1 (bn (S.p_must x57.2 [98,121]) fun x58=>bn (S.p_exprs x58) fun x59=>an x59.1.flat (an x59.1.flat (bn (S.p_take x59.2 [104,97,118,105,110,103]) fun x60=>cnd x60.1 (bn (S.p_Expr x60.2) fun x61=>an (okG 26 x61.1) (l (.l4 x61.2 y1 y2 y3 y4 x59.1 (.slice [G 26 x61.1]) (y5 + 1 + 1)))) (l (.l4 x60.2 y1 y2 y3 y4 x59.1 .nils (y5 + 1)))))) (l (.l4 x57.2 y1 y2 y3 y4 .nils .nils y5))
 | .l4 y0 y1 y2 y3 y4 y5 y6 y7=>bn (S.p_take y0 [111,114,100,101,114]) fun x62=>cnd x62.1 (bn (S.p_must x62.2 [98,121]) fun x63=>l (.l5 x63 y1 y2 y3 y4 y5 y6 y7)) (bn (S.p_take x62.2 [108,105,109,105,116]) fun x64=>cnd x64.1 (bn (S.p_int x64.2) fun x65=>an y2.flat (an y3.flat (an y4.flat (an y5.flat (an y6.flat (r ((.agg [.int .i64 1,.bool y1,y2,y3,y4,y5,y6,.nils,.int .i64 x65.1,.nils]),x65.2))))))) (an y2.flat (an y3.flat (an y4.flat (an y5.flat (an y6.flat (r ((.agg [.int .i64 1,.bool y1,y2,y3,y4,y5,y6,.nils,.int .i64 (-1),.nils]),x64.2))))))))
 | .l5 y0 y1 y2 y3 y4 y5 y6 y7=>bn (S.p_Expr y0) fun x66=>an (okG 26 x66.1) (fl x66.1 [4,5] (bn (S.p_take x66.2 [100,101,115,99]) fun x67=>fl x66.1 [4,5] (bn (S.p_take x67.2 [44]) fun x68=>l (.l6 x68.1 x68.2 y1 y2 y3 y4 y5 y6 y7 [.agg [.int .i64 (cI x66.1 0),.int .i64 (cI x66.1 1),.str (cS x66.1 2),.str (cS x66.1 3),cel x66.1 4,cel x66.1 5,.bool x67.1]] (y7 + 1)))))
 | .l6 y0 y1 y2 y3 y4 y5 y6 y7 y8 y9 y10=>cnd y0 (bn (S.p_Expr y1) fun x69=>an (okG 26 x69.1) (fl x69.1 [4,5] (bn (S.p_take x69.2 [100,101,115,99]) fun x70=>fl x69.1 [4,5] (an (y8.beq y8) (an (y9.length.beq y9.length) (cnd y9.isEmpty False (an (sized 7 y9) (an (roomOk (y9.length + 1) 104) (an ((y9.length + 1).beq (y9 ++ [D.agg [.int .i64 (cI x69.1 0),.int .i64 (cI x69.1 1),.str (cS x69.1 2),.str (cS x69.1 3),cel x69.1 4,cel x69.1 5,.bool x70.1]]).length) (bn (S.p_take x70.2 [44]) fun x71=>l (.l6 x71.1 x71.2 y2 y3 y4 y5 y6 y7 y10 (y9 ++ [D.agg [.int .i64 (cI x69.1 0),.int .i64 (cI x69.1 1),.str (cS x69.1 2),.str (cS x69.1 3),cel x69.1 4,cel x69.1 5,.bool x70.1]]) (y10 + 1)))))))))))) (bn (S.p_take y1 [108,105,109,105,116]) fun x72=>cnd x72.1 (bn (S.p_int x72.2) fun x73=>an y3.flat (an y4.flat (an y5.flat (an y6.flat (an y7.flat (r ((.agg [.int .i64 1,.bool y2,y3,y4,y5,y6,y7,D.slice y9,.int .i64 x73.1,.nils]),x73.2))))))) (an y3.flat (an y4.flat (an y5.flat (an y6.flat (an y7.flat (r ((.agg [.int .i64 1,.bool y2,y3,y4,y5,y6,y7,D.slice y9,.int .i64 (-1),.nils]),x72.2))))))))
theorem Qmv (S:Q9):KOk Tryz.prog [] 58 Tryz.f58 (Qg S) [([0,0,1,1,1,1,1,1],[(1,1),(3,1),(6,81)],false),([0,1,1,0,1,0,1,1,1,1,1,1,1,1,1,1],[(1,1),(3,1),(6,81)],false),([1,1,1,1,1,1,1,1],[(1,1),(3,1),(5,82)],true),([1,1,1,1,1,1,1,1,1],[(1,1),(3,1),(5,82)],true),([1,1,1,1,1,1,1,1,1,1],[(1,1),(3,1),(5,82)],true)] 1 Qjs Jt (QI S):=by intro K g v; cases v <;> kernel_rfl
theorem Qmk {S:Q9}:Mono (QI S):=fun _ _ _ hl v=>by cases v <;> (dsimp only [QI]; repeat' first | apply Qv | apply QF | (refine QE fun _=>?_) | (refine Qr ?_ ?_ fun _ _=>?_) | apply Qs | exact hl _ | exact id)
def Q9h (S:Q9) (n:Nat) (s0:B74):Option (D × B74):=rawN Jt (QI S) n (.e s0)
theorem QkR {S:Q9} (hS:Qf S) (n:Nat):EntryOk Tryz.prog (e25 58 38 (Q9h S n)):=Je fun _ _ hr=>Qd Q7 Tryz.func58 rfl hS (Qmv S) Qmk rfl rfl hr
inductive Q8t where
 | e (s0:B105)
 | l0 (y0:B105) (y1:Bool) (y2:D) (y3:D) (y4:Nat)
 | l1 (y0:B105) (y1:Bool) (y2:D) (y3:D) (y4:D) (y5:Nat)
 | l2 (y0:B105) (y1:Bool) (y2:D) (y3:D) (y4:D) (y5:D) (y6:D) (y7:Nat)
def Qko:Q8t → Pth × List AV × Heap
 | .e s0=>([],startT Tryz.f57 [.ptr (some (0,0))],[b105 s0 0])
 | .l0 y0 y1 y2 y3 y4=>([1,1,1,1,1,1],mkT 64 [(0,.ptr (some (0,0))),(2,.ptr (some (1,0))),(4,.ptr (some (2,0)))],[some (o105 y0 0),some (.cells 38 [.dat (.int .i64 0),.dat (.bool false),.dat .nils,.dat .nils,.dat .nils,.dat .nils,.dat .nils,.dat .nils,.dat (.int .i64 0),.dat .nils] 0),some (.cells 38 [.dat (.int .i64 1),.dat (.bool y1),.dat y2,.dat y3,.dat .nils,.dat .nils,.dat .nils,.dat .nils,.dat (.int .i64 (-1)),.dat .nils] y4)])
 | .l1 y0 y1 y2 y3 y4 y5=>([1,1,1,1,1,1,1],mkT 64 [(0,.ptr (some (0,0))),(2,.ptr (some (1,0))),(4,.ptr (some (2,0)))],[some (o105 y0 0),some (.cells 38 [.dat (.int .i64 0),.dat (.bool false),.dat .nils,.dat .nils,.dat .nils,.dat .nils,.dat .nils,.dat .nils,.dat (.int .i64 0),.dat .nils] 0),some (.cells 38 [.dat (.int .i64 1),.dat (.bool y1),.dat y2,.dat y3,.dat y4,.dat .nils,.dat .nils,.dat .nils,.dat (.int .i64 (-1)),.dat .nils] y5)])
 | .l2 y0 y1 y2 y3 y4 y5 y6 y7=>([1,1,1,1,1,1,1,1],mkT 64 [(0,.ptr (some (0,0))),(2,.ptr (some (1,0))),(4,.ptr (some (2,0)))],[some (o105 y0 0),some (.cells 38 [.dat (.int .i64 0),.dat (.bool false),.dat .nils,.dat .nils,.dat .nils,.dat .nils,.dat .nils,.dat .nils,.dat (.int .i64 0),.dat .nils] 0),some (.cells 38 [.dat (.int .i64 1),.dat (.bool y1),.dat y2,.dat y3,.dat y4,.dat y5,.dat y6,.dat .nils,.dat (.int .i64 (-1)),.dat .nils] y7)])
def Jl (S:Q9) (r:D × B105 → Prop) (l:Q8t → Prop):Q8t → Prop
 | .e s0=>bn (S.s_mark s0 [40]) fun x22=>cnd x22.1 (bn (S.s_query x22.2) fun x23=>an (okG 38 x23.1) (fl x23.1 [2,3,4,5,6,7,9] (bn (S.s_need x23.2 [41]) fun x24=>fl x23.1 [2,3,4,5,6,7,9] (r ((G 38 x23.1),x24))))) (bn (S.s_must x22.2 [115,101,108,101,99,116]) fun x25=>bn (S.s_word x25 [100,105,115,116,105,110,99,116]) fun x26=>bn (S.s_list_item x26.2) fun x27=>an x27.1.flat (an x27.1.flat (bn (S.s_word x27.2 [102,114,111,109]) fun x28=>cnd x28.1 (bn (S.s_source x28.2) fun x29=>an (okG 65 x29.1) (l (.l0 x29.2 x26.1 x27.1 (.slice [G 65 x29.1]) 12))) (l (.l0 x28.2 x26.1 x27.1 .nils 11)))))
 | .l0 y0 y1 y2 y3 y4=>bn (S.s_word y0 [119,104,101,114,101]) fun x30=>cnd x30.1 (bn (S.s_expr x30.2) fun x31=>an (okG 26 x31.1) (l (.l1 x31.2 y1 y2 y3 (.slice [G 26 x31.1]) (y4 + 1)))) (l (.l1 x30.2 y1 y2 y3 .nils y4))
 | .l1 y0 y1 y2 y3 y4 y5=>bn (S.s_word y0 [103,114,111,117,112]) fun x32=>cnd x32.1 (bn (S.s_must x32.2 [98,121]) fun x33=>bn (S.s_list_expr x33) fun x34=>an x34.1.flat (an x34.1.flat (bn (S.s_word x34.2 [104,97,118,105,110,103]) fun x35=>cnd x35.1 (bn (S.s_expr x35.2) fun x36=>an (okG 26 x36.1) (l (.l2 x36.2 y1 y2 y3 y4 x34.1 (.slice [G 26 x36.1]) (y5 + 1 + 1)))) (l (.l2 x35.2 y1 y2 y3 y4 x34.1 .nils (y5 + 1)))))) (l (.l2 x32.2 y1 y2 y3 y4 .nils .nils y5))
 | .l2 y0 y1 y2 y3 y4 y5 y6 y7=>bn (S.s_word y0 [111,114,100,101,114]) fun x37=>cnd x37.1 (bn (S.s_must x37.2 [98,121]) fun x38=>bn (S.s_list_key x38) fun x39=>an x39.1.flat (an x39.1.flat (bn (S.s_word x39.2 [108,105,109,105,116]) fun x40=>cnd x40.1 (bn (S.s_number x40.2) fun x41=>an y2.flat (an y3.flat (an y4.flat (an y5.flat (an y6.flat (an x39.1.flat (r ((.agg [.int .i64 1,.bool y1,y2,y3,y4,y5,y6,x39.1,.int .i64 x41.1,.nils]),x41.2)))))))) (an y2.flat (an y3.flat (an y4.flat (an y5.flat (an y6.flat (an x39.1.flat (r ((.agg [.int .i64 1,.bool y1,y2,y3,y4,y5,y6,x39.1,.int .i64 (-1),.nils]),x40.2))))))))))) (bn (S.s_word x37.2 [108,105,109,105,116]) fun x42=>cnd x42.1 (bn (S.s_number x42.2) fun x43=>an y2.flat (an y3.flat (an y4.flat (an y5.flat (an y6.flat (r ((.agg [.int .i64 1,.bool y1,y2,y3,y4,y5,y6,.nils,.int .i64 x43.1,.nils]),x43.2))))))) (an y2.flat (an y3.flat (an y4.flat (an y5.flat (an y6.flat (r ((.agg [.int .i64 1,.bool y1,y2,y3,y4,y5,y6,.nils,.int .i64 (-1),.nils]),x42.2))))))))
theorem Qpj (S:Q9):KOk Tryz.prog [] 57 Tryz.f57 (Qg S) [([1,1,1,1,1,1],[(1,1),(3,1),(5,59)],true),([1,1,1,1,1,1,1],[(1,1),(3,1),(5,59)],true),([1,1,1,1,1,1,1,1],[(1,1),(3,1),(5,59)],true)] 1 Qko Jj (Jl S):=by intro K g v; cases v <;> kernel_rfl
theorem QnE {S:Q9}:Mono (Jl S):=fun _ _ _ hl v=>by cases v <;> (dsimp only [Jl]; repeat' first | apply Qv | apply QF | (refine QE fun _=>?_) | (refine Qr ?_ ?_ fun _ _=>?_) | apply Qs | exact hl _ | exact id)
def Q7n (S:Q9) (n:Nat) (s0:B105):Option (D × B105):=rawN Jj (Jl S) n (.e s0)
theorem Qkb {S:Q9} (hS:Qf S) (n:Nat):EntryOk Tryz.prog (e0 57 38 (Q7n S n)):=QR fun _ _ hr=>Qd Q7 Tryz.func57 rfl hS (Qpj S) QnE rfl rfl hr
inductive Q8i where
 | en (s0:B132)
 | eo (s0:B132) (es0:List D) (w0:Nat)
def Ql8:Q8i → Pth × List AV × Heap
 | .en s0=>([],startT Tryz.f110 [.ptr (some (0,0))],[some (.cells 132 [.dat (.str (s0).c0),.dat (.int .i64 (s0).c1),.dat .nils] s0.ver)])
 | .eo s0 es0 w0=>([],startT Tryz.f110 [.ptr (some (0,0))],[some (.cells 132 [.dat (.str (s0).c0),.dat (.int .i64 (s0).c1),.own (.at 0 2 w0 107) es0] s0.ver)])
def Q5t (S:Q9) (r:Int × B132 → Prop) (l:Q8i → Prop):Q8i → Prop
 | .en s0=>bn (S.t_run_name (B132.mk s0.c0 s0.c1 GC.n s0.ver)) fun x20=>gcas x20.2.c2 (cnd (decide (Int.ofNat x20.1.length > 30)) (bn (S.t_form (B132.mk x20.2.c0 x20.2.c1 GC.n x20.2.ver) s0.c1) fun x22=>gcas x22.2.c2 (r (x22.1,(⟨x22.2.c0,x22.2.c1,.n,x22.2.ver⟩:B132))) False fun x23 w23=>r (x22.1,(⟨x22.2.c0,x22.2.c1,(.o x23 w23),x22.2.ver⟩:B132))) (bn (S.t_put (B132.mk x20.2.c0 x20.2.c1 GC.n x20.2.ver) (.agg [.int .i64 1,.str x20.1,.int .i64 0,.int .i64 s0.c1])) fun x24=>gcas x24.2.c2 (r (x24.1,(⟨x24.2.c0,x24.2.c1,.n,x24.2.ver⟩:B132))) False fun x25 w25=>r (x24.1,(⟨x24.2.c0,x24.2.c1,(.o x25 w25),x24.2.ver⟩:B132)))) False fun x21 w21=>cnd (decide (Int.ofNat x20.1.length > 30)) (bn (S.t_form (B132.mk x20.2.c0 x20.2.c1 (GC.o x21 w21) x20.2.ver) s0.c1) fun x26=>gcas x26.2.c2 (r (x26.1,(⟨x26.2.c0,x26.2.c1,.n,x26.2.ver⟩:B132))) False fun x27 w27=>r (x26.1,(⟨x26.2.c0,x26.2.c1,(.o x27 w27),x26.2.ver⟩:B132))) (bn (S.t_put (B132.mk x20.2.c0 x20.2.c1 (GC.o x21 w21) x20.2.ver) (.agg [.int .i64 1,.str x20.1,.int .i64 0,.int .i64 s0.c1])) fun x28=>gcas x28.2.c2 (r (x28.1,(⟨x28.2.c0,x28.2.c1,.n,x28.2.ver⟩:B132))) False fun x29 w29=>r (x28.1,(⟨x28.2.c0,x28.2.c1,(.o x29 w29),x28.2.ver⟩:B132)))
 | .eo s0 es0 w0=>bn (S.t_run_name (B132.mk s0.c0 s0.c1 (GC.o es0 w0) s0.ver)) fun x30=>gcas x30.2.c2 (cnd (decide (Int.ofNat x30.1.length > 30)) (bn (S.t_form (B132.mk x30.2.c0 x30.2.c1 GC.n x30.2.ver) s0.c1) fun x32=>gcas x32.2.c2 (r (x32.1,(⟨x32.2.c0,x32.2.c1,.n,x32.2.ver⟩:B132))) False fun x33 w33=>r (x32.1,(⟨x32.2.c0,x32.2.c1,(.o x33 w33),x32.2.ver⟩:B132))) (bn (S.t_put (B132.mk x30.2.c0 x30.2.c1 GC.n x30.2.ver) (.agg [.int .i64 1,.str x30.1,.int .i64 0,.int .i64 s0.c1])) fun x34=>gcas x34.2.c2 (r (x34.1,(⟨x34.2.c0,x34.2.c1,.n,x34.2.ver⟩:B132))) False fun x35 w35=>r (x34.1,(⟨x34.2.c0,x34.2.c1,(.o x35 w35),x34.2.ver⟩:B132)))) False fun x31 w31=>cnd (decide (Int.ofNat x30.1.length > 30)) (bn (S.t_form (B132.mk x30.2.c0 x30.2.c1 (GC.o x31 w31) x30.2.ver) s0.c1) fun x36=>gcas x36.2.c2 (r (x36.1,(⟨x36.2.c0,x36.2.c1,.n,x36.2.ver⟩:B132))) False fun x37 w37=>r (x36.1,(⟨x36.2.c0,x36.2.c1,(.o x37 w37),x36.2.ver⟩:B132))) (bn (S.t_put (B132.mk x30.2.c0 x30.2.c1 (GC.o x31 w31) x30.2.ver) (.agg [.int .i64 1,.str x30.1,.int .i64 0,.int .i64 s0.c1])) fun x38=>gcas x38.2.c2 (r (x38.1,(⟨x38.2.c0,x38.2.c1,.n,x38.2.ver⟩:B132))) False fun x39 w39=>r (x38.1,(⟨x38.2.c0,x38.2.c1,(.o x39 w39),x38.2.ver⟩:B132)))
theorem Qf7 (S:Q9):KOk Tryz.prog [true] 110 Tryz.f110 (Qg S) [] 1 Ql8 ZW (Q5t S):=by intro K g v; cases v <;> kernel_rfl
def Q9I (S:Q9) (n:Nat) (s0:B132):Option (Int × B132):=gcas s0.c2 (rawN ZW (Q5t S) n (.en s0)) (none) fun es0 w0=>rawN ZW (Q5t S) n (.eo s0 es0 w0)
theorem Qla {S:Q9} (hS:Qf S) (n:Nat):EntryOk Tryz.prog (e37 110 (Q9I S n)):=HZ fun ⟨_,_,g0,_⟩ r hr=>by
 rcases g0 with _ | _ | ⟨_,_⟩
 ·exact Qd Q7 Tryz.func110 rfl hS (Qf7 S) (fun _ _ _ _ v=>by cases v <;> exact id) rfl rfl hr
 ·exact nomatch (show (none:Option (Int × B132)) = some r from hr)
 ·exact Qd Q7 Tryz.func110 rfl hS (Qf7 S) (fun _ _ _ _ v=>by cases v <;> exact id) rfl rfl hr
inductive Q2Y where
 | e (s0:B105)
 | l0 (y0:B105) (y1:D)
 | l1 (y0:B105) (y1:Int) (y2:List D) (y3:List D) (y4:Nat)
def QeR:Q2Y → Pth × List AV × Heap
 | .e s0=>([],startT Tryz.f91 [.ptr (some (0,0))],[b105 s0 0])
 | .l0 y0 y1=>([0,0,1,1],mkT 36 [(0,.ptr (some (0,0))),(2,.ptr (some (1,0))),(3,.ptr (some (2,0)))],[some (o105 y0 0),some (.cells 65 [.dat (.int .i64 0),.dat (.str []),.dat (.bool false),.dat (.str []),.dat .nils,.dat .nils,.dat .nils] 0),some (sbx 65 y1 7)])
 | .l1 y0 y1 y2 y3 y4=>([0,0,1,1],mkT 36 [(0,.ptr (some (0,0))),(2,.ptr (some (1,0))),(3,.ptr (some (2,0)))],[some (o105 y0 0),some (.cells 65 [.dat (.int .i64 0),.dat (.str []),.dat (.bool false),.dat (.str []),.dat .nils,.dat .nils,.dat .nils] 0),some (.cells 65 [.dat (.int .i64 y1),.dat (.str []),.dat (.bool false),.dat (.str []),.dat .nils,.own .full y2,.own .full y3] y4)])
def Jx (S:Q9) (r:D × B105 → Prop) (l:Q2Y → Prop):Q2Y → Prop
 | .e s0=>bn (S.s_single s0) fun x28=>an (okG 65 x28.1) (fl x28.1 [4,5,6] (l (.l0 x28.2 x28.1)))
 | .l0 y0 y1=>cnd (y0.c4 == 0) (bn (S.s_word y0 [108,101,102,116]) fun x29=>cnd x29.1 (bn (S.s_must x29.2 [106,111,105,110]) fun x30=>bn (S.s_single x30) fun x31=>an (okG 65 x31.1) (fl x31.1 [4,5,6] (bn (S.s_must x31.2 [111,110]) fun x32=>bn (S.s_expr x32) fun x33=>an (okG 26 x33.1) (l (.l1 x33.2 4 [G 65 y1,G 65 x31.1] [G 26 x33.1] 14))))) (bn (S.s_word x29.2 [106,111,105,110]) fun x34=>cnd x34.1 (bn (S.s_single x34.2) fun x35=>an (okG 65 x35.1) (fl x35.1 [4,5,6] (bn (S.s_must x35.2 [111,110]) fun x36=>bn (S.s_expr x36) fun x37=>an (okG 26 x37.1) (l (.l1 x37.2 3 [G 65 y1,G 65 x35.1] [G 26 x37.1] 14))))) (fl y1 [4,5,6] (r ((G 65 y1),x34.2))))) (fl y1 [4,5,6] (r ((G 65 y1),y0)))
 | .l1 y0 y1 y2 y3 y4=>cnd (y0.c4 == 0) (bn (S.s_word y0 [108,101,102,116]) fun x38=>cnd x38.1 (bn (S.s_must x38.2 [106,111,105,110]) fun x39=>bn (S.s_single x39) fun x40=>an (okG 65 x40.1) (fl x40.1 [4,5,6] (bn (S.s_must x40.2 [111,110]) fun x41=>bn (S.s_expr x41) fun x42=>an (okG 26 x42.1) (l (.l1 x42.2 4 [.agg [.int .i64 y1,.str [],.bool false,.str [],.nils,D.slice y2,D.slice y3],G 65 x40.1] [G 26 x42.1] (y4 + 7)))))) (bn (S.s_word x38.2 [106,111,105,110]) fun x43=>cnd x43.1 (bn (S.s_single x43.2) fun x44=>an (okG 65 x44.1) (fl x44.1 [4,5,6] (bn (S.s_must x44.2 [111,110]) fun x45=>bn (S.s_expr x45) fun x46=>an (okG 26 x46.1) (l (.l1 x46.2 3 [.agg [.int .i64 y1,.str [],.bool false,.str [],.nils,D.slice y2,D.slice y3],G 65 x44.1] [G 26 x46.1] (y4 + 7)))))) (r ((.agg [.int .i64 y1,.str [],.bool false,.str [],.nils,D.slice y2,D.slice y3]),x43.2)))) (r ((.agg [.int .i64 y1,.str [],.bool false,.str [],.nils,D.slice y2,D.slice y3]),y0))
theorem QgN (S:Q9):KOk Tryz.prog [] 91 Tryz.f91 (Qg S) [([0,0,1,1],[(1,1),(4,32)],false)] 1 QeR Jj (Jx S):=by intro K g v; cases v <;> kernel_rfl
theorem QhP {S:Q9}:Mono (Jx S):=fun _ _ _ hl v=>by cases v <;> (dsimp only [Jx]; repeat' first | apply Qv | apply QF | (refine QE fun _=>?_) | (refine Qr ?_ ?_ fun _ _=>?_) | apply Qs | exact hl _ | exact id)
def Q3H (S:Q9) (n:Nat) (s0:B105):Option (D × B105):=rawN Jj (Jx S) n (.e s0)
theorem Qe0 {S:Q9} (hS:Qf S) (n:Nat):EntryOk Tryz.prog (e0 91 65 (Q3H S n)):=QR fun _ _ hr=>Qd Q7 Tryz.func91 rfl hS (QgN S) QhP rfl rfl hr
inductive Q0f where
 | en (s0:B167) (a1:Int)
 | em (s0:B167) (a1:Int)
 | eo (s0:B167) (a1:Int) (es0:List D) (w0:Nat)
def Q9B:Q0f → Pth × List AV × Heap
 | .en s0 a1=>([],startT Tryz.f135 [.ptr (some (0,0)),.dat (.int .u8 a1)],[some (.cells 167 [.ptr none,.dat .nils] s0.ver)])
 | .em s0 a1=>([],startT Tryz.f135 [.ptr (some (0,0)),.dat (.int .u8 a1)],[some (.cells 167 [.ptr (some (0,0)),.dat .nils] s0.ver)])
 | .eo s0 a1 es0 w0=>([],startT Tryz.f135 [.ptr (some (0,0)),.dat (.int .u8 a1)],[some (.cells 167 [.ptr (some (0,0)),.own (.at 0 1 w0 5) es0] s0.ver)])
def Z9 (S:Q9) (r:Unit × B167 → Prop) (l:Q0f → Prop):Q0f → Prop
 | .en s0 a1=>bn (S.b_copyCheck (B167.mk GC.n s0.ver)) fun x6=>gcas x6.c1 False (r ((),(⟨(.o [.int .u8 a1] x6.ver),x6.ver + 1⟩:B167))) fun x7 w7=>an (w7.beq w7) (an (x7.length.beq x7.length) (cnd x7.isEmpty False (an (sized 1 x7) (an (roomOk (x7.length + 1) 1) (an ((x7.length + 1).beq (x7 ++ [D.int .u8 a1]).length) (r ((),(⟨(.o (x7 ++ [D.int .u8 a1]) x6.ver),x6.ver + 1⟩:B167))))))))
 | .em s0 a1=>bn (S.b_copyCheck (B167.mk GC.m s0.ver)) fun x8=>gcas x8.c1 False (r ((),(⟨(.o [.int .u8 a1] x8.ver),x8.ver + 1⟩:B167))) fun x9 w9=>an (w9.beq w9) (an (x9.length.beq x9.length) (cnd x9.isEmpty False (an (sized 1 x9) (an (roomOk (x9.length + 1) 1) (an ((x9.length + 1).beq (x9 ++ [D.int .u8 a1]).length) (r ((),(⟨(.o (x9 ++ [D.int .u8 a1]) x8.ver),x8.ver + 1⟩:B167))))))))
 | .eo s0 a1 es0 w0=>bn (S.b_copyCheck (B167.mk (GC.o es0 w0) s0.ver)) fun x10=>gcas x10.c1 False (r ((),(⟨(.o [.int .u8 a1] x10.ver),x10.ver + 1⟩:B167))) fun x11 w11=>an (w11.beq w11) (an (x11.length.beq x11.length) (cnd x11.isEmpty False (an (sized 1 x11) (an (roomOk (x11.length + 1) 1) (an ((x11.length + 1).beq (x11 ++ [D.int .u8 a1]).length) (r ((),(⟨(.o (x11 ++ [D.int .u8 a1]) x10.ver),x10.ver + 1⟩:B167))))))))
theorem HU (S:Q9):KOk Tryz.prog [true] 135 Tryz.f135 (Qg S) [] 1 Q9B Q4h (Z9 S):=by intro K g v; cases v <;> kernel_rfl
def Q1e (S:Q9) (n:Nat) (s0:B167) (a1:Int):Option (Unit × B167):=gcas s0.c1 (rawN Q4h (Z9 S) n (.en s0 a1)) (rawN Q4h (Z9 S) n (.em s0 a1)) fun es0 w0=>rawN Q4h (Z9 S) n (.eo s0 a1 es0 w0)
theorem Q98 {S:Q9} (hS:Qf S) (n:Nat):EntryOk Tryz.prog (e44 135 (Q1e S n)):=Qnp fun ⟨g0,_⟩ _ r hr=>by
 rcases g0 with _ | _ | ⟨_,_⟩
 ·exact Qd Q7 Tryz.func135 rfl hS (HU S) (fun _ _ _ _ v=>by cases v <;> exact id) rfl rfl hr
 ·exact Qd Q7 Tryz.func135 rfl hS (HU S) (fun _ _ _ _ v=>by cases v <;> exact id) rfl rfl hr
 ·exact Qd Q7 Tryz.func135 rfl hS (HU S) (fun _ _ _ _ v=>by cases v <;> exact id) rfl rfl hr
inductive Q8w where
 | e (s0:B105)
def Qmb:Q8w → Pth × List AV × Heap
 | .e s0=>([],startT Tryz.f152 [.ptr (some (0,0))],[b105 s0 0])
def Q0t (S:Q9) (r:D × B105 → Prop) (l:Q8w → Prop):Q8w → Prop
 | .e s0=>cnd (s0.c4 != 0) (r ((.agg [.int .i64 0,.int .i64 0,.str [],.str [],.nils,.nils]),s0)) (bn (S.s_now s0) fun x15=>an (okG 107 x15.1) (cnd (cI x15.1 0 == 2) (bn (S.s_next x15.2) fun x16=>r ((.agg [.int .i64 3,.int .i64 (cI x15.1 2),.str [],.str [],.nils,.nils]),x16)) (cnd (cI x15.1 0 == 3) (bn (S.s_next x15.2) fun x17=>r ((.agg [.int .i64 4,.int .i64 0,.str (cS x15.1 1),.str [],.nils,.nils]),x17)) (bn (S.s_word x15.2 [110,117,108,108]) fun x18=>cnd x18.1 (r ((.agg [.int .i64 1,.int .i64 0,.str [],.str [],.nils,.nils]),x18.2)) (bn (S.s_word x18.2 [116,114,117,101]) fun x19=>cnd x19.1 (r ((.agg [.int .i64 2,.int .i64 1,.str [],.str [],.nils,.nils]),x19.2)) (bn (S.s_word x19.2 [102,97,108,115,101]) fun x20=>cnd x20.1 (r ((.agg [.int .i64 2,.int .i64 0,.str [],.str [],.nils,.nils]),x20.2)) (bn (S.s_mark x20.2 [58]) fun x21=>cnd x21.1 (bn (S.s_name x21.2) fun x22=>r ((.agg [.int .i64 6,.int .i64 0,.str x22.1,.str [],.nils,.nils]),x22.2)) (bn (S.s_word x21.2 [99,97,115,101]) fun x23=>cnd x23.1 (bn (S.s_cases x23.2) fun x24=>an (okG 26 x24.1) (fl x24.1 [4,5] (r ((G 26 x24.1),x24.2)))) (bn (S.s_word x23.2 [101,120,105,115,116,115]) fun x25=>cnd x25.1 (bn (S.s_bracketed x25.2) fun x26=>an (okG 38 x26.1) (r ((.agg [.int .i64 12,.int .i64 0,.str [],.str [],.nils,D.slice [G 38 x26.1]]),x26.2))) (bn (S.s_mark x25.2 [40]) fun x27=>cnd x27.1 (bn (S.s_round x27.2) fun x28=>an (okG 26 x28.1) (fl x28.1 [4,5] (r ((G 26 x28.1),x28.2)))) (bn (S.s_column x27.2) fun x29=>an (okG 26 x29.1) (fl x29.1 [4,5] (r ((G 26 x29.1),x29.2))))))))))))))
theorem Qnf (S:Q9):KOk Tryz.prog [] 152 Tryz.f152 (Qg S) [] 1 Qmb Jj (Q0t S):=by intro K g v; cases v <;> kernel_rfl
def Q7p (S:Q9) (n:Nat) (s0:B105):Option (D × B105):=rawN Jj (Q0t S) n (.e s0)
theorem Qk0 {S:Q9} (hS:Qf S) (n:Nat):EntryOk Tryz.prog (e0 152 26 (Q7p S n)):=QR fun _ _ hr=>Qd Q7 Tryz.func152 rfl hS (Qnf S) (fun _ _ _ _ v=>by cases v <;> exact id) rfl rfl hr
inductive Q38 where
 | en (s0:B167)
 | em (s0:B167)
 | eo (s0:B167) (es0:List D) (w0:Nat)
def QeA:Q38 → Pth × List AV × Heap
 | .en s0=>([],startT Tryz.f137 [.ptr (some (0,0))],[some (.cells 167 [.ptr none,.dat .nils] s0.ver)])
 | .em s0=>([],startT Tryz.f137 [.ptr (some (0,0))],[some (.cells 167 [.ptr (some (0,0)),.dat .nils] s0.ver)])
 | .eo s0 es0 w0=>([],startT Tryz.f137 [.ptr (some (0,0))],[some (.cells 167 [.ptr (some (0,0)),.own (.at 0 1 w0 5) es0] s0.ver)])
def YE (S:Q9) (r:List UInt8 × B167 → Prop) (l:Q38 → Prop):Q38 → Prop
 | .en s0=>r ([],(⟨.n,s0.ver⟩:B167))
 | .em s0=>r ([],(⟨.m,s0.ver⟩:B167))
 | .eo s0 es0 w0=>cnd es0.isEmpty False (cnd (Int.ofNat es0.length == 0) (r ([],(⟨(.o es0 w0),s0.ver⟩:B167))) (an (true && w0.beq w0 && true && es0.length.beq es0.length && true && decide ((Int.ofNat es0.length).toNat ≤ es0.length) && true && decide (Int.ofNat es0.length ≤ 9223372036854775807)) (bn (bytesOf (List.take (Int.ofNat es0.length).toNat es0)) fun x1=>r (x1,(⟨(.o es0 w0),s0.ver⟩:B167)))))
theorem Q37 (S:Q9):KOk Tryz.prog [true] 137 Tryz.f137 (Qg S) [] 1 QeA Q4b (YE S):=by intro K g v; cases v <;> kernel_rfl
def Q4p (S:Q9) (n:Nat) (s0:B167):Option (List UInt8 × B167):=gcas s0.c1 (rawN Q4b (YE S) n (.en s0)) (rawN Q4b (YE S) n (.em s0)) fun es0 w0=>rawN Q4b (YE S) n (.eo s0 es0 w0)
theorem Qe3 {S:Q9} (hS:Qf S) (n:Nat):EntryOk Tryz.prog (e46 137 (Q4p S n)):=Qnc fun ⟨g0,_⟩ r hr=>by
 rcases g0 with _ | _ | ⟨_,_⟩
 ·exact Qd Q7 Tryz.func137 rfl hS (Q37 S) (fun _ _ _ _ v=>by cases v <;> exact id) rfl rfl hr
 ·exact Qd Q7 Tryz.func137 rfl hS (Q37 S) (fun _ _ _ _ v=>by cases v <;> exact id) rfl rfl hr
 ·exact Qd Q7 Tryz.func137 rfl hS (Q37 S) (fun _ _ _ _ v=>by cases v <;> exact id) rfl rfl hr
inductive Q6F where
 | e (s0:B74)
 | l0 (y0:List UInt8) (y1:B74) (y2:D) (y3:Nat)
def Qp2:Q6F → Pth × List AV × Heap
 | .e s0=>([],startT Tryz.f139 [.ptr (some (0,0))],[b74 s0 0])
 | .l0 y0 y1 y2 y3=>([0,0,1,1,1],mkT 21 [(0,.ptr (some (0,0))),(2,.ptr (some (1,0))),(3,.ptr (some (2,0))),(4,.dat (.str y0))],[some (o74 y1 0),some (.cells 26 [.dat (.int .i64 0),.dat (.int .i64 0),.dat (.str []),.dat (.str []),.dat .nils,.dat .nils] 0),some (sbx 26 y2 y3)])
def YI (S:Q9) (r:D × B74 → Prop) (l:Q6F → Prop):Q6F → Prop
 | .e s0=>bn (S.p_prod s0) fun x8=>an (okG 26 x8.1) (fl x8.1 [4,5] (bn (S.p_oneOf x8.2 (.slice [.str [43],.str [45],.str [124,124]])) fun x9=>l (.l0 x9.1 x9.2 x8.1 6)))
 | .l0 y0 y1 y2 y3=>cnd (!y0 == []) (bn (S.p_prod y1) fun x10=>an (okG 26 x10.1) (an (okG 26 (G 26 y2)) (an (okG 26 (G 26 x10.1)) (bn (S.r_bin y0 (G 26 y2) (G 26 x10.1)) fun x11=>an (okG 26 x11) (fl x11 [4,5] (bn (S.p_oneOf x10.2 (.slice [.str [43],.str [45],.str [124,124]])) fun x12=>l (.l0 x12.1 x12.2 x11 (y3 + 6)))))))) (fl y2 [4,5] (r ((G 26 y2),y1)))
theorem QqD (S:Q9):KOk Tryz.prog [] 139 Tryz.f139 (Qg S) [([0,0,1,1,1],[(1,1),(5,16)],false)] 1 Qp2 Jt (YI S):=by intro K g v; cases v <;> kernel_rfl
theorem QpZ {S:Q9}:Mono (YI S):=fun _ _ _ hl v=>by cases v <;> (dsimp only [YI]; repeat' first | apply Qv | apply QF | (refine QE fun _=>?_) | (refine Qr ?_ ?_ fun _ _=>?_) | apply Qs | exact hl _ | exact id)
def QaM (S:Q9) (n:Nat) (s0:B74):Option (D × B74):=rawN Jt (YI S) n (.e s0)
theorem Qpe {S:Q9} (hS:Qf S) (n:Nat):EntryOk Tryz.prog (e25 139 26 (QaM S n)):=Je fun _ _ hr=>Qd Q7 Tryz.func139 rfl hS (QqD S) QpZ rfl rfl hr
inductive HX where
 | e (a0:D) (a1:D)
 | l0 (y0:D) (y1:D) (y2:Int)
def Q6I:HX → Pth × List AV × Heap
 | .e a0 a1=>([],startT Tryz.f26 [.dat a0,.dat a1],[])
 | .l0 y0 y1 y2=>([0,1,0,1,1],mkT 27 [(0,.dat y0),(1,.dat y1),(5,.dat (.int .i64 y2))],[])
def Jr (S:Q9) (r:Bool → Prop) (l:HX → Prop):HX → Prop
 | .e a0 a1=>bn (asL a0) fun x14=>bn (asL a1) fun x15=>cnd (Int.ofNat x14.length != Int.ofNat x15.length) (r false) (l (.l0 a0 a1 0))
 | .l0 y0 y1 y2=>bn (asL y0) fun x16=>cnd (decide (y2 < Int.ofNat x16.length)) (bn (asL y0) fun x17=>bn (atD x17 y2) fun x18=>an (okG 26 x18) (bn (asL y1) fun x19=>bn (atD x19 y2) fun x20=>an (okG 26 x20) (an (okG 26 (G 26 x18)) (an (okG 26 (G 26 x20)) (bn (S.r_SameExpr (G 26 x18) (G 26 x20)) fun x21=>cnd (!x21) (r false) (l (.l0 y0 y1 (IntKind.i64.wrap (y2 + 1))))))))) (r true)
theorem Q9X (S:Q9):KOk Tryz.prog [] 26 Tryz.f26 (Qg S) [([0,1,0,1,1],[(2,3),(6,21)],false)] 0 Q6I Hl (Jr S):=by intro K g v; cases v <;> kernel_rfl
theorem Qa6 {S:Q9}:Mono (Jr S):=fun _ _ _ hl v=>by cases v <;> (dsimp only [Jr]; repeat' first | apply Qv | apply QF | (refine QE fun _=>?_) | (refine Qr ?_ ?_ fun _ _=>?_) | apply Qs | exact hl _ | exact id)
def Q1h (S:Q9) (n:Nat) (a0:D) (a1:D):Option (Bool):=rawN Hl (Jr S) n (.e a0 a1)
theorem Q8e {S:Q9} (hS:Qf S) (n:Nat):EntryOk Tryz.prog (e30 26 (Q1h S n)):=Q0d fun _ _ _ hr=>Qd Q7 Tryz.func26 rfl hS (Q9X S) Qa6 rfl rfl hr
inductive Q4I where
 | e (s0:B74) (a1:D)
 | l0 (y0:D) (y1:Int) (y2:B74)
def Qi5:Q4I → Pth × List AV × Heap
 | .e s0 a1=>([],startT Tryz.f140 [.ptr (some (0,0)),.dat a1],[b74 s0 0])
 | .l0 y0 y1 y2=>([0,1,0,1],mkT 22 [(0,.ptr (some (0,0))),(1,.dat y0),(5,.dat (.int .i64 y1))],[some (o74 y2 0)])
def ZS (S:Q9) (r:List UInt8 × B74 → Prop) (l:Q4I → Prop):Q4I → Prop
 | .e s0 a1=>l (.l0 a1 0 s0)
 | .l0 y0 y1 y2=>bn (asL y0) fun x16=>cnd (decide (y1 < Int.ofNat x16.length)) (bn (asL y0) fun x17=>bn (atD x17 y1) fun x18=>an x18.flat (bn (asS x18) fun x19=>bn (S.p_take y2 x19) fun x20=>cnd x20.1 (bn (asL y0) fun x21=>bn (atD x21 y1) fun x22=>an x22.flat (bn (asS x22) fun x23=>r (x23,x20.2))) (l (.l0 y0 (IntKind.i64.wrap (y1 + 1)) x20.2)))) (r ([],y2))
theorem Qk1 (S:Q9):KOk Tryz.prog [] 140 Tryz.f140 (Qg S) [([0,1,0,1],[(2,3),(6,16)],false)] 1 Qi5 Q8X (ZS S):=by intro K g v; cases v <;> kernel_rfl
theorem QjE {S:Q9}:Mono (ZS S):=fun _ _ _ hl v=>by cases v <;> (dsimp only [ZS]; repeat' first | apply Qv | apply QF | (refine QE fun _=>?_) | (refine Qr ?_ ?_ fun _ _=>?_) | apply Qs | exact hl _ | exact id)
def Q5D (S:Q9) (n:Nat) (s0:B74) (a1:D):Option (List UInt8 × B74):=rawN Q8X (ZS S) n (.e s0 a1)
theorem Qhy {S:Q9} (hS:Qf S) (n:Nat):EntryOk Tryz.prog (e26 140 (Q5D S n)):=QmG fun _ _ _ hr=>Qd Q7 Tryz.func140 rfl hS (Qk1 S) QjE rfl rfl hr
inductive Q7Z where
 | e (a0:List UInt8)
 | l0 (y0:List UInt8) (y1:D) (y2:Int)
def QlO:Q7Z → Pth × List AV × Heap
 | .e a0=>([],startT Tryz.f105 [.dat (.str a0)],[])
 | .l0 y0 y1 y2=>([0,1,0,1,1],mkT 18 [(0,.dat (.str y0)),(3,.dat y1),(4,.dat (.int .i64 y2))],[])
def Yo (S:Q9) (r:Bool → Prop) (l:Q7Z → Prop):Q7Z → Prop
 | .e a0=>bn S.k_Words fun x9=>l (.l0 a0 x9 0)
 | .l0 y0 y1 y2=>bn (asL y1) fun x10=>cnd (decide (y2 < Int.ofNat x10.length)) (bn (asL y1) fun x11=>bn (atD x11 y2) fun x12=>an x12.flat (bn (asS x12) fun x13=>cnd (x13 == y0) (r true) (l (.l0 y0 y1 (IntKind.i64.wrap (y2 + 1)))))) (r false)
theorem QmR (S:Q9):KOk Tryz.prog [] 105 Tryz.f105 (Qg S) [([0,1,0,1,1],[(1,2),(5,13)],false)] 0 QlO YB (Yo S):=by intro K g v; cases v <;> kernel_rfl
theorem Qpb {S:Q9}:Mono (Yo S):=fun _ _ _ hl v=>by cases v <;> (dsimp only [Yo]; repeat' first | apply Qv | apply QF | (refine QE fun _=>?_) | (refine Qr ?_ ?_ fun _ _=>?_) | apply Qs | exact hl _ | exact id)
def Q74 (S:Q9) (n:Nat) (a0:List UInt8):Option (Bool):=rawN YB (Yo S) n (.e a0)
theorem Qm6 {S:Q9} (hS:Qf S) (n:Nat):EntryOk Tryz.prog (e10 105 (Q74 S n)):=YP fun _ _ hr=>Qd Q7 Tryz.func105 rfl hS (QmR S) Qpb rfl rfl hr
inductive Q5h where
 | e (a0:List UInt8)
def Qg9:Q5h → Pth × List AV × Heap
 | .e a0=>([],startT Tryz.f12 [.dat (.str a0)],[])
def Q96 (S:Q9) (r:D × Int × Int → Prop) (l:Q5h → Prop):Q5h → Prop
 | .e a0=>bn (S.r_New a0 0) fun x3=>cnd (x3.c4 != 0) (r ((.agg [.int .i64 0,.bool false,.nils,.nils,.nils,.nils,.nils,.nils,.int .i64 0,.nils]),x3.c3,x3.c4)) (bn (S.p_Query x3) fun x4=>an (okG 38 x4.1) (fl x4.1 [2,3,4,5,6,7,9] (bn (S.p_End x4.2) fun x5=>cnd (x5.2.1 != 0) (r ((.agg [.int .i64 0,.bool false,.nils,.nils,.nils,.nils,.nils,.nils,.int .i64 0,.nils]),x5.1,x5.2.1)) (fl x4.1 [2,3,4,5,6,7,9] (r ((G 38 x4.1),x5.1,x5.2.1))))))
theorem QkE (S:Q9):KOk Tryz.prog [] 12 Tryz.f12 (Qg S) [] 0 Qg9 YC (Q96 S):=by intro K g v; cases v <;> kernel_rfl
def Q5Z (S:Q9) (n:Nat) (a0:List UInt8):Option (D × Int × Int):=rawN YC (Q96 S) n (.e a0)
theorem QfF {S:Q9} (hS:Qf S) (n:Nat):EntryOk Tryz.prog (e17 12 38 (Q5Z S n)):=YT fun _ _ hr=>Qd Q7 Tryz.func12 rfl hS (QkE S) (fun _ _ _ _ v=>by cases v <;> exact id) rfl rfl hr
inductive Q58 where
 | e (s0:B105)
def Qgj:Q58 → Pth × List AV × Heap
 | .e s0=>([],startT Tryz.f155 [.ptr (some (0,0))],[b105 s0 0])
def Hf (S:Q9) (r:D × B105 → Prop) (l:Q58 → Prop):Q58 → Prop
 | .e s0=>bn (S.s_sees s0 1 [115,101,108,101,99,116]) fun x5=>cnd x5.1 (bn (S.s_query x5.2) fun x6=>an (okG 38 x6.1) (bn (S.s_need x6.2 [41]) fun x7=>r ((.agg [.int .i64 14,.int .i64 0,.str [],.str [],.nils,D.slice [G 38 x6.1]]),x7))) (bn (S.s_expr x5.2) fun x8=>an (okG 26 x8.1) (fl x8.1 [4,5] (bn (S.s_need x8.2 [41]) fun x9=>fl x8.1 [4,5] (r ((G 26 x8.1),x9)))))
theorem QkU (S:Q9):KOk Tryz.prog [] 155 Tryz.f155 (Qg S) [] 1 Qgj Jj (Hf S):=by intro K g v; cases v <;> kernel_rfl
def Q5B (S:Q9) (n:Nat) (s0:B105):Option (D × B105):=rawN Jj (Hf S) n (.e s0)
theorem Qic {S:Q9} (hS:Qf S) (n:Nat):EntryOk Tryz.prog (e0 155 26 (Q5B S n)):=QR fun _ _ hr=>Qd Q7 Tryz.func155 rfl hS (QkU S) (fun _ _ _ _ v=>by cases v <;> exact id) rfl rfl hr
inductive Q7K where
 | e (s0:B105) (a1:Int) (a2:List UInt8)
def QlK:Q7K → Pth × List AV × Heap
 | .e s0 a1 a2=>([],startT Tryz.f82 [.ptr (some (0,0)),.dat (.int .i64 a1),.dat (.str a2)],[b105 s0 0])
def Q2q (S:Q9) (r:Bool × B105 → Prop) (l:Q7K → Prop):Q7K → Prop
 | .e s0 a1 a2=>cnd (s0.c4 == 0) (bn (S.s_now s0) fun x2=>an (okG 107 x2.1) (cnd (cI x2.1 0 == a1) (bn (S.s_now x2.2) fun x3=>an (okG 107 x3.1) (r ((cS x3.1 1 == a2),x3.2))) (r (false,x2.2)))) (r (false,s0))
theorem Qn2 (S:Q9):KOk Tryz.prog [] 82 Tryz.f82 (Qg S) [] 1 QlK Qi9 (Q2q S):=by intro K g v; cases v <;> kernel_rfl
def Q6M (S:Q9) (n:Nat) (s0:B105) (a1:Int) (a2:List UInt8):Option (Bool × B105):=rawN Qi9 (Q2q S) n (.e s0 a1 a2)
theorem Qlr {S:Q9} (hS:Qf S) (n:Nat):EntryOk Tryz.prog (e2 82 (Q6M S n)):=Qr7 fun _ _ _ _ hr=>Qd Q7 Tryz.func82 rfl hS (Qn2 S) (fun _ _ _ _ v=>by cases v <;> exact id) rfl rfl hr
inductive Q93 where
 | e (s0:B105)
def QjA:Q93 → Pth × List AV × Heap
 | .e s0=>([],startT Tryz.f90 [.ptr (some (0,0))],[b105 s0 0])
def Q0v (S:Q9) (r:D × B105 → Prop) (l:Q93 → Prop):Q93 → Prop
 | .e s0=>bn (S.s_expr s0) fun x3=>an (okG 26 x3.1) (fl x3.1 [4,5] (bn (S.s_must x3.2 [97,115]) fun x4=>bn (S.s_name x4) fun x5=>fl x3.1 [4,5] (r ((.agg [.int .i64 (cI x3.1 0),.int .i64 (cI x3.1 1),.str (cS x3.1 2),.str (cS x3.1 3),cel x3.1 4,cel x3.1 5,.str x5.1]),x5.2))))
theorem Qnb (S:Q9):KOk Tryz.prog [] 90 Tryz.f90 (Qg S) [] 1 QjA Jj (Q0v S):=by intro K g v; cases v <;> kernel_rfl
def Q8K (S:Q9) (n:Nat) (s0:B105):Option (D × B105):=rawN Jj (Q0v S) n (.e s0)
theorem Qmh {S:Q9} (hS:Qf S) (n:Nat):EntryOk Tryz.prog (e0 90 83 (Q8K S n)):=QR fun _ _ hr=>Qd Q7 Tryz.func90 rfl hS (Qnb S) (fun _ _ _ _ v=>by cases v <;> exact id) rfl rfl hr
inductive QcS where
 | e (s0:B105)
def Qn5:QcS → Pth × List AV × Heap
 | .e s0=>([],startT Tryz.f94 [.ptr (some (0,0))],[b105 s0 0])
def Q28 (S:Q9) (r:D × B105 → Prop) (l:QcS → Prop):QcS → Prop
 | .e s0=>bn (S.s_expr s0) fun x2=>an (okG 26 x2.1) (fl x2.1 [4,5] (bn (S.s_word x2.2 [100,101,115,99]) fun x3=>fl x2.1 [4,5] (r ((.agg [.int .i64 (cI x2.1 0),.int .i64 (cI x2.1 1),.str (cS x2.1 2),.str (cS x2.1 3),cel x2.1 4,cel x2.1 5,.bool x3.1]),x3.2))))
theorem QpW (S:Q9):KOk Tryz.prog [] 94 Tryz.f94 (Qg S) [] 1 Qn5 Jj (Q28 S):=by intro K g v; cases v <;> kernel_rfl
def Qbz (S:Q9) (n:Nat) (s0:B105):Option (D × B105):=rawN Jj (Q28 S) n (.e s0)
theorem Qn3 {S:Q9} (hS:Qf S) (n:Nat):EntryOk Tryz.prog (e0 94 85 (Qbz S n)):=QR fun _ _ hr=>Qd Q7 Tryz.func94 rfl hS (QpW S) (fun _ _ _ _ v=>by cases v <;> exact id) rfl rfl hr
inductive Q7g where
 | e (s0:B74) (a1:List UInt8)
def QjM:Q7g → Pth × List AV × Heap
 | .e s0 a1=>([],startT Tryz.f54 [.ptr (some (0,0)),.dat (.str a1)],[b74 s0 0])
def Q5w (S:Q9) (r:Bool × B74 → Prop) (l:Q7g → Prop):Q7g → Prop
 | .e s0 a1=>bn (S.p_is s0 a1) fun x1=>cnd (!x1.1) (r (false,x1.2)) (r (true,(B74.mk x1.2.c0 (IntKind.i64.wrap (x1.2.c1 + 1)) x1.2.c2 x1.2.c3 x1.2.c4)))
theorem Qoj (S:Q9):KOk Tryz.prog [] 54 Tryz.f54 (Qg S) [] 1 QjM Q3B (Q5w S):=by intro K g v; cases v <;> kernel_rfl
def Q9N (S:Q9) (n:Nat) (s0:B74) (a1:List UInt8):Option (Bool × B74):=rawN Q3B (Q5w S) n (.e s0 a1)
theorem QkN {S:Q9} (hS:Qf S) (n:Nat):EntryOk Tryz.prog (e19 54 (Q9N S n)):=QcW fun _ _ _ hr=>Qd Q7 Tryz.func54 rfl hS (Qoj S) (fun _ _ _ _ v=>by cases v <;> exact id) rfl rfl hr
inductive Q8Y where
 | e (s0:B105) (a1:List UInt8)
def Ql5:Q8Y → Pth × List AV × Heap
 | .e s0 a1=>([],startT Tryz.f49 [.ptr (some (0,0)),.dat (.str a1)],[b105 s0 0])
def Q5b (S:Q9) (r:Bool × B105 → Prop) (l:Q8Y → Prop):Q8Y → Prop
 | .e s0 a1=>bn (S.s_sees s0 1 a1) fun x2=>cnd x2.1 (bn (S.s_next x2.2) fun x3=>r (x2.1,x3)) (r (x2.1,x2.2))
theorem Qmj (S:Q9):KOk Tryz.prog [] 49 Tryz.f49 (Qg S) [] 1 Ql5 Qdt (Q5b S):=by intro K g v; cases v <;> kernel_rfl
def Q7r (S:Q9) (n:Nat) (s0:B105) (a1:List UInt8):Option (Bool × B105):=rawN Qdt (Q5b S) n (.e s0 a1)
theorem Qjz {S:Q9} (hS:Qf S) (n:Nat):EntryOk Tryz.prog (e4 49 (Q7r S n)):=Qj9 fun _ _ _ hr=>Qd Q7 Tryz.func49 rfl hS (Qmj S) (fun _ _ _ _ v=>by cases v <;> exact id) rfl rfl hr
inductive Q06 where
 | e (a0:List UInt8) (a1:List UInt8)
def Q8r:Q06 → Pth × List AV × Heap
 | .e a0 a1=>([],startT Tryz.f108 [.dat (.str a0),.dat (.str a1)],[])
def Ht (S:Q9) (r:Bool → Prop) (l:Q06 → Prop):Q06 → Prop
 | .e a0 a1=>bn (S.g_sHasPrefix a0 a1) fun x1=>r x1
theorem Qaa (S:Q9):KOk Tryz.prog [] 108 Tryz.f108 (Qg S) [] 0 Q8r Q3Y (Ht S):=by intro K g v; cases v <;> kernel_rfl
def Q19 (S:Q9) (n:Nat) (a0:List UInt8) (a1:List UInt8):Option (Bool):=rawN Q3Y (Ht S) n (.e a0 a1)
theorem Q8Z {S:Q9} (hS:Qf S) (n:Nat):EntryOk Tryz.prog (e41 108 (Q19 S n)):=Qcs fun _ _ _ hr=>Qd Q7 Tryz.func108 rfl hS (Qaa S) (fun _ _ _ _ v=>by cases v <;> exact id) rfl rfl hr
inductive Q8j where
 | e (s0:B105) (a1:List UInt8)
def Ql4:Q8j → Pth × List AV × Heap
 | .e s0 a1=>([],startT Tryz.f88 [.ptr (some (0,0)),.dat (.str a1)],[b105 s0 0])
def Q4P (S:Q9) (r:B105 → Prop) (l:Q8j → Prop):Q8j → Prop
 | .e s0 a1=>bn (S.s_word s0 a1) fun x2=>cnd (!x2.1) (bn (S.s_fail x2.2 10) fun x3=>r x3) (r x2.2)
theorem Qok (S:Q9):KOk Tryz.prog [] 88 Tryz.f88 (Qg S) [] 1 Ql4 QcA (Q4P S):=by intro K g v; cases v <;> kernel_rfl
def Q7B (S:Q9) (n:Nat) (s0:B105) (a1:List UInt8):Option (B105):=rawN QcA (Q4P S) n (.e s0 a1)
theorem QjX {S:Q9} (hS:Qf S) (n:Nat):EntryOk Tryz.prog (e5 88 (Q7B S n)):=Qjm fun _ _ _ hr=>Qd Q7 Tryz.func88 rfl hS (Qok S) (fun _ _ _ _ v=>by cases v <;> exact id) rfl rfl hr
inductive Qdh where
 | e (s0:B105)
def Qor:Qdh → Pth × List AV × Heap
 | .e s0=>([],startT Tryz.f115 [.ptr (some (0,0))],[b105 s0 0])
def Q2b (S:Q9) (r:D × B105 → Prop) (l:Qdh → Prop):Qdh → Prop
 | .e s0=>bn (S.s_left_sum s0 (.slice [.str [43],.str [45],.str [124,124]])) fun x1=>an (okG 26 x1.1) (fl x1.1 [4,5] (r ((G 26 x1.1),x1.2)))
theorem Qq3 (S:Q9):KOk Tryz.prog [] 115 Tryz.f115 (Qg S) [] 1 Qor Jj (Q2b S):=by intro K g v; cases v <;> kernel_rfl
def QaB (S:Q9) (n:Nat) (s0:B105):Option (D × B105):=rawN Jj (Q2b S) n (.e s0)
theorem Qne {S:Q9} (hS:Qf S) (n:Nat):EntryOk Tryz.prog (e0 115 26 (QaB S n)):=QR fun _ _ hr=>Qd Q7 Tryz.func115 rfl hS (Qq3 S) (fun _ _ _ _ v=>by cases v <;> exact id) rfl rfl hr
inductive Q56 where
 | e (a0:Int)
def QgQ:Q56 → Pth × List AV × Heap
 | .e a0=>([],startT Tryz.f84 [.dat (.int .u8 a0)],[])
def Q31 (S:Q9) (r:Bool → Prop) (l:Q56 → Prop):Q56 → Prop
 | .e a0=>cnd (a0 == 32) (r true) (cnd (a0 == 9) (r true) (cnd (a0 == 10) (r true) (r (a0 == 13))))
theorem QjD (S:Q9):KOk Tryz.prog [] 84 Tryz.f84 (Qg S) [] 0 QgQ Yz (Q31 S):=by intro K g v; cases v <;> kernel_rfl
def Q6l (S:Q9) (n:Nat) (a0:Int):Option (Bool):=rawN Yz (Q31 S) n (.e a0)
theorem Qh8 {S:Q9} (hS:Qf S) (n:Nat):EntryOk Tryz.prog (e32 84 (Q6l S n)):=YQ fun _ _ hr=>Qd Q7 Tryz.func84 rfl hS (QjD S) (fun _ _ _ _ v=>by cases v <;> exact id) rfl rfl hr
inductive Q4Y where
 | e (a0:Int)
def QgS:Q4Y → Pth × List AV × Heap
 | .e a0=>([],startT Tryz.f111 [.dat (.int .u8 a0)],[])
def Q36 (S:Q9) (r:Bool → Prop) (l:Q4Y → Prop):Q4Y → Prop
 | .e a0=>cnd (decide (a0 ≥ 48)) (r (decide (a0 ≤ 57))) (r false)
theorem QlX (S:Q9):KOk Tryz.prog [] 111 Tryz.f111 (Qg S) [] 0 QgS Yz (Q36 S):=by intro K g v; cases v <;> kernel_rfl
def Q5F (S:Q9) (n:Nat) (a0:Int):Option (Bool):=rawN Yz (Q36 S) n (.e a0)
theorem QhF {S:Q9} (hS:Qf S) (n:Nat):EntryOk Tryz.prog (e32 111 (Q5F S n)):=YQ fun _ _ hr=>Qd Q7 Tryz.func111 rfl hS (QlX S) (fun _ _ _ _ v=>by cases v <;> exact id) rfl rfl hr
end
end Go.Proofs.YtfdcjngclelnhaaGreat
